/- The reference's Spoil (printed by genrefB.py). -/
import Derived.Test.YtchchgdkejolaaaRefA
import Derived.Test.YtchchgdkejolaaaSpoilC
import Derived.Deep.Cut
namespace Go.Proofs.Ytchchgdkejolaaa
open Go.RowKit

theorem Kept.set2 {w w' : World} {p : Nat} (h : Kept (fun k => k = p) w w') (i : Nat) (u : Value) : Kept (fun k => k = p) w (w'.setCell ⟨p, i, none⟩ u) := h.trans (Kept.set1 _ _ _ _) (fun _ h => .inl h)
theorem Kept.seven (w : World) (p : Nat) (u0 u1 u2 u3 u4 u5 u6 : Value) : Kept (fun k => k = p) w (((((((w.setCell ⟨p, 0, none⟩ u0).setCell ⟨p, 1, none⟩ u1).setCell ⟨p, 2, none⟩ u2).setCell ⟨p, 3, none⟩ u3).setCell ⟨p, 4, none⟩ u4).setCell ⟨p, 5, none⟩ u5).setCell ⟨p, 6, none⟩ u6) :=
  ((((((Kept.set1 _ _ _ _).set2 _ _).set2 _ _).set2 _ _).set2 _ _).set2 _ _).set2 _ _

def zcells : Array Value := #[.int .i64 0, .int .i64 0, .slice none 0 0, .slice none 0 0, .slice none 0 0, .slice none 0 0, .bool false]

set_option maxHeartbeats 400000 in
theorem rspoil_no (s n : Int) (m : Value) (r : RV) (L : LS) (w : World) (h0 : (s == 0) = false) (h1 : (s == 1) = false) :
    Calls Try.prog 23 #[.agg (r.cells L), .int .i64 s, .int .i64 n, m] w fun e w' => e = .returned (.tuple #[.agg (r.cells L), .int .i64 1]) ∧ Kept NoF w w' := by
  unfold RV.cells
  go_enter Try.func23, Try.ntmps23
  go_wp2_with (go_at_call 27; refine (side_no s _ h0 h1).mono ?_; rintro e w' ⟨rfl, rfl⟩)
  exact bodyPost_ret (v := .tuple #[.agg (r.cells L), .int .i64 1]) (by simp [results, Try.results23, go_sem, RV.cells]) rfl ⟨rfl, ((Kept.refl _ _).alloc _).alloc _⟩

set_option maxHeartbeats 400000 in
theorem rspoil_neg (s n : Int) (m : Value) (r : RV) (L : LS) (w : World) (h : s = 0 ∨ s = 1) (hn : n < 0) :
    Calls Try.prog 23 #[.agg (r.cells L), .int .i64 s, .int .i64 n, m] w fun e w' => e = .returned (.tuple #[.agg (r.cells L), .int .i64 1]) ∧ Kept NoF w w' := by
  unfold RV.cells
  go_enter Try.func23, Try.ntmps23
  go_wp2_with (go_at_call 27; refine (side_yes s _ h).mono ?_; rintro e w' ⟨rfl, rfl⟩)
  exact bodyPost_ret (v := .tuple #[.agg (r.cells L), .int .i64 1]) (by simp [results, Try.results23, go_sem, RV.cells]) rfl ⟨rfl, ((Kept.refl _ _).alloc _).alloc _⟩

set_option maxHeartbeats 400000 in
theorem rspoil_out0 (n : Int) (m : Value) (r : RV) (L : LS) (w : World) (hn : 0 ≤ n) (hk : (L.w0.length : Int) ≤ n) :
    Calls Try.prog 23 #[.agg (r.cells L), .int .i64 0, .int .i64 n, m] w fun e w' => e = .returned (.tuple #[.agg (r.cells L), .int .i64 4]) ∧ Kept NoF w w' := by
  unfold RV.cells
  go_enter Try.func23, Try.ntmps23
  go_wp2_with (go_at_call 27; refine (side_yes 0 _ (.inl rfl)).mono ?_; rintro e w' ⟨rfl, rfl⟩)
  exact bodyPost_ret (v := .tuple #[.agg (r.cells L), .int .i64 4]) (by simp [results, Try.results23, go_sem, RV.cells]) rfl ⟨rfl, ((Kept.refl _ _).alloc _).alloc _⟩

set_option maxHeartbeats 2000000 in
set_option maxRecDepth 100000 in
theorem rspoil_in0 {F : Nat → Prop} (j : Nat) (m : UInt8) (r : RV) (L : LS) (w : World) (hok : L.ok) (hr : RefOk w F L r) (hF : ∀ k, F k → k < w.heap.size) (hj : j < L.w0.length) :
    Calls Try.prog 23 #[.agg (r.cells L), .int .i64 0, .int .i64 (j : Int), .int .u8 (m.toNat : Int)] w fun e w' => ∃ r', e = .returned (.tuple #[.agg (r'.cells (L.spoiled 0 j m)), .int .i64 0]) ∧ RefOk w' F (L.spoiled 0 j m) r' ∧ Kept NoF w w' := by
  obtain ⟨i0, hi0, hz0, hz1, hz2⟩ := info_parts info5
  have hlim : L.w0.length ≤ 1073741824 := by have := hok.b1; have := hok.tot; have := hok.q0; have := hok.q1; omega
  have kW : Kept NoF w (((w.alloc (.cells (r.cells L) 46)).alloc (.cells zcells 46)).alloc (.cells #[] 5)) := (((Kept.refl NoF w).alloc _).alloc _).alloc _
  have hrd := kW.src hr.w0.1 (fun _ _ _ h => h)
  have bx := ((Blk.new w 46 (r.cells L)).alloc (.cells zcells 46)).alloc (.cells #[] 5)
  have bz := (Blk.new (w.alloc (.cells (r.cells L) 46)) 46 zcells).alloc (.cells #[] 5)
  have ownE := World.ownsRow_made (e := 5) (size := 1) (base := 0) ((w.alloc (.cells (r.cells L) 46)).alloc (.cells zcells 46)) #[] 0 (Nat.zero_le _) (by simp only [maxLen]; omega) rfl
  have hs1 : (w.alloc (.cells (r.cells L) 46)).heap.size = w.heap.size + 1 := by simp
  have hs2 : ((w.alloc (.cells (r.cells L) 46)).alloc (.cells zcells 46)).heap.size = w.heap.size + 2 := by simp
  rw [hs1] at bz
  rw [hs2] at ownE
  unfold RV.cells zcells at kW hrd bx bz ownE
  have BX := Lib.hid bx
  have BZ := Lib.hid bz
  have KW := Lib.hid kW
  clear bx bz kW hs1 hs2
  unfold RV.cells
  go_enter Try.func23, Try.ntmps23
  go_upto_region 6 with (first
    | (go_at_call 27; refine (side_yes 0 _ (.inl rfl)).mono ?_; rintro e w' ⟨rfl, rfl⟩)
    | (at_builtin; refine wpList_append_any _ rfl (.tmp 27) (.tmp 31) _ rfl 0 5 i0 _ 1 1 Try.underlying22 hi0 hz0 hz1 hz2 rfl (by omega) (.slice (some ⟨w.heap.size + 2, 0, none⟩) 0 0) 0 [] rfl ownE _ r.A2 L.w0.length r.c2 (bvs L.w0) rfl hrd (bvs_one _) (by simp only [maxLen]; omega) (by omega) (Nat.zero_le _) ?_; intro v5 w5 own5 g5 at5; obtain ⟨ga, ca, hv5, _⟩ := own5.form (by omega); rw [hv5] at own5 at5 ⊢; have bx5 := BX.out.grown g5 (by simp [Value.ownBlock]); have bz5 := BZ.out.grown g5 (by simp [Value.ownBlock]); have kc : w5.cell? ⟨w.heap.size, 4, none⟩ = some (.slice r.A2 L.w0.length r.c2) := (bx5.cell 4).trans rfl; have zc : w5.frozen? ⟨w.heap.size, 4, none⟩ = false := bx5.frozen 4))
  have kw5 : Kept NoF w w5 := KW.out.grown g5 (fun g hg => .inr (by simp [Value.ownBlock] at hg; omega))
  have own5' : w5.ownsRow 0 5 1 (.slice (some ⟨ga, 0, none⟩) L.w0.length ca) L.w0.length (bvs L.w0) := by simpa using own5
  have hgp : ga ≠ w.heap.size := fun e => own_blk_ne own5' bx5 (by decide) (by rw [e]; rfl)
  have hgz : ga ≠ w.heap.size + 1 := fun e => own_blk_ne own5' bz5 (by decide) (by rw [e]; rfl)
  have hgw : w.heap.size ≤ ga := by
    rcases at5 with h | h <;> simp [Value.ownBlock] at h <;> omega
  have bx6 := bx5.set_ 4 (.slice (some ⟨ga, 0, none⟩) L.w0.length ca)
  have bz6 := bz5.far (p := ⟨w.heap.size, 4, none⟩) (by simp) (.slice (some ⟨ga, 0, none⟩) L.w0.length ca)
  have own6 := (Kept.set1 w5 w.heap.size 4 (.slice (some ⟨ga, 0, none⟩) L.w0.length ca)).own own5' (fun g hg e => by simp [Value.ownBlock] at hg; omega)
  have kw6 := kw5.setCell (p := ⟨w.heap.size, 4, none⟩) (.inr (Nat.le_refl _)) (.slice (some ⟨ga, 0, none⟩) L.w0.length ca)
  clear own5 own5' bx5 bz5 kc zc kw5 g5 at5 hv5 ownE hrd BX BZ KW
  generalize w5.setCell ⟨w.heap.size, 4, none⟩ (.slice (some ⟨ga, 0, none⟩) L.w0.length ca) = w6 at bx6 bz6 own6 kw6 ⊢
  have kr : w6.cell? ⟨w.heap.size, 4, none⟩ = some (.slice (some ⟨ga, 0, none⟩) L.w0.length ca) := (bx6.cell 4).trans rfl
  have kj : w6.cell? ⟨ga, j, none⟩ = some (.int .u8 (L.w0[j].toNat : Int)) := (own6.cellAt j (by omega)).trans (bvs_get _ _ hj)
  have zj : w6.frozen? ⟨ga, j, none⟩ = false := own6.frozenAt j
  have hx := xor_bv L.w0[j] m
  have HX := Lib.hid hx
  clear hx
  have hjl : (j : Int) < (L.w0.length : Int) := by omega
  go_upto_region 7 with fail
  rw [HX.out]
  have st := own6.stored j (bv (L.w0[j] ^^^ m))
  have own7 := st.1
  have bx7 := bx6.far (p := ⟨ga, j, none⟩) (Ne.symm hgp) (bv (L.w0[j] ^^^ m))
  have bz7 := bz6.far (p := ⟨ga, j, none⟩) (Ne.symm hgz) (bv (L.w0[j] ^^^ m))
  have kw7 := kw6.setCell (p := ⟨ga, j, none⟩) (.inr hgw) (bv (L.w0[j] ^^^ m))
  rw [← bvs_set] at own7
  clear st kr kj zj bx6 bz6 kw6 own6
  change Code.wp _ _ _ _ (w6.setCell ⟨ga, j, none⟩ (bv (L.w0[j] ^^^ m)))
  generalize w6.setCell ⟨ga, j, none⟩ (bv (L.w0[j] ^^^ m)) = w7 at bx7 bz7 own7 kw7 ⊢
  have bx8 : Blk w7 w.heap.size 46 #[.int .i64 L.budget, .int .i64 L.cut, .slice r.A0 L.s0.length r.c0, .slice r.A1 L.s1.length r.c1, .slice (some ⟨ga, 0, none⟩) L.w0.length ca, .slice r.A3 L.w1.length r.c3, .bool L.down] := bx7
  have q0 : w7.cell? ⟨w.heap.size, 0, none⟩ = some (.int .i64 L.budget) := (bx8.cell 0).trans rfl
  have q1 : w7.cell? ⟨w.heap.size, 1, none⟩ = some (.int .i64 L.cut) := (bx8.cell 1).trans rfl
  have q2 : w7.cell? ⟨w.heap.size, 2, none⟩ = some (.slice r.A0 L.s0.length r.c0) := (bx8.cell 2).trans rfl
  have q3 : w7.cell? ⟨w.heap.size, 3, none⟩ = some (.slice r.A1 L.s1.length r.c1) := (bx8.cell 3).trans rfl
  have q4 : w7.cell? ⟨w.heap.size, 4, none⟩ = some (.slice (some ⟨ga, 0, none⟩) L.w0.length ca) := (bx8.cell 4).trans rfl
  have q5 : w7.cell? ⟨w.heap.size, 5, none⟩ = some (.slice r.A3 L.w1.length r.c3) := (bx8.cell 5).trans rfl
  have q6 : w7.cell? ⟨w.heap.size, 6, none⟩ = some (.bool L.down) := (bx8.cell 6).trans rfl
  have y0 : w7.cell? ⟨w.heap.size + 1, 0, none⟩ = some (.int .i64 0) := (bz7.cell 0).trans rfl
  have y1 : w7.cell? ⟨w.heap.size + 1, 1, none⟩ = some (.int .i64 0) := (bz7.cell 1).trans rfl
  have y2 : w7.cell? ⟨w.heap.size + 1, 2, none⟩ = some (.slice none 0 0) := (bz7.cell 2).trans rfl
  have y3 : w7.cell? ⟨w.heap.size + 1, 3, none⟩ = some (.slice none 0 0) := (bz7.cell 3).trans rfl
  have y4 : w7.cell? ⟨w.heap.size + 1, 4, none⟩ = some (.slice none 0 0) := (bz7.cell 4).trans rfl
  have y5 : w7.cell? ⟨w.heap.size + 1, 5, none⟩ = some (.slice none 0 0) := (bz7.cell 5).trans rfl
  have y6 : w7.cell? ⟨w.heap.size + 1, 6, none⟩ = some (.bool false) := (bz7.cell 6).trans rfl
  have z : ∀ i, w7.frozen? ⟨w.heap.size + 1, i, none⟩ = false := fun i => bz7.frozen i
  clear bx7 bx8 bz7
  go_wp2_with fail
  have fin : ∀ w9, Kept (fun k => k = w.heap.size + 1) w7 w9 → RefOk w9 F (L.spoiled 0 j m) { r with A2 := some ⟨ga, 0, none⟩, c2 := ca } ∧ Kept NoF w w9 := by
    intro w9 k9
    have kw9 : Kept NoF w w9 := kw7.trans k9 (fun x h => .inr (by omega))
    have own9 := k9.own own7 (fun g hg e => by simp [Value.ownBlock] at hg; omega)
    have e1 : L.w0.getD j 0 = L.w0[j] := by simp [List.getD, hj]
    have hnew : Src w9 F (some ⟨ga, 0, none⟩) (L.w0.set j (L.w0.getD j 0 ^^^ m)) := by
      rw [e1]
      refine ⟨?_, fun ad e _ hf => ?_⟩
      · have := Reads.of_own own9
        rwa [List.length_set]
      · injection e with e
        subst e
        have := hF _ hf
        simp only at this
        omega
    obtain ⟨k1, k2, k3, k4, k5, k6⟩ := hr.keptN kw9
    have hca : L.w0.length ≤ ca := by
      rcases own9.2 with ⟨h, _⟩ | ⟨g', cap', cur, h, _, _, hl, _⟩
      · cases h
      · injection h with _ _ h3
        rw [h3]; exact hl
    exact ⟨⟨k1, k2, hnew, k4, by simpa [LS.spoiled] using hca, k6⟩, kw9⟩
  refine bodyPost_ret (v := .tuple #[.agg #[.int .i64 L.budget, .int .i64 L.cut, .slice r.A0 L.s0.length r.c0, .slice r.A1 L.s1.length r.c1, .slice (some ⟨ga, 0, none⟩) L.w0.length ca, .slice r.A3 L.w1.length r.c3, .bool L.down], .int .i64 0]) (by simp [results, Try.results23, go_sem, y0, y1, y2, y3, y4, y5, y6]) rfl ?_
  refine ⟨{ r with A2 := some ⟨ga, 0, none⟩, c2 := ca }, by simp [LS.spoiled], fin _ (Kept.seven _ _ _ _ _ _ _ _ _)⟩

set_option maxHeartbeats 400000 in
theorem rspoil_out1 (n : Int) (m : Value) (r : RV) (L : LS) (w : World) (hn : 0 ≤ n) (hk : (L.w1.length : Int) ≤ n) :
    Calls Try.prog 23 #[.agg (r.cells L), .int .i64 1, .int .i64 n, m] w fun e w' => e = .returned (.tuple #[.agg (r.cells L), .int .i64 4]) ∧ Kept NoF w w' := by
  unfold RV.cells
  go_enter Try.func23, Try.ntmps23
  go_wp2_with (go_at_call 27; refine (side_yes 1 _ (.inr rfl)).mono ?_; rintro e w' ⟨rfl, rfl⟩)
  exact bodyPost_ret (v := .tuple #[.agg (r.cells L), .int .i64 4]) (by simp [results, Try.results23, go_sem, RV.cells]) rfl ⟨rfl, ((Kept.refl _ _).alloc _).alloc _⟩

set_option maxHeartbeats 2000000 in
set_option maxRecDepth 100000 in
theorem rspoil_in1 {F : Nat → Prop} (j : Nat) (m : UInt8) (r : RV) (L : LS) (w : World) (hok : L.ok) (hr : RefOk w F L r) (hF : ∀ k, F k → k < w.heap.size) (hj : j < L.w1.length) :
    Calls Try.prog 23 #[.agg (r.cells L), .int .i64 1, .int .i64 (j : Int), .int .u8 (m.toNat : Int)] w fun e w' => ∃ r', e = .returned (.tuple #[.agg (r'.cells (L.spoiled 1 j m)), .int .i64 0]) ∧ RefOk w' F (L.spoiled 1 j m) r' ∧ Kept NoF w w' := by
  obtain ⟨i0, hi0, hz0, hz1, hz2⟩ := info_parts info5
  have hlim : L.w1.length ≤ 1073741824 := by have := hok.b1; have := hok.tot; have := hok.q0; have := hok.q1; omega
  have kW : Kept NoF w (((w.alloc (.cells (r.cells L) 46)).alloc (.cells zcells 46)).alloc (.cells #[] 5)) := (((Kept.refl NoF w).alloc _).alloc _).alloc _
  have hrd := kW.src hr.w1.1 (fun _ _ _ h => h)
  have bx := ((Blk.new w 46 (r.cells L)).alloc (.cells zcells 46)).alloc (.cells #[] 5)
  have bz := (Blk.new (w.alloc (.cells (r.cells L) 46)) 46 zcells).alloc (.cells #[] 5)
  have ownE := World.ownsRow_made (e := 5) (size := 1) (base := 0) ((w.alloc (.cells (r.cells L) 46)).alloc (.cells zcells 46)) #[] 0 (Nat.zero_le _) (by simp only [maxLen]; omega) rfl
  have hs1 : (w.alloc (.cells (r.cells L) 46)).heap.size = w.heap.size + 1 := by simp
  have hs2 : ((w.alloc (.cells (r.cells L) 46)).alloc (.cells zcells 46)).heap.size = w.heap.size + 2 := by simp
  rw [hs1] at bz
  rw [hs2] at ownE
  unfold RV.cells zcells at kW hrd bx bz ownE
  have BX := Lib.hid bx
  have BZ := Lib.hid bz
  have KW := Lib.hid kW
  clear bx bz kW hs1 hs2
  unfold RV.cells
  go_enter Try.func23, Try.ntmps23
  go_upto_region 6 with (first
    | (go_at_call 27; refine (side_yes 1 _ (.inr rfl)).mono ?_; rintro e w' ⟨rfl, rfl⟩)
    | (at_builtin; refine wpList_append_any _ rfl (.tmp 27) (.tmp 31) _ rfl 0 5 i0 _ 1 1 Try.underlying22 hi0 hz0 hz1 hz2 rfl (by omega) (.slice (some ⟨w.heap.size + 2, 0, none⟩) 0 0) 0 [] rfl ownE _ r.A3 L.w1.length r.c3 (bvs L.w1) rfl hrd (bvs_one _) (by simp only [maxLen]; omega) (by omega) (Nat.zero_le _) ?_; intro v5 w5 own5 g5 at5; obtain ⟨ga, ca, hv5, _⟩ := own5.form (by omega); rw [hv5] at own5 at5 ⊢; have bx5 := BX.out.grown g5 (by simp [Value.ownBlock]); have bz5 := BZ.out.grown g5 (by simp [Value.ownBlock]); have kc : w5.cell? ⟨w.heap.size, 5, none⟩ = some (.slice r.A3 L.w1.length r.c3) := (bx5.cell 5).trans rfl; have zc : w5.frozen? ⟨w.heap.size, 5, none⟩ = false := bx5.frozen 5))
  have kw5 : Kept NoF w w5 := KW.out.grown g5 (fun g hg => .inr (by simp [Value.ownBlock] at hg; omega))
  have own5' : w5.ownsRow 0 5 1 (.slice (some ⟨ga, 0, none⟩) L.w1.length ca) L.w1.length (bvs L.w1) := by simpa using own5
  have hgp : ga ≠ w.heap.size := fun e => own_blk_ne own5' bx5 (by decide) (by rw [e]; rfl)
  have hgz : ga ≠ w.heap.size + 1 := fun e => own_blk_ne own5' bz5 (by decide) (by rw [e]; rfl)
  have hgw : w.heap.size ≤ ga := by
    rcases at5 with h | h <;> simp [Value.ownBlock] at h <;> omega
  have bx6 := bx5.set_ 5 (.slice (some ⟨ga, 0, none⟩) L.w1.length ca)
  have bz6 := bz5.far (p := ⟨w.heap.size, 5, none⟩) (by simp) (.slice (some ⟨ga, 0, none⟩) L.w1.length ca)
  have own6 := (Kept.set1 w5 w.heap.size 5 (.slice (some ⟨ga, 0, none⟩) L.w1.length ca)).own own5' (fun g hg e => by simp [Value.ownBlock] at hg; omega)
  have kw6 := kw5.setCell (p := ⟨w.heap.size, 5, none⟩) (.inr (Nat.le_refl _)) (.slice (some ⟨ga, 0, none⟩) L.w1.length ca)
  clear own5 own5' bx5 bz5 kc zc kw5 g5 at5 hv5 ownE hrd BX BZ KW
  generalize w5.setCell ⟨w.heap.size, 5, none⟩ (.slice (some ⟨ga, 0, none⟩) L.w1.length ca) = w6 at bx6 bz6 own6 kw6 ⊢
  have kr : w6.cell? ⟨w.heap.size, 5, none⟩ = some (.slice (some ⟨ga, 0, none⟩) L.w1.length ca) := (bx6.cell 5).trans rfl
  have kj : w6.cell? ⟨ga, j, none⟩ = some (.int .u8 (L.w1[j].toNat : Int)) := (own6.cellAt j (by omega)).trans (bvs_get _ _ hj)
  have zj : w6.frozen? ⟨ga, j, none⟩ = false := own6.frozenAt j
  have hx := xor_bv L.w1[j] m
  have HX := Lib.hid hx
  clear hx
  have hjl : (j : Int) < (L.w1.length : Int) := by omega
  go_upto_region 7 with fail
  rw [HX.out]
  have st := own6.stored j (bv (L.w1[j] ^^^ m))
  have own7 := st.1
  have bx7 := bx6.far (p := ⟨ga, j, none⟩) (Ne.symm hgp) (bv (L.w1[j] ^^^ m))
  have bz7 := bz6.far (p := ⟨ga, j, none⟩) (Ne.symm hgz) (bv (L.w1[j] ^^^ m))
  have kw7 := kw6.setCell (p := ⟨ga, j, none⟩) (.inr hgw) (bv (L.w1[j] ^^^ m))
  rw [← bvs_set] at own7
  clear st kr kj zj bx6 bz6 kw6 own6
  change Code.wp _ _ _ _ (w6.setCell ⟨ga, j, none⟩ (bv (L.w1[j] ^^^ m)))
  generalize w6.setCell ⟨ga, j, none⟩ (bv (L.w1[j] ^^^ m)) = w7 at bx7 bz7 own7 kw7 ⊢
  have bx8 : Blk w7 w.heap.size 46 #[.int .i64 L.budget, .int .i64 L.cut, .slice r.A0 L.s0.length r.c0, .slice r.A1 L.s1.length r.c1, .slice r.A2 L.w0.length r.c2, .slice (some ⟨ga, 0, none⟩) L.w1.length ca, .bool L.down] := bx7
  have q0 : w7.cell? ⟨w.heap.size, 0, none⟩ = some (.int .i64 L.budget) := (bx8.cell 0).trans rfl
  have q1 : w7.cell? ⟨w.heap.size, 1, none⟩ = some (.int .i64 L.cut) := (bx8.cell 1).trans rfl
  have q2 : w7.cell? ⟨w.heap.size, 2, none⟩ = some (.slice r.A0 L.s0.length r.c0) := (bx8.cell 2).trans rfl
  have q3 : w7.cell? ⟨w.heap.size, 3, none⟩ = some (.slice r.A1 L.s1.length r.c1) := (bx8.cell 3).trans rfl
  have q4 : w7.cell? ⟨w.heap.size, 4, none⟩ = some (.slice r.A2 L.w0.length r.c2) := (bx8.cell 4).trans rfl
  have q5 : w7.cell? ⟨w.heap.size, 5, none⟩ = some (.slice (some ⟨ga, 0, none⟩) L.w1.length ca) := (bx8.cell 5).trans rfl
  have q6 : w7.cell? ⟨w.heap.size, 6, none⟩ = some (.bool L.down) := (bx8.cell 6).trans rfl
  have y0 : w7.cell? ⟨w.heap.size + 1, 0, none⟩ = some (.int .i64 0) := (bz7.cell 0).trans rfl
  have y1 : w7.cell? ⟨w.heap.size + 1, 1, none⟩ = some (.int .i64 0) := (bz7.cell 1).trans rfl
  have y2 : w7.cell? ⟨w.heap.size + 1, 2, none⟩ = some (.slice none 0 0) := (bz7.cell 2).trans rfl
  have y3 : w7.cell? ⟨w.heap.size + 1, 3, none⟩ = some (.slice none 0 0) := (bz7.cell 3).trans rfl
  have y4 : w7.cell? ⟨w.heap.size + 1, 4, none⟩ = some (.slice none 0 0) := (bz7.cell 4).trans rfl
  have y5 : w7.cell? ⟨w.heap.size + 1, 5, none⟩ = some (.slice none 0 0) := (bz7.cell 5).trans rfl
  have y6 : w7.cell? ⟨w.heap.size + 1, 6, none⟩ = some (.bool false) := (bz7.cell 6).trans rfl
  have z : ∀ i, w7.frozen? ⟨w.heap.size + 1, i, none⟩ = false := fun i => bz7.frozen i
  clear bx7 bx8 bz7
  go_wp2_with fail
  have fin : ∀ w9, Kept (fun k => k = w.heap.size + 1) w7 w9 → RefOk w9 F (L.spoiled 1 j m) { r with A3 := some ⟨ga, 0, none⟩, c3 := ca } ∧ Kept NoF w w9 := by
    intro w9 k9
    have kw9 : Kept NoF w w9 := kw7.trans k9 (fun x h => .inr (by omega))
    have own9 := k9.own own7 (fun g hg e => by simp [Value.ownBlock] at hg; omega)
    have e1 : L.w1.getD j 0 = L.w1[j] := by simp [List.getD, hj]
    have hnew : Src w9 F (some ⟨ga, 0, none⟩) (L.w1.set j (L.w1.getD j 0 ^^^ m)) := by
      rw [e1]
      refine ⟨?_, fun ad e _ hf => ?_⟩
      · have := Reads.of_own own9
        rwa [List.length_set]
      · injection e with e
        subst e
        have := hF _ hf
        simp only at this
        omega
    obtain ⟨k1, k2, k3, k4, k5, k6⟩ := hr.keptN kw9
    have hca : L.w1.length ≤ ca := by
      rcases own9.2 with ⟨h, _⟩ | ⟨g', cap', cur, h, _, _, hl, _⟩
      · cases h
      · injection h with _ _ h3
        rw [h3]; exact hl
    exact ⟨⟨k1, k2, k3, hnew, k5, by simpa [LS.spoiled] using hca⟩, kw9⟩
  refine bodyPost_ret (v := .tuple #[.agg #[.int .i64 L.budget, .int .i64 L.cut, .slice r.A0 L.s0.length r.c0, .slice r.A1 L.s1.length r.c1, .slice r.A2 L.w0.length r.c2, .slice (some ⟨ga, 0, none⟩) L.w1.length ca, .bool L.down], .int .i64 0]) (by simp [results, Try.results23, go_sem, y0, y1, y2, y3, y4, y5, y6]) rfl ?_
  refine ⟨{ r with A3 := some ⟨ga, 0, none⟩, c3 := ca }, by simp [LS.spoiled], fin _ (Kept.seven _ _ _ _ _ _ _ _ _)⟩

end Go.Proofs.Ytchchgdkejolaaa
