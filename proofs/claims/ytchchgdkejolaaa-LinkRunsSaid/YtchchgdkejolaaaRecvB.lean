/- Receive and Transcript: the walks are printed by a small program (genrecv.py). -/
import Derived.Test.YtchchgdkejolaaaRecv
namespace Go.Proofs.Ytchchgdkejolaaa
open Go.RowKit

theorem size5 : (Try.prog.info? 5).map (·.size) = some 1 := by kernel_rfl

theorem splice_all (cur cs : List Value) (h : cs.length = cur.length) : splice cur 0 cs = cs := by
  simp [splice, h]

theorem own_of_block {w : World} {g n base : Nat} {cs : List Value} (h : w.heap[g]? = some (.cells cs.toArray 5 (0, 0))) (hn : cs.length = n) (hm : n ≤ maxLen) (hb : base ≤ g) :
    w.ownsRow base 5 1 (.slice (some ⟨g, 0, none⟩) n n) n cs :=
  ⟨by omega, .inr ⟨g, n, cs.toArray, rfl, hb, h, Nat.le_refl _, hm, by simp; omega, by simp [hn.symm]⟩⟩

def RecvPost (F : Nat → Prop) (p : Nat) (L' : LS) (xs : List UInt8) (w : World) (e : Ending) (w' : World) : Prop :=
  ∃ g, e = .returned (.tuple #[.slice (some ⟨g, 0, none⟩) xs.length xs.length, .int .i64 0]) ∧ w'.ownsRow w.heap.size 5 1 (.slice (some ⟨g, 0, none⟩) xs.length xs.length) xs.length (bvs xs) ∧ (∃ v0 v1 v2 v3, Rep w' F p L' v0 v1 v2 v3) ∧ Kept F w w'

def TranPost (xs : List UInt8) (w : World) (e : Ending) (w' : World) : Prop :=
  ∃ g, e = .returned (.slice (some ⟨g, 0, none⟩) xs.length xs.length) ∧ w'.ownsRow w.heap.size 5 1 (.slice (some ⟨g, 0, none⟩) xs.length xs.length) xs.length (bvs xs) ∧ Kept NoF w w'

set_option maxHeartbeats 1000000 in
set_option maxRecDepth 100000 in
theorem recv0 {F : Nat → Prop} {p : Nat} {L : LS} {w : World} {v0 v1 v2 v3 : Value} (hok : L.ok) (r : Rep w F p L v0 v1 v2 v3) :
    Calls Try.prog 13 #[.pointer (some ⟨p, 0, none⟩), .int .i64 0] w (RecvPost F p { L with w0 := [] } L.w0 w) := by
  obtain ⟨A, c, hv, _⟩ := own_form r.o1
  subst hv
  have b0 := hok.b0
  have b1 := hok.b1
  have b2 := hok.tot
  have l2 := hok.q0
  have l3 := hok.q1
  have k1 : w.cell? ⟨p, 1, none⟩ = some (.slice A L.w0.length c) := (r.blk.cell 1).trans rfl
  obtain ⟨i0, hi0, hz0, hz1, hz2⟩ := info_parts info5
  go_enter Try.func13, Try.ntmps13
  go_wp2_with (first
    | (go_at_call 25; refine (isSide_yes 0 _ (.inl rfl)).mono ?_; rintro e w' ⟨rfl, rfl⟩)
    | (at_make; refine wpList_make_full _ rfl (.tmp 20) (.tmp 20) 22 rfl w.heap.size 5 i0 (.int .u8 0) 1 Try.underlying22 hi0 hz0 hz1 .i64 .i64 _ _ L.w0.length rfl rfl rfl rfl (by rw [hz2]; omega) (by unfold maxLen; omega) (Nat.le_refl _) ?_; intro w1 own1 g1
       have kw1 : Kept NoF w w1 := (Kept.refl _ _).grown g1 (fun k hk => by cases hk)
       have r1 := r.keptN kw1
       have hrd := Reads.of_own r1.o1
       have hb1 : Below w.heap.size w w1 := kw1.below (Nat.le_refl _) (fun _ h => h.elim)
       obtain ⟨cur, hcur, hcl⟩ : ∃ cur : List Value, w1.heap[w.heap.size]? = some (.cells cur.toArray 5 (0, 0)) ∧ cur.length = L.w0.length := by
         rcases own1.2 with ⟨h, _⟩ | ⟨g, cap, cur, h, _, hg, _, _, hs, _⟩
         · cases h
         · injection h with h1 _ h3
           injection h1 with h1
           injection h1 with h1
           subst h1 h3
           exact ⟨cur.toList, hg, by simpa using hs⟩
       clear k1
       have k1 : w1.cell? ⟨p, 1, none⟩ = some (.slice A L.w0.length c) := (r1.blk.cell 1).trans rfl
       have HC := Lib.hid hcl
       clear hcl)
    | (refine wpList_copy_splice (o := ⟨some 27, _, _, _, _, _⟩) rfl (.tmp 22) (.tmp 26) 22 22 rfl 5 Try.underlying22 size5 (some ⟨w.heap.size, 0, none⟩) A L.w0.length L.w0.length L.w0.length c rfl rfl w.heap.size 0 cur 5 hcur (bvs L.w0) ?c1 ?c2 ?c3 (bvs_one _) w.heap.size w hb1 (Nat.le_refl _) ?_))
  case c1 => rw [bvs_length]; exact (Nat.min_self _).symm
  case c2 =>
    intro hpos
    rw [bvs_length] at hpos
    obtain ⟨ad, e, _, h⟩ := hrd.2 hpos
    exact ⟨ad, e, h⟩
  case c3 => rw [bvs_length, HC.out]; omega
  intro w2 hcells hb2
  have hc2 := hcells.out
  rw [splice_all _ _ (by rw [bvs_length, HC.out])] at hc2
  have ow2 := own_of_block (base := w.heap.size) hc2 (bvs_length _) (by unfold maxLen; omega) (Nat.le_refl _)
  clear hc2 hcells hcur
  have kw2 : Kept NoF w w2 := Kept.of_below hb2
  have r2 := r.keptN kw2
  clear k1
  have k1 : w2.cell? ⟨p, 1, none⟩ = some (.slice A L.w0.length c) := (r2.blk.cell 1).trans rfl
  have z1 : w2.frozen? ⟨p, 1, none⟩ = false := r2.blk.frozen 1
  go_wp2_with fail
  obtain ⟨r3, kw3⟩ := r2.nil1
  go_ret2
  refine ⟨w.heap.size, rfl, ?_, ⟨_, _, _, _, r3⟩, (kw2.mono (fun _ h => h.elim)).trans kw3 (fun _ h => .inl h)⟩
  refine (Kept.set1 w2 p 1 _).own ow2 ?_
  intro g hg
  injection hg with hg
  have := r.lt _ r.fp
  simp only at hg
  omega

set_option maxHeartbeats 1000000 in
set_option maxRecDepth 100000 in
theorem recv1 {F : Nat → Prop} {p : Nat} {L : LS} {w : World} {v0 v1 v2 v3 : Value} (hok : L.ok) (r : Rep w F p L v0 v1 v2 v3) :
    Calls Try.prog 13 #[.pointer (some ⟨p, 0, none⟩), .int .i64 1] w (RecvPost F p { L with w1 := [] } L.w1 w) := by
  obtain ⟨A, c, hv, _⟩ := own_form r.o3
  subst hv
  have b0 := hok.b0
  have b1 := hok.b1
  have b2 := hok.tot
  have l2 := hok.q0
  have l3 := hok.q1
  have k1 : w.cell? ⟨p, 3, none⟩ = some (.slice A L.w1.length c) := (r.blk.cell 3).trans rfl
  obtain ⟨i0, hi0, hz0, hz1, hz2⟩ := info_parts info5
  go_enter Try.func13, Try.ntmps13
  go_wp2_with (first
    | (go_at_call 25; refine (isSide_yes 1 _ (.inr rfl)).mono ?_; rintro e w' ⟨rfl, rfl⟩)
    | (at_make; refine wpList_make_full _ rfl (.tmp 20) (.tmp 20) 22 rfl w.heap.size 5 i0 (.int .u8 0) 1 Try.underlying22 hi0 hz0 hz1 .i64 .i64 _ _ L.w1.length rfl rfl rfl rfl (by rw [hz2]; omega) (by unfold maxLen; omega) (Nat.le_refl _) ?_; intro w1 own1 g1
       have kw1 : Kept NoF w w1 := (Kept.refl _ _).grown g1 (fun k hk => by cases hk)
       have r1 := r.keptN kw1
       have hrd := Reads.of_own r1.o3
       have hb1 : Below w.heap.size w w1 := kw1.below (Nat.le_refl _) (fun _ h => h.elim)
       obtain ⟨cur, hcur, hcl⟩ : ∃ cur : List Value, w1.heap[w.heap.size]? = some (.cells cur.toArray 5 (0, 0)) ∧ cur.length = L.w1.length := by
         rcases own1.2 with ⟨h, _⟩ | ⟨g, cap, cur, h, _, hg, _, _, hs, _⟩
         · cases h
         · injection h with h1 _ h3
           injection h1 with h1
           injection h1 with h1
           subst h1 h3
           exact ⟨cur.toList, hg, by simpa using hs⟩
       clear k1
       have k1 : w1.cell? ⟨p, 3, none⟩ = some (.slice A L.w1.length c) := (r1.blk.cell 3).trans rfl
       have HC := Lib.hid hcl
       clear hcl)
    | (refine wpList_copy_splice (o := ⟨some 27, _, _, _, _, _⟩) rfl (.tmp 22) (.tmp 26) 22 22 rfl 5 Try.underlying22 size5 (some ⟨w.heap.size, 0, none⟩) A L.w1.length L.w1.length L.w1.length c rfl rfl w.heap.size 0 cur 5 hcur (bvs L.w1) ?c1 ?c2 ?c3 (bvs_one _) w.heap.size w hb1 (Nat.le_refl _) ?_))
  case c1 => rw [bvs_length]; exact (Nat.min_self _).symm
  case c2 =>
    intro hpos
    rw [bvs_length] at hpos
    obtain ⟨ad, e, _, h⟩ := hrd.2 hpos
    exact ⟨ad, e, h⟩
  case c3 => rw [bvs_length, HC.out]; omega
  intro w2 hcells hb2
  have hc2 := hcells.out
  rw [splice_all _ _ (by rw [bvs_length, HC.out])] at hc2
  have ow2 := own_of_block (base := w.heap.size) hc2 (bvs_length _) (by unfold maxLen; omega) (Nat.le_refl _)
  clear hc2 hcells hcur
  have kw2 : Kept NoF w w2 := Kept.of_below hb2
  have r2 := r.keptN kw2
  clear k1
  have k1 : w2.cell? ⟨p, 3, none⟩ = some (.slice A L.w1.length c) := (r2.blk.cell 3).trans rfl
  have z1 : w2.frozen? ⟨p, 3, none⟩ = false := r2.blk.frozen 3
  go_wp2_with fail
  obtain ⟨r3, kw3⟩ := r2.nil3
  go_ret2
  refine ⟨w.heap.size, rfl, ?_, ⟨_, _, _, _, r3⟩, (kw2.mono (fun _ h => h.elim)).trans kw3 (fun _ h => .inl h)⟩
  refine (Kept.set1 w2 p 3 _).own ow2 ?_
  intro g hg
  injection hg with hg
  have := r.lt _ r.fp
  simp only at hg
  omega

set_option maxHeartbeats 1000000 in
set_option maxRecDepth 100000 in
theorem tran0 {F : Nat → Prop} {p : Nat} {L : LS} {w : World} {v0 v1 v2 v3 : Value} (hok : L.ok) (r : Rep w F p L v0 v1 v2 v3) :
    Calls Try.prog 18 #[.pointer (some ⟨p, 0, none⟩), .int .i64 0] w (TranPost L.s0 w) := by
  obtain ⟨A, c, hv, _⟩ := own_form r.o0
  subst hv
  have b0 := hok.b0
  have b1 := hok.b1
  have b2 := hok.tot
  have k1 : w.cell? ⟨p, 0, none⟩ = some (.slice A L.s0.length c) := (r.blk.cell 0).trans rfl
  obtain ⟨i0, hi0, hz0, hz1, hz2⟩ := info_parts info5
  go_enter Try.func18, Try.ntmps18
  go_wp2_with (first
    | (go_at_call 25; refine (isSide_yes 0 _ (.inl rfl)).mono ?_; rintro e w' ⟨rfl, rfl⟩)
    | (at_make; refine wpList_make_full _ rfl (.tmp 16) (.tmp 16) 22 rfl w.heap.size 5 i0 (.int .u8 0) 1 Try.underlying22 hi0 hz0 hz1 .i64 .i64 _ _ L.s0.length rfl rfl rfl rfl (by rw [hz2]; omega) (by unfold maxLen; omega) (Nat.le_refl _) ?_; intro w1 own1 g1
       have kw1 : Kept NoF w w1 := (Kept.refl _ _).grown g1 (fun k hk => by cases hk)
       have r1 := r.keptN kw1
       have hrd := Reads.of_own r1.o0
       have hb1 : Below w.heap.size w w1 := kw1.below (Nat.le_refl _) (fun _ h => h.elim)
       obtain ⟨cur, hcur, hcl⟩ : ∃ cur : List Value, w1.heap[w.heap.size]? = some (.cells cur.toArray 5 (0, 0)) ∧ cur.length = L.s0.length := by
         rcases own1.2 with ⟨h, _⟩ | ⟨g, cap, cur, h, _, hg, _, _, hs, _⟩
         · cases h
         · injection h with h1 _ h3
           injection h1 with h1
           injection h1 with h1
           subst h1 h3
           exact ⟨cur.toList, hg, by simpa using hs⟩
       clear k1
       have k1 : w1.cell? ⟨p, 0, none⟩ = some (.slice A L.s0.length c) := (r1.blk.cell 0).trans rfl
       have HC := Lib.hid hcl
       clear hcl)
    | (refine wpList_copy_splice (o := ⟨some 26, _, _, _, _, _⟩) rfl (.tmp 18) (.tmp 25) 22 22 rfl 5 Try.underlying22 size5 (some ⟨w.heap.size, 0, none⟩) A L.s0.length L.s0.length L.s0.length c rfl rfl w.heap.size 0 cur 5 hcur (bvs L.s0) ?c1 ?c2 ?c3 (bvs_one _) w.heap.size w hb1 (Nat.le_refl _) ?_))
  case c1 => rw [bvs_length]; exact (Nat.min_self _).symm
  case c2 =>
    intro hpos
    rw [bvs_length] at hpos
    obtain ⟨ad, e, _, h⟩ := hrd.2 hpos
    exact ⟨ad, e, h⟩
  case c3 => rw [bvs_length, HC.out]; omega
  intro w2 hcells hb2
  have hc2 := hcells.out
  rw [splice_all _ _ (by rw [bvs_length, HC.out])] at hc2
  have ow2 := own_of_block (base := w.heap.size) hc2 (bvs_length _) (by unfold maxLen; omega) (Nat.le_refl _)
  clear hc2 hcells hcur
  go_wp2_with fail
  go_ret
  exact ⟨w.heap.size, rfl, ow2, Kept.of_below hb2⟩

set_option maxHeartbeats 1000000 in
set_option maxRecDepth 100000 in
theorem tran1 {F : Nat → Prop} {p : Nat} {L : LS} {w : World} {v0 v1 v2 v3 : Value} (hok : L.ok) (r : Rep w F p L v0 v1 v2 v3) :
    Calls Try.prog 18 #[.pointer (some ⟨p, 0, none⟩), .int .i64 1] w (TranPost L.s1 w) := by
  obtain ⟨A, c, hv, _⟩ := own_form r.o2
  subst hv
  have b0 := hok.b0
  have b1 := hok.b1
  have b2 := hok.tot
  have k1 : w.cell? ⟨p, 2, none⟩ = some (.slice A L.s1.length c) := (r.blk.cell 2).trans rfl
  obtain ⟨i0, hi0, hz0, hz1, hz2⟩ := info_parts info5
  go_enter Try.func18, Try.ntmps18
  go_wp2_with (first
    | (go_at_call 25; refine (isSide_yes 1 _ (.inr rfl)).mono ?_; rintro e w' ⟨rfl, rfl⟩)
    | (at_make; refine wpList_make_full _ rfl (.tmp 16) (.tmp 16) 22 rfl w.heap.size 5 i0 (.int .u8 0) 1 Try.underlying22 hi0 hz0 hz1 .i64 .i64 _ _ L.s1.length rfl rfl rfl rfl (by rw [hz2]; omega) (by unfold maxLen; omega) (Nat.le_refl _) ?_; intro w1 own1 g1
       have kw1 : Kept NoF w w1 := (Kept.refl _ _).grown g1 (fun k hk => by cases hk)
       have r1 := r.keptN kw1
       have hrd := Reads.of_own r1.o2
       have hb1 : Below w.heap.size w w1 := kw1.below (Nat.le_refl _) (fun _ h => h.elim)
       obtain ⟨cur, hcur, hcl⟩ : ∃ cur : List Value, w1.heap[w.heap.size]? = some (.cells cur.toArray 5 (0, 0)) ∧ cur.length = L.s1.length := by
         rcases own1.2 with ⟨h, _⟩ | ⟨g, cap, cur, h, _, hg, _, _, hs, _⟩
         · cases h
         · injection h with h1 _ h3
           injection h1 with h1
           injection h1 with h1
           subst h1 h3
           exact ⟨cur.toList, hg, by simpa using hs⟩
       clear k1
       have k1 : w1.cell? ⟨p, 2, none⟩ = some (.slice A L.s1.length c) := (r1.blk.cell 2).trans rfl
       have HC := Lib.hid hcl
       clear hcl)
    | (refine wpList_copy_splice (o := ⟨some 26, _, _, _, _, _⟩) rfl (.tmp 18) (.tmp 25) 22 22 rfl 5 Try.underlying22 size5 (some ⟨w.heap.size, 0, none⟩) A L.s1.length L.s1.length L.s1.length c rfl rfl w.heap.size 0 cur 5 hcur (bvs L.s1) ?c1 ?c2 ?c3 (bvs_one _) w.heap.size w hb1 (Nat.le_refl _) ?_))
  case c1 => rw [bvs_length]; exact (Nat.min_self _).symm
  case c2 =>
    intro hpos
    rw [bvs_length] at hpos
    obtain ⟨ad, e, _, h⟩ := hrd.2 hpos
    exact ⟨ad, e, h⟩
  case c3 => rw [bvs_length, HC.out]; omega
  intro w2 hcells hb2
  have hc2 := hcells.out
  rw [splice_all _ _ (by rw [bvs_length, HC.out])] at hc2
  have ow2 := own_of_block (base := w.heap.size) hc2 (bvs_length _) (by unfold maxLen; omega) (Nat.le_refl _)
  clear hc2 hcells hcur
  go_wp2_with fail
  go_ret
  exact ⟨w.heap.size, rfl, ow2, Kept.of_below hb2⟩

end Go.Proofs.Ytchchgdkejolaaa
