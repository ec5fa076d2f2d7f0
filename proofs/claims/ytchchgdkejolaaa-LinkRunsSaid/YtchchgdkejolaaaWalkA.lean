/- The walk of LinkTogether. -/
import Derived.Test.YtchchgdkejolaaaAwake
import Derived.Test.YtchchgdkejolaaaLawA
namespace Go.Proofs.Ytchchgdkejolaaa
open Go.RowKit

theorem and_one_i64 (a : Int) : bits .and .i64 a 1 = 0 ∨ bits .and .i64 a 1 = 1 := by
  have h : bits .and .i64 a 1 = IntKind.i64.wrap ((BitVec.ofInt 64 a &&& BitVec.ofInt 64 1).toNat : Int) := rfl
  have h2 : (BitVec.ofInt 64 a &&& BitVec.ofInt 64 1).toNat = (BitVec.ofInt 64 a).toNat % 2 := by
    rw [BitVec.toNat_and, show (BitVec.ofInt 64 1).toNat = 1 from rfl, Nat.and_one_is_mod]
  rw [h, h2, IntKind.wrap_i64]
  omega

theorem nof_below {w w' : World} (k : Kept NoF w w') : Below w.heap.size w w' := k.below (Nat.le_refl _) (fun _ h => h.elim)

set_option maxHeartbeats 1000000 in
set_option maxRecDepth 100000 in
theorem together_big (cut side : Int) (X Y : Option Addr) (nx cx ny cy : Nat) (w : World) (l0 : -9223372036854775808 ≤ cut) (l1 : cut ≤ 9223372036854775807) (h : 150 < nx ∨ 150 < ny) :
    Calls Try.prog 3 #[.int .i64 cut, .int .i64 side, .slice X nx cx, .slice Y ny cy] w fun e w' => e = .returned (.bool true) ∧ Below w.heap.size w w' := by
  rcases h with h | h
  · have hd : decide (150 < (nx : Int)) = true := by simp; omega
    go_enter Try.func3, Try.ntmps3
    go_wp2_with fail
    refine (new_any 300 cut _ (by omega) (by omega) l0 l1).mono ?_
    rintro e w1 ⟨rfl, a1, k1, s1⟩
    clear s1
    go_wp2_with fail
    refine (new_any 300 cut _ (by omega) (by omega) l0 l1).mono ?_
    rintro e w2 ⟨rfl, b2, k2, s2⟩
    clear s2
    go_wp2_with fail
    refine (awake_any _).mono ?_
    rintro e w3 ⟨rfl, k3⟩
    go_wp2_with fail
    refine (awake_any _).mono ?_
    rintro e w4 ⟨rfl, k4⟩
    go_wp2_with fail
    go_ret
    exact ⟨rfl, nof_below (((k1.trans k2 (fun _ h => .inl h)).trans (Kept.of_below k3) (fun _ h => .inl h)).trans (Kept.of_below k4) (fun _ h => .inl h))⟩
  · by_cases h' : 150 < nx
    · have hd : decide (150 < (nx : Int)) = true := by simp; omega
      go_enter Try.func3, Try.ntmps3
      go_wp2_with fail
      refine (new_any 300 cut _ (by omega) (by omega) l0 l1).mono ?_
      rintro e w1 ⟨rfl, a1, k1, s1⟩
      clear s1
      go_wp2_with fail
      refine (new_any 300 cut _ (by omega) (by omega) l0 l1).mono ?_
      rintro e w2 ⟨rfl, b2, k2, s2⟩
      clear s2
      go_wp2_with fail
      refine (awake_any _).mono ?_
      rintro e w3 ⟨rfl, k3⟩
      go_wp2_with fail
      refine (awake_any _).mono ?_
      rintro e w4 ⟨rfl, k4⟩
      go_wp2_with fail
      go_ret
      exact ⟨rfl, nof_below (((k1.trans k2 (fun _ h => .inl h)).trans (Kept.of_below k3) (fun _ h => .inl h)).trans (Kept.of_below k4) (fun _ h => .inl h))⟩
    · have hd : decide (150 < (nx : Int)) = false := by simp; omega
      have hd2 : decide (150 < (ny : Int)) = true := by simp; omega
      go_enter Try.func3, Try.ntmps3
      go_wp2_with fail
      refine (new_any 300 cut _ (by omega) (by omega) l0 l1).mono ?_
      rintro e w1 ⟨rfl, a1, k1, s1⟩
      clear s1
      go_wp2_with fail
      refine (new_any 300 cut _ (by omega) (by omega) l0 l1).mono ?_
      rintro e w2 ⟨rfl, b2, k2, s2⟩
      clear s2
      go_wp2_with fail
      refine (awake_any _).mono ?_
      rintro e w3 ⟨rfl, k3⟩
      go_wp2_with fail
      refine (awake_any _).mono ?_
      rintro e w4 ⟨rfl, k4⟩
      go_wp2_with fail
      go_ret
      exact ⟨rfl, nof_below (((k1.trans k2 (fun _ h => .inl h)).trans (Kept.of_below k3) (fun _ h => .inl h)).trans (Kept.of_below k4) (fun _ h => .inl h))⟩

set_option maxHeartbeats 1000000 in
set_option maxRecDepth 100000 in
theorem together_small (cut side : Int) (X Y : Option Addr) (cx cy : Nat) (xs ys : List UInt8) (w : World) (l0 : -9223372036854775808 ≤ cut) (l1 : cut ≤ 9223372036854775807)
    (hx : Reads w w.heap.size 1 X xs.length (bvs xs)) (hy : Reads w w.heap.size 1 Y ys.length (bvs ys)) (hcx : xs.length ≤ cx) (hcy : ys.length ≤ cy) (bx : xs.length ≤ 150) (by' : ys.length ≤ 150) :
    Calls Try.prog 3 #[.int .i64 cut, .int .i64 side, .slice X xs.length cx, .slice Y ys.length cy] w fun e w' => e = .returned (.bool true) ∧ Below w.heap.size w w' := by
  obtain ⟨i0, hi0, hz0, hz1, hz2⟩ := info_parts info5
  go_enter Try.func3, Try.ntmps3
  go_wp2_with fail
  refine (new_any 300 cut _ (by omega) (by omega) l0 l1).mono ?_
  rintro e w1 ⟨rfl, a1, k1, s1⟩
  have S1 := Lib.hid s1
  clear s1
  go_wp2_with fail
  refine (new_any 300 cut _ (by omega) (by omega) l0 l1).mono ?_
  rintro e w2 ⟨rfl, b2, k2, s2⟩
  have S2 := Lib.hid s2
  clear s2
  go_wp2_with fail
  refine (awake_any _).mono ?_
  rintro e w3 ⟨rfl, k3⟩
  have T := together cut
  have hk := and_one_i64 side
  have T1 := Lib.hid T
  clear T
  go_wp2_with fail
  generalize bits BinOp.and IntKind.i64 side 1 = k at hk ⊢
  have hk' : IsSide k := hk
  have K0 : 0 ≤ k ∧ k ≤ 1 := by omega
  clear hk
  have TT := T1.out k hk' xs ys bx by'
  generalize hA1 : (LS.fresh 300 cut).send k xs = A1 at TT
  generalize hA2 : A1.1.send k ys = A2 at TT
  generalize hB1 : (LS.fresh 300 cut).send k (xs ++ ys) = B1 at TT
  have HA1 := Lib.hid hA1
  have HA2 := Lib.hid hA2
  have HB1 := Lib.hid hB1
  clear hA1 hA2 hB1
  have sz3 : w.heap.size + 2 ≤ w3.heap.size := by have := S1.out; have := S2.out; have := k3.size; omega
  have b3 : Below w.heap.size w w3 := nof_below ((k1.trans k2 (fun _ h => .inl h)).trans (Kept.of_below k3) (fun _ h => .inl h))
  have a3 := (a1.kept k2 (fun _ _ h => h)).kept (Kept.of_below (F := NoF) k3) (fun _ _ h => h)
  have q3 := b2.kept (Kept.of_below (F := NoF) k3) (fun _ _ h => h)
  have C4 := send_any a3 k X cx xs.length xs rfl ((hx.below b3).more b3.size) (by
    intro ad e hp h
    obtain ⟨ad', e', hl, _⟩ := hx.2 hp
    rw [e] at e'
    injection e' with e'
    subst e'
    unfold NewF at h
    omega) hcx
  rw [HA1.out] at C4
  refine C4.mono ?_
  clear C4
  rintro e w4 ⟨rfl, a4, k4⟩
  have b4 : Below w.heap.size w w4 := b3.trans (k4.below b3.size (fun x h => by unfold NewF at h; omega))
  have q4 := q3.kept k4 (fun x h1 h2 => by unfold NewF at h1 h2; have := S1.out; omega)
  have C5 := send_any a4 k Y cy ys.length ys rfl ((hy.below b4).more b4.size) (by
    intro ad e hp h
    obtain ⟨ad', e', hl, _⟩ := hy.2 hp
    rw [e] at e'
    injection e' with e'
    subst e'
    rcases h with h | h
    · unfold NewF at h; omega
    · omega) hcy
  rw [HA2.out] at C5
  have H5 := Lib.hid C5
  clear C5
  go_wp2_with fail
  refine H5.out.mono ?_
  clear H5
  rintro e w5 ⟨rfl, a5, k5⟩
  have sz4 := k4.size
  have sz5 := k5.size
  have b5 : Below w.heap.size w w5 := b4.trans (k5.below b4.size (fun x h => by rcases h with h | h; (unfold NewF at h; omega); omega))
  have q5 := q4.kept k5 (fun x h1 h2 => by
    unfold NewF at h1
    have := S1.out
    rcases h2 with h2 | h2
    · unfold NewF at h2; omega
    · omega)
  have x5 := hx.below b5
  have y5 := hy.below b5
  go_wp2_with (first
    | (at_builtin
       refine wpList_append_any _ rfl (.tmp 90) (.tmp 91) _ rfl w5.heap.size 5 i0 _ 1 1 Try.underlying22 hi0 hz0 hz1 hz2 rfl (by omega) (.slice (some ⟨w5.heap.size, 0, none⟩) 0 0) 0 [] rfl
         (World.ownsRow_made w5 #[] 0 (Nat.le_refl _) (by simp only [maxLen]; omega) rfl) w.heap.size X xs.length cx (bvs xs) rfl (x5.alloc b5.size _) (bvs_one _) (by simp only [maxLen]; omega) (by omega) (by simp) ?_
       intro v6 w6 own6 g6 at6
       have k6 : Kept NoF w5 w6 := ((Kept.refl NoF w5).alloc (.cells #[] 5)).grown g6 (fun g hg => .inr (by simp [Value.ownBlock] at hg; omega))
       have y6 := (k6.reads y5 b5.size (fun _ _ h => h)))
    | (at_builtin
       refine wpList_append_any _ rfl (.tmp 92) (.tmp 93) _ rfl w5.heap.size 5 i0 _ 1 1 Try.underlying22 hi0 hz0 hz1 hz2 rfl (by omega) v6 (0 + xs.length) ([] ++ bvs xs) rfl
         own6 w.heap.size Y ys.length cy (bvs ys) rfl y6 (bvs_one _) (by simp only [maxLen]; omega) (by omega) k6.size ?_
       intro v7 w7 own7 g7 at7))
  obtain ⟨A7, c7, e7, hc7, _⟩ := own_form own7
  rw [e7] at own7 at7 ⊢
  clear e7
  have rd7 := Reads.of_own own7
  rw [List.nil_append, ← bvs_append] at rd7
  have hlen : 0 + xs.length + ys.length = (xs ++ ys).length := by simp
  rw [hlen] at rd7 hc7 ⊢
  have k7 : Kept NoF w5 w7 := k6.grown g7 (fun g hg => .inr (own6.lt g hg).1)
  have q7 := q5.kept k7 (fun _ _ h => h)
  have a7 := a5.kept k7 (fun _ _ h => h)
  have b7 : Below w.heap.size w w7 := b5.trans (k7.below b5.size (fun x h => h.elim))
  have C8 := send_any q7 k A7 c7 _ (xs ++ ys) rfl rd7 (by
    intro ad e _ h
    subst e
    have := (own7.lt ad.block rfl).1
    unfold NewF at h
    have := S1.out
    omega) hc7
  rw [HB1.out] at C8
  refine C8.mono ?_
  clear C8
  rintro e w8 ⟨rfl, q8, k8⟩
  have sz7 := k7.size
  have sz8 := k8.size
  have a8 := a7.kept k8 (fun x h1 h2 => by
    unfold NewF at h2
    have := S1.out
    rcases h1 with (h1 | h1) | h1
    · unfold NewF at h1; omega
    · omega
    · omega)
  have b8 : Below w.heap.size w w8 := b7.trans (k8.below b7.size (fun x h => by unfold NewF at h; have := S1.out; omega))
  obtain ⟨t1, t2, t3, t4, t5, t6, t7, t8, t9⟩ := TT
  have T1 := Lib.hid t1
  have T2 := Lib.hid t2
  have T3 := Lib.hid t3
  have T4 := Lib.hid t4
  have T5 := Lib.hid t5
  clear t1 t2 t3 t4 t5
  rw [← T1.out, ← T5.out]
  have C9 := recv_any a8 (1 - k) (by unfold IsSide; omega)
  have H9 := Lib.hid C9
  clear C9
  go_wp2_with fail
  refine H9.out.mono ?_
  clear H9
  rintro e w9 ⟨v9, rfl, n9, a9, k9⟩
  obtain ⟨g9, rfl, hg9, hl9, r9⟩ := n9.reads
  have hda : ∀ x, More (More (NewF w) w3 w4) w4 w5 x → ¬ More (NewF w1) w7 w8 x := by
    intro x h1 h2
    have := S1.out
    rcases h1 with (h1 | h1) | h1 <;> rcases h2 with h2 | h2 <;> unfold NewF at * <;> omega
  have hbA : ∀ x, More (More (NewF w) w3 w4) w4 w5 x → w.heap.size ≤ x := by
    intro x h1
    rcases h1 with (h1 | h1) | h1 <;> unfold NewF at * <;> omega
  have hbB : ∀ x, More (NewF w1) w7 w8 x → w.heap.size ≤ x := by
    intro x h1
    have := S1.out
    rcases h1 with h1 | h1 <;> unfold NewF at * <;> omega
  have q9 := q8.kept k9 (fun x h1 h2 => hda x h2 h1)
  have b9 : Below w.heap.size w w9 := b8.trans (k9.below b8.size hbA)
  have C10 := recv_any q9 (1 - k) (by unfold IsSide; omega)
  have H10 := Lib.hid C10
  clear C10
  go_wp2_with fail
  refine H10.out.mono ?_
  clear H10
  rintro e w10 ⟨v10, rfl, n10, q10, k10⟩
  rw [← T2.out] at n10
  obtain ⟨g10, rfl, hg10, hl10, r10⟩ := n10.reads
  have a10 := a9.kept k10 hda
  have b10 : Below w.heap.size w w10 := b9.trans (k10.below b9.size hbB)
  have r9' := k10.row r9 (fun h => by have := q8.lt _ h; omega)
  have cv9 := conv_reads (c := (A2.1.wait (1 - k)).length) r9'
  have cv10 := conv_reads (c := (A2.1.wait (1 - k)).length) r10
  have C11 := left_link a10
  rw [drop_budget, drop_total] at C11
  have H11 := Lib.hid C11
  clear C11
  go_wp2_with fail
  refine H11.out.mono ?_
  clear H11
  rintro e w11 ⟨rfl, m11, hw11⟩
  have k11 : Kept NoF w10 w11 := by rw [hw11]; exact (Kept.refl _ _).drewN _
  clear hw11 m11
  have a11 := a10.kept k11 (fun _ _ h => h)
  have q11 := q10.kept k11 (fun _ _ h => h)
  have C12 := left_link q11
  rw [drop_budget, drop_total, ← T3.out] at C12
  have H12 := Lib.hid C12
  clear C12
  go_wp2_with fail
  refine H12.out.mono ?_
  clear H12
  rintro e w12 ⟨rfl, m12, hw12⟩
  have k12 : Kept NoF w11 w12 := by rw [hw12]; exact (Kept.refl _ _).drewN _
  clear hw12 m12
  have a12 := a11.kept k12 (fun _ _ h => h)
  have q12 := q11.kept k12 (fun _ _ h => h)
  have C13 := down_link a12
  rw [drop_down] at C13
  have H13 := Lib.hid C13
  clear C13
  go_wp2_with fail
  refine H13.out.mono ?_
  clear H13
  rintro e w13 ⟨rfl, rfl⟩
  have C14 := down_link q12
  rw [drop_down, ← T4.out] at C14
  have H14 := Lib.hid C14
  clear C14
  go_wp2_with fail
  refine H14.out.mono ?_
  clear H14
  rintro e w14 ⟨rfl, rfl⟩
  go_wp2_with fail
  go_ret
  exact ⟨rfl, b10.trans ((nof_below (k11.trans k12 (fun _ h => .inl h))).mono b10.size)⟩

end Go.Proofs.Ytchchgdkejolaaa
