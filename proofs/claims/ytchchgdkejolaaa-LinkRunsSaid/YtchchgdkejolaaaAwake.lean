/- awake: the chapter's example holds. -/
import Derived.Test.YtchchgdkejolaaaConv
namespace Go.Proofs.Ytchchgdkejolaaa
open Go.RowKit

theorem lit_row (w : World) (xs : List UInt8) (mk : Nat × Nat) : Kept NoF w (w.alloc (.cells (bvs xs).toArray 5 mk)) ∧
    Reads (w.alloc (.cells (bvs xs).toArray 5 mk)) (w.alloc (.cells (bvs xs).toArray 5 mk)).heap.size 1 (some ⟨w.heap.size, 0, none⟩) xs.length (bvs xs) := by
  refine ⟨(Kept.refl _ _).alloc _, by rw [bvs_length]; omega, fun _ => ⟨_, rfl, by simp, fun j u hu => ?_⟩⟩
  rw [Addr.add_lit, Nat.zero_add]
  have : (w.alloc (.cells (bvs xs).toArray 5 mk)).heap[w.heap.size]? = some (.cells (bvs xs).toArray 5 mk) := heap_alloc_new w _
  unfold World.cell?
  rw [this]
  simpa using hu

def LA : LS := ⟨[97, 98, 99], [], [], [97, 98, 99], 10, 5, false⟩
def LB : LS := ⟨[97, 98, 99], [120, 121], [120, 121], [97, 98, 99], 10, 5, true⟩
def LC : LS := ⟨[97, 98, 99], [120, 121], [120, 121], [], 10, 5, true⟩
def LD : LS := ⟨[97, 98, 99], [], [120, 121], [], 10, 5, true⟩
theorem sendA : (LS.fresh 10 5).send 0 [97, 98, 99] = (LA, 3, 0) := rfl
theorem sendB : LA.send 1 [120, 121, 122] = (LB, 2, 15) := rfl
theorem dropC : LB.drop 1 = LC := rfl
theorem dropD : LC.drop 0 = LD := rfl
theorem waitB : LB.wait 1 = [97, 98, 99] := rfl
theorem waitC : LC.wait 0 = [120, 121] := rfl
theorem leftD : LD.budget - LD.total = 5 := rfl

theorem Kept.row {F : Nat → Prop} {w w' : World} {g : Nat} {xs : List UInt8} {c : Nat} (k : Kept F w w') (h : Reads w w.heap.size 1 (some ⟨g, 0, none⟩) c (bvs xs)) (hg : ¬ F g) : Reads w' w'.heap.size 1 (some ⟨g, 0, none⟩) c (bvs xs) :=
  k.src h (fun ad e _ => by injection e with e; subst e; exact hg)

set_option maxHeartbeats 1000000 in
set_option maxRecDepth 100000 in
theorem awake_any (w : World) : Calls Try.prog 11 #[] w fun e w' => e = .returned (.bool true) ∧ Below w.heap.size w w' := by
  have kc := fun (w : World) (C : Array Value) (n c : Nat) => Lib.run_convert_bytes_const (P := Try.prog) w 22 5 C n c Try.underlying22 Try.underlying5
  go_enter Try.func11, Try.ntmps11
  go_wp2_with fail
  refine (new_any 10 5 _ (by omega) (by omega) (by omega) (by omega)).mono ?_
  rintro e w1 ⟨rfl, l1, k1, s1⟩
  have S1 := Lib.hid s1
  clear s1
  go_wp2_with fail
  obtain ⟨w2, e2, k2, r2⟩ : ∃ w2, w1.alloc (.cells #[.int .u8 97, .int .u8 98, .int .u8 99] 5 (3, 4)) = w2 ∧ Kept NoF w1 w2 ∧ Reads w2 w2.heap.size 1 (some ⟨w1.heap.size, 0, none⟩) 3 (bvs [97, 98, 99]) := ⟨_, rfl, lit_row w1 [97, 98, 99] (3, 4)⟩
  rw [e2]
  clear e2
  have C3 := send_any (l1.kept k2 (fun _ _ h => h)) 0 _ 3 3 [97, 98, 99] rfl r2 (by
    intro ad e _ h
    injection e with e
    subst e
    have := S1.out
    unfold NewF at h
    simp only at h
    omega) (by decide)
  rw [sendA] at C3
  refine C3.mono ?_
  clear C3
  rintro e w3 ⟨rfl, l3, k3⟩
  go_wp2_with fail
  obtain ⟨w4, e4, k4, r4⟩ : ∃ w4, w3.alloc (.cells #[.int .u8 120, .int .u8 121, .int .u8 122] 5 (3, 4)) = w4 ∧ Kept NoF w3 w4 ∧ Reads w4 w4.heap.size 1 (some ⟨w3.heap.size, 0, none⟩) 3 (bvs [120, 121, 122]) := ⟨_, rfl, lit_row w3 [120, 121, 122] (3, 4)⟩
  rw [e4]
  clear e4
  have C5 := send_any (l3.kept k4 (fun _ _ h => h)) 1 _ 3 3 [120, 121, 122] rfl r4 (by
    intro ad e _ h
    injection e with e
    subst e
    have := l3.lt _ h
    simp only at this
    omega) (by decide)
  rw [sendB] at C5
  refine C5.mono ?_
  clear C5
  rintro e w5 ⟨rfl, l5, k5⟩
  go_wp2_with fail
  have C6 := recv_any l5 1 (.inr rfl)
  refine C6.mono ?_
  clear C6
  rintro e w6 ⟨v6, rfl, n6, l6, k6⟩
  rw [waitB] at n6
  rw [dropC] at l6
  obtain ⟨g6, rfl, hg6, hl6, r6⟩ := n6.reads
  go_wp2_with fail
  have C7 := recv_any l6 0 (.inl rfl)
  refine C7.mono ?_
  clear C7
  rintro e w7 ⟨v7, rfl, n7, l7, k7⟩
  rw [waitC] at n7
  rw [dropD] at l7
  obtain ⟨g7, rfl, hg7, hl7, r7⟩ := n7.reads
  have r67 := k7.row r6 (fun h => by have := l5.lt _ h; omega)
  have c6 : (convert 22 9 (.slice (some ⟨g6, 0, none⟩) 3 3)).run Try.prog w7 = .ok (.string ⟨#[97, 98, 99]⟩) w7 := conv_reads (c := 3) r67
  have c7 : (convert 22 9 (.slice (some ⟨g7, 0, none⟩) 2 2)).run Try.prog w7 = .ok (.string ⟨#[120, 121]⟩) w7 := conv_reads (c := 2) r7
  have C8 := left_link l7
  rw [leftD] at C8
  have H8 := Lib.hid C8
  clear C8
  go_wp2_with fail
  refine H8.out.mono ?_
  rintro e w8 ⟨rfl, m8, hw8⟩
  have k8 : Kept NoF w7 w8 := by rw [hw8]; exact (Kept.refl _ _).drewN _
  clear hw8 m8 H8
  have C9 := down_link (l7.kept k8 (fun _ _ h => h))
  have H9 := Lib.hid C9
  clear C9
  go_wp2_with fail
  refine H9.out.mono ?_
  rintro e w9 ⟨rfl, rfl⟩
  go_wp2_with fail
  go_ret
  refine ⟨rfl, ?_⟩
  have h2 := (k1.trans k2 (fun _ h => .inl h))
  have h3 : Kept NoF w w3 := h2.trans k3 (fun x h => .inr (by unfold NewF at h; omega))
  have h4 : Kept NoF w w4 := h3.trans k4 (fun _ h => .inl h)
  have hF : ∀ x, More (More (NewF w) w2 w3) w4 w5 x → w.heap.size ≤ x := by
    have := h2.size
    have := h4.size
    rintro x ((h | h) | h)
    · unfold NewF at h; omega
    · omega
    · omega
  have h5 : Kept NoF w w5 := h4.trans k5 (fun x h => .inr (hF x (.inl h)))
  have h6 : Kept NoF w w6 := h5.trans k6 (fun x h => .inr (hF x h))
  have h7 : Kept NoF w w7 := h6.trans k7 (fun x h => .inr (hF x h))
  exact (h7.trans k8 (fun _ h => .inl h)).below (Nat.le_refl _) (fun _ h => h.elim)

end Go.Proofs.Ytchchgdkejolaaa
