/- The reference's Send: the early returns (printed by genrefC.py). -/
import Derived.Test.YtchchgdkejolaaaRefB
import Derived.Test.YtchchgdkejolaaaUntil
namespace Go.Proofs.Ytchchgdkejolaaa
open Go.RowKit

set_option maxHeartbeats 400000 in
theorem rsend_no (n : Int) (x : Value) (r : RV) (L : LS) (w : World) (h0 : (n == 0) = false) (h1 : (n == 1) = false) :
    Calls Try.prog 21 #[.agg (r.cells L), .int .i64 n, x] w fun e w' => e = .returned (.tuple #[.agg (r.cells L), .int .i64 0, .int .i64 1]) ∧ Kept NoF w w' := by
  unfold RV.cells
  go_enter Try.func21, Try.ntmps21
  go_wp2_with (go_at_call 27; refine (side_no n _ h0 h1).mono ?_; rintro e w' ⟨rfl, rfl⟩)
  exact bodyPost_ret (v := .tuple #[.agg (r.cells L), .int .i64 0, .int .i64 1]) (by simp [results, Try.results21, go_sem, RV.cells]) rfl ⟨rfl, ((Kept.refl _ _).alloc _).alloc _⟩

set_option maxHeartbeats 400000 in
theorem rsend_down (n : Int) (x : Value) (r : RV) (L : LS) (w : World) (h : n = 0 ∨ n = 1) (hd : L.down = true) :
    Calls Try.prog 21 #[.agg (r.cells L), .int .i64 n, x] w fun e w' => e = .returned (.tuple #[.agg (r.cells L), .int .i64 0, .int .i64 15]) ∧ Kept NoF w w' := by
  unfold RV.cells
  rw [hd]
  have HD := Lib.hid hd
  clear hd
  go_enter Try.func21, Try.ntmps21
  go_wp2_with (go_at_call 27; refine (side_yes n _ h).mono ?_; rintro e w' ⟨rfl, rfl⟩)
  exact bodyPost_ret (v := .tuple #[.agg (r.cells L), .int .i64 0, .int .i64 15]) (by simp [results, Try.results21, go_sem, RV.cells, HD.out]) rfl ⟨by rw [RV.cells, HD.out], ((Kept.refl _ _).alloc _).alloc _⟩

set_option maxHeartbeats 2000000 in
set_option maxRecDepth 100000 in
theorem rsend_full (n : Int) (X : Option Addr) (m cx : Nat) (r : RV) (L : LS) (w : World) (hok : L.ok) (h : n = 0 ∨ n = 1) (hd : L.down = false) (hf : L.budget - ((L.s0.length : Int) + L.s1.length) < m) :
    Calls Try.prog 21 #[.agg (r.cells L), .int .i64 n, .slice X m cx] w fun e w' => e = .returned (.tuple #[.agg (r.cells L), .int .i64 0, .int .i64 7]) ∧ Kept NoF w w' := by
  unfold RV.cells
  rw [hd]
  have HD := Lib.hid hd
  clear hd
  have b0 := hok.b0
  have b1 := hok.b1
  have b2 := hok.tot
  have l0 := hok.c0
  have l1 := hok.c1
  have kW : Kept NoF w ((w.alloc (.cells #[.int .i64 L.budget, .int .i64 L.cut, .slice r.A0 L.s0.length r.c0, .slice r.A1 L.s1.length r.c1, .slice r.A2 L.w0.length r.c2, .slice r.A3 L.w1.length r.c3, .bool false] 46)).alloc (.cells #[.int .i64 0, .int .i64 0, .slice none 0 0, .slice none 0 0, .slice none 0 0, .slice none 0 0, .bool false] 46)) := ((Kept.refl NoF w).alloc _).alloc _
  have bx : Blk ((w.alloc (.cells #[.int .i64 L.budget, .int .i64 L.cut, .slice r.A0 L.s0.length r.c0, .slice r.A1 L.s1.length r.c1, .slice r.A2 L.w0.length r.c2, .slice r.A3 L.w1.length r.c3, .bool false] 46)).alloc (.cells #[.int .i64 0, .int .i64 0, .slice none 0 0, .slice none 0 0, .slice none 0 0, .slice none 0 0, .bool false] 46)) w.heap.size 46 #[.int .i64 L.budget, .int .i64 L.cut, .slice r.A0 L.s0.length r.c0, .slice r.A1 L.s1.length r.c1, .slice r.A2 L.w0.length r.c2, .slice r.A3 L.w1.length r.c3, .bool false] := (Blk.new w 46 _).alloc _
  have bz : Blk ((w.alloc (.cells #[.int .i64 L.budget, .int .i64 L.cut, .slice r.A0 L.s0.length r.c0, .slice r.A1 L.s1.length r.c1, .slice r.A2 L.w0.length r.c2, .slice r.A3 L.w1.length r.c3, .bool false] 46)).alloc (.cells #[.int .i64 0, .int .i64 0, .slice none 0 0, .slice none 0 0, .slice none 0 0, .slice none 0 0, .bool false] 46)) (w.heap.size + 1) 46 #[.int .i64 0, .int .i64 0, .slice none 0 0, .slice none 0 0, .slice none 0 0, .slice none 0 0, .bool false] := by
    have := Blk.new (w.alloc (.cells #[.int .i64 L.budget, .int .i64 L.cut, .slice r.A0 L.s0.length r.c0, .slice r.A1 L.s1.length r.c1, .slice r.A2 L.w0.length r.c2, .slice r.A3 L.w1.length r.c3, .bool false] 46)) 46 #[.int .i64 0, .int .i64 0, .slice none 0 0, .slice none 0 0, .slice none 0 0, .slice none 0 0, .bool false]
    rwa [show (w.alloc (.cells #[.int .i64 L.budget, .int .i64 L.cut, .slice r.A0 L.s0.length r.c0, .slice r.A1 L.s1.length r.c1, .slice r.A2 L.w0.length r.c2, .slice r.A3 L.w1.length r.c3, .bool false] 46)).heap.size = w.heap.size + 1 by simp] at this
  have hsz : w.heap.size + 2 ≤ ((w.alloc (.cells #[.int .i64 L.budget, .int .i64 L.cut, .slice r.A0 L.s0.length r.c0, .slice r.A1 L.s1.length r.c1, .slice r.A2 L.w0.length r.c2, .slice r.A3 L.w1.length r.c3, .bool false] 46)).alloc (.cells #[.int .i64 0, .int .i64 0, .slice none 0 0, .slice none 0 0, .slice none 0 0, .slice none 0 0, .bool false] 46)).heap.size := by simp
  have KW := Lib.hid kW
  have BX := Lib.hid bx
  have BZ := Lib.hid bz
  have HZ := Lib.hid hsz
  clear kW bx bz hsz
  go_enter Try.func21, Try.ntmps21
  go_upto_region 5 with (go_at_call 27; refine (side_yes n _ h).mono ?_; rintro e w' ⟨rfl, rfl⟩)
  have kw2 := KW.out
  have bx2 := BX.out
  have bz2 := BZ.out
  have hz2 := HZ.out
  clear KW BX BZ HZ
  generalize (w.alloc (.cells #[.int .i64 L.budget, .int .i64 L.cut, .slice r.A0 L.s0.length r.c0, .slice r.A1 L.s1.length r.c1, .slice r.A2 L.w0.length r.c2, .slice r.A3 L.w1.length r.c3, .bool false] 46)).alloc (.cells #[.int .i64 0, .int .i64 0, .slice none 0 0, .slice none 0 0, .slice none 0 0, .slice none 0 0, .bool false] 46) = w2 at kw2 bx2 bz2 hz2 ⊢
  have q0 : w2.cell? ⟨w.heap.size, 0, none⟩ = some (.int .i64 L.budget) := (bx2.cell 0).trans rfl
  have q1 : w2.cell? ⟨w.heap.size, 1, none⟩ = some (.int .i64 L.cut) := (bx2.cell 1).trans rfl
  have q2 : w2.cell? ⟨w.heap.size, 2, none⟩ = some (.slice r.A0 L.s0.length r.c0) := (bx2.cell 2).trans rfl
  have q3 : w2.cell? ⟨w.heap.size, 3, none⟩ = some (.slice r.A1 L.s1.length r.c1) := (bx2.cell 3).trans rfl
  have q4 : w2.cell? ⟨w.heap.size, 4, none⟩ = some (.slice r.A2 L.w0.length r.c2) := (bx2.cell 4).trans rfl
  have q5 : w2.cell? ⟨w.heap.size, 5, none⟩ = some (.slice r.A3 L.w1.length r.c3) := (bx2.cell 5).trans rfl
  have q6 : w2.cell? ⟨w.heap.size, 6, none⟩ = some (.bool false) := (bx2.cell 6).trans rfl
  have sall : ∀ W, Kept NoF w2 W → (fun w' => w'.cell? ⟨w.heap.size, 0, none⟩ = some (.int .i64 L.budget) ∧ w'.cell? ⟨w.heap.size, 1, none⟩ = some (.int .i64 L.cut) ∧ w'.cell? ⟨w.heap.size, 2, none⟩ = some (.slice r.A0 L.s0.length r.c0) ∧ w'.cell? ⟨w.heap.size, 3, none⟩ = some (.slice r.A1 L.s1.length r.c1) ∧ w'.cell? ⟨w.heap.size, 4, none⟩ = some (.slice r.A2 L.w0.length r.c2) ∧ w'.cell? ⟨w.heap.size, 5, none⟩ = some (.slice r.A3 L.w1.length r.c3) ∧ w'.cell? ⟨w.heap.size, 6, none⟩ = some (.bool false)) W := fun W k => ⟨k.cell q0 (fun h => h), k.cell q1 (fun h => h), k.cell q2 (fun h => h), k.cell q3 (fun h => h), k.cell q4 (fun h => h), k.cell q5 (fun h => h), k.cell q6 (fun h => h)⟩
  have SA := Lib.hid sall
  have kd := (Kept.refl NoF w2).drew
  clear sall
  have hwr : IntKind.i64.wrap (L.budget - ((L.s0.length : Int) + L.s1.length)) = L.budget - ((L.s0.length : Int) + L.s1.length) := by rw [IntKind.wrap_i64]; omega
  go_region_held3 (fun w' => w'.cell? ⟨w.heap.size, 0, none⟩ = some (.int .i64 L.budget) ∧ w'.cell? ⟨w.heap.size, 1, none⟩ = some (.int .i64 L.cut) ∧ w'.cell? ⟨w.heap.size, 2, none⟩ = some (.slice r.A0 L.s0.length r.c0) ∧ w'.cell? ⟨w.heap.size, 3, none⟩ = some (.slice r.A1 L.s1.length r.c1) ∧ w'.cell? ⟨w.heap.size, 4, none⟩ = some (.slice r.A2 L.w0.length r.c2) ∧ w'.cell? ⟨w.heap.size, 5, none⟩ = some (.slice r.A3 L.w1.length r.c3) ∧ w'.cell? ⟨w.heap.size, 6, none⟩ = some (.bool false)) (first | exact SA.out _ kd | exact SA.out _ (kd.trans k3 (fun _ h => .inl h)))
    (first | (go_at_call 28; refine (rtotal_walk L.budget L.cut r.A0 r.A1 r.A2 r.A3 L.s0.length r.c0 L.s1.length r.c1 L.w0.length r.c2 L.w1.length r.c3 false _ (by omega)).mono ?_; rintro e w3 ⟨rfl, k3⟩))
  clear hwr
  have kw3 := kd.trans k3 (fun _ h => .inl h)
  have bx3 := kw3.blk bx2 (fun h => h)
  have bz3 := kw3.blk bz2 (fun h => h)
  clear q0 q1 q2 q3 q4 q5 q6
  have q0 : w3.cell? ⟨w.heap.size, 0, none⟩ = some (.int .i64 L.budget) := (bx3.cell 0).trans rfl
  have q1 : w3.cell? ⟨w.heap.size, 1, none⟩ = some (.int .i64 L.cut) := (bx3.cell 1).trans rfl
  have q2 : w3.cell? ⟨w.heap.size, 2, none⟩ = some (.slice r.A0 L.s0.length r.c0) := (bx3.cell 2).trans rfl
  have q3 : w3.cell? ⟨w.heap.size, 3, none⟩ = some (.slice r.A1 L.s1.length r.c1) := (bx3.cell 3).trans rfl
  have q4 : w3.cell? ⟨w.heap.size, 4, none⟩ = some (.slice r.A2 L.w0.length r.c2) := (bx3.cell 4).trans rfl
  have q5 : w3.cell? ⟨w.heap.size, 5, none⟩ = some (.slice r.A3 L.w1.length r.c3) := (bx3.cell 5).trans rfl
  have q6 : w3.cell? ⟨w.heap.size, 6, none⟩ = some (.bool false) := (bx3.cell 6).trans rfl
  have y0 : w3.cell? ⟨w.heap.size + 1, 0, none⟩ = some (.int .i64 0) := (bz3.cell 0).trans rfl
  have y1 : w3.cell? ⟨w.heap.size + 1, 1, none⟩ = some (.int .i64 0) := (bz3.cell 1).trans rfl
  have y2 : w3.cell? ⟨w.heap.size + 1, 2, none⟩ = some (.slice none 0 0) := (bz3.cell 2).trans rfl
  have y3 : w3.cell? ⟨w.heap.size + 1, 3, none⟩ = some (.slice none 0 0) := (bz3.cell 3).trans rfl
  have y4 : w3.cell? ⟨w.heap.size + 1, 4, none⟩ = some (.slice none 0 0) := (bz3.cell 4).trans rfl
  have y5 : w3.cell? ⟨w.heap.size + 1, 5, none⟩ = some (.slice none 0 0) := (bz3.cell 5).trans rfl
  have y6 : w3.cell? ⟨w.heap.size + 1, 6, none⟩ = some (.bool false) := (bz3.cell 6).trans rfl
  have z : ∀ i, w3.frozen? ⟨w.heap.size + 1, i, none⟩ = false := fun i => bz3.frozen i
  clear bx2 bz2 bx3 bz3
  go_wp2_with fail
  refine bodyPost_ret (v := .tuple #[.agg (r.cells L), .int .i64 0, .int .i64 7]) (by simp [results, Try.results21, go_sem, RV.cells, HD.out, y0, y1, y2, y3, y4, y5, y6]) rfl ⟨by rw [RV.cells, HD.out], ?_⟩
  exact (kw2.trans kw3 (fun _ h => .inl h)).trans (Kept.seven _ _ _ _ _ _ _ _ _) (fun x h => .inr (by omega))

end Go.Proofs.Ytchchgdkejolaaa
