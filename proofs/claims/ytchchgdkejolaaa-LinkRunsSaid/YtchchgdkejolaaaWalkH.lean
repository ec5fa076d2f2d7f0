/- LinkRuns where the budget is refused. -/
import Derived.Test.YtchchgdkejolaaaWalkG
namespace Go.Proofs.Ytchchgdkejolaaa
open Go.RowKit

set_option maxHeartbeats 1000000 in
set_option maxRecDepth 100000 in
theorem runs_no (b c : Int) (A : Option Addr) (cap : Nat) (ops : List OpD) (w : World) (h : b < 0 ∨ 1073741824 < b) (hops : OpsAt w A ops) :
    Calls Try.prog 9 #[.int .i64 b, .int .i64 c, .slice A ops.length cap] w fun e w' => e = .returned (.bool true) ∧ Below w.heap.size w w' := by
  go_enter Try.func9, Try.ntmps9
  go_wp2_with fail
  refine (new_no b c _ h).mono ?_
  rintro e w1 ⟨rfl, rfl⟩
  go_wp2_with fail
  refine (rnew_no b c _ h).mono ?_
  rintro e w2 ⟨rfl, k2⟩
  unfold RV.cells
  go_wp2_with fail
  refine (awake_any _).mono ?_
  rintro e w3 ⟨rfl, k3⟩
  have k2a := (Kept.refl NoF w2).alloc (.cells (RV.none_.cells ⟨[], [], [], [], 0, 0, false⟩) 46)
  have b3 : Below w.heap.size w w3 := nof_below ((k2.trans k2a (fun _ h => .inl h)).trans (Kept.of_below (F := NoF) k3) (fun _ h => .inl h))
  have C := few_any A cap ops w3 (hops.below b3)
  clear k2a k3 k2
  cases hq : fewB ops
  · rw [hq] at C
    have H := Lib.hid C
    clear C hq
    go_wp2_with fail
    refine H.out.mono ?_
    rintro e w4 ⟨rfl, rfl⟩
    go_wp2_with fail
    refine (awake_any _).mono ?_
    rintro e w5 ⟨rfl, k5⟩
    go_wp2_with fail
    go_ret
    exact ⟨rfl, b3.trans (k5.mono b3.size)⟩
  · rw [hq] at C
    have H := Lib.hid C
    clear C hq
    go_wp2_with fail
    refine H.out.mono ?_
    rintro e w4 ⟨rfl, rfl⟩
    go_wp2_with fail
    go_ret
    exact ⟨rfl, b3⟩

end Go.Proofs.Ytchchgdkejolaaa
