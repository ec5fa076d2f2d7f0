/- A drawn region's held facts may be strengthened on the way; the plain law behind LinkSides. -/
import Derived.Test.YtchchgdkejolaaaLawA
import Derived.Deep.RegionHeld3
namespace Go.Proofs.Ytchchgdkejolaaa

theorem wpAnyH_stronger {P : Program} {md : Region.Mode} {ops : Array Oper} {Q : Exit → Act → World → Prop} {S S' : World → Prop} (hs : ∀ w, S' w → S w) :
    ∀ (fuel : Nat) (listed : Array Bool) (a : Act) (w : World), wpAnyH P md ops Q S' fuel listed a w → wpAnyH P md ops Q S fuel listed a w
  | 0, _, _, _, h => h
  | fuel + 1, _, _, _, h => ⟨h.1, fun i hi => wpOp_mono (fun a' w' h' => ⟨hs _ h'.1, wpAnyH_stronger hs fuel _ a' w' h'.2⟩) (h.2 i hi)⟩

/-- S' from here on. -/
theorem wpAnyH_now {P : Program} {md : Region.Mode} {ops : Array Oper} {Q : Exit → Act → World → Prop} {S : World → Prop} (S' : World → Prop) {fuel : Nat} {listed : Array Bool} {a : Act} {w : World} (hs : ∀ w, S' w → S w) (h0 : S' w)
    (h : S' w → wpAnyH P md ops Q S' fuel listed a w) : wpAnyH P md ops Q S fuel listed a w := wpAnyH_stronger hs _ _ _ _ (h h0)

def LS.swap (L : LS) : LS := ⟨L.s1, L.w1, L.s0, L.w0, L.budget, L.cut, L.down⟩
theorem swap_total (L : LS) : L.swap.total = L.total := by simp [LS.swap, LS.total, Int.add_comm]
theorem swap_put {L : LS} {k : Int} (hk : IsSide k) (ys : List UInt8) (d : Bool) : L.swap.put (1 - k) ys d = (L.put k ys d).swap := by
  rcases hk with rfl | rfl <;> simp [LS.put, LS.put0, LS.put1, LS.swap]
theorem swap_side {k : Int} (hk : IsSide k) : IsSide (1 - k) := by
  unfold IsSide at *
  omega
theorem swap_send {L : LS} {k : Int} (hk : IsSide k) (x : List UInt8) : L.swap.send (1 - k) x = ((L.send k x).1.swap, (L.send k x).2) := by
  unfold LS.send
  rw [if_pos hk, if_pos (swap_side hk), swap_total]
  have e1 : L.swap.down = L.down := rfl
  have e2 : L.swap.budget = L.budget := rfl
  have e3 : L.swap.cut = L.cut := rfl
  rw [e1, e2, e3, swap_put hk, swap_put hk]
  split
  · rfl
  · split
    · rfl
    · split <;> rfl
theorem swap_wait {L : LS} {k : Int} (hk : IsSide k) : L.swap.wait (1 - k) = L.wait k := by
  rcases hk with rfl | rfl <;> rfl
theorem swap_drop {L : LS} {k : Int} (hk : IsSide k) : L.swap.drop (1 - k) = (L.drop k).swap := by
  rcases hk with rfl | rfl <;> rfl

end Go.Proofs.Ytchchgdkejolaaa
