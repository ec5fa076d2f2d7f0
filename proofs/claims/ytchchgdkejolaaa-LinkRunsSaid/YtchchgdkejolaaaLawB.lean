/- The plain law behind LinkCuts. -/
import Derived.Test.YtchchgdkejolaaaLawA
namespace Go.Proofs.Ytchchgdkejolaaa

/-- The link behind j sends of one byte, the cut being c. -/
structure CutInv (c j : Nat) (L : LS) : Prop where
  bud : L.budget = 1000
  ct : L.cut = (c : Int)
  tot : L.total = ((min c j : Nat) : Int)
  dn : L.down = decide (c < j)

theorem cut_start (c : Nat) : CutInv c 0 (LS.fresh 1000 c) := ⟨rfl, rfl, by simp [LS.total, LS.fresh], by simp [LS.fresh]⟩

theorem cut_before {c j : Nat} {L : LS} (h : CutInv c j L) (hj : j < 100) (hc : j < c) (k : Int) (hk : IsSide k) (b : UInt8) :
    (L.send k [b]).2.1 = 1 ∧ (L.send k [b]).2.2 = 0 ∧ (L.send k [b]).1.down = false ∧ CutInv c (j + 1) (L.send k [b]).1 := by
  have hd : L.down = false := by rw [h.dn]; simp; omega
  have hm : min c j = j := by omega
  have ht := h.tot
  rw [hm] at ht
  rw [send_all_eq hk hd (by rw [h.bud, ht]; simp; omega) (by rw [h.ct, ht]; simp; omega)]
  refine ⟨rfl, rfl, put_down _ _ _ _, ⟨(put_budget _ _ _ _).trans h.bud, (put_cut _ _ _ _).trans h.ct, ?_, ?_⟩⟩
  · rw [put_total, ht]; simp; omega
  · rw [put_down]; simp; omega

theorem cut_behind {c j : Nat} {L : LS} (h : CutInv c j L) (hj : j < 100) (hc : c ≤ j) (k : Int) (hk : IsSide k) (b : UInt8) :
    (L.send k [b]).2.1 = 0 ∧ (L.send k [b]).2.2 = 15 ∧ (L.send k [b]).1.down = true ∧ CutInv c (j + 1) (L.send k [b]).1 := by
  have ht := h.tot
  have hm : min c j = c := by omega
  rw [hm] at ht
  by_cases hcj : c < j
  · have hd : L.down = true := by rw [h.dn]; simp [hcj]
    rw [send_down_eq hk hd]
    exact ⟨rfl, rfl, hd, ⟨h.bud, h.ct, by show L.total = _; rw [ht]; congr 1; omega, by show L.down = _; rw [hd]; simp; omega⟩⟩
  · have hd : L.down = false := by rw [h.dn]; simp [hcj]
    rw [send_cut_eq hk hd (by rw [h.bud, ht]; simp; omega) (by rw [h.ct]; omega) (by rw [h.ct, ht]; simp)]
    refine ⟨by rw [h.ct, ht]; simp, rfl, put_down _ _ _ _, ⟨(put_budget _ _ _ _).trans h.bud, (put_cut _ _ _ _).trans h.ct, ?_, ?_⟩⟩
    · rw [put_total, ht, h.ct]; simp; omega
    · rw [put_down]; simp; omega

theorem sent_total (L : LS) : ((L.sent 0).length : Int) + ((L.sent 1).length : Int) = L.total := rfl

end Go.Proofs.Ytchchgdkejolaaa
