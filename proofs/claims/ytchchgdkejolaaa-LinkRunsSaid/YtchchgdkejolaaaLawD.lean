/- The plain law behind LinkBounds. -/
import Derived.Test.YtchchgdkejolaaaLawA
namespace Go.Proofs.Ytchchgdkejolaaa

/-- A link that is down has reached its cut. -/
def DownInv (L : LS) : Prop := L.down = true → 0 ≤ L.cut ∧ L.total = L.cut

theorem send_cases (L : LS) (k : Int) (x : List UInt8) :
    (¬ IsSide k ∧ L.send k x = (L, 0, 1)) ∨ (IsSide k ∧ L.down = true ∧ L.send k x = (L, 0, 15)) ∨
    (IsSide k ∧ L.down = false ∧ L.budget - L.total < x.length ∧ L.send k x = (L, 0, 7)) ∨
    (IsSide k ∧ L.down = false ∧ ¬ L.budget - L.total < x.length ∧ 0 ≤ L.cut ∧ L.cut - L.total < x.length ∧ L.send k x = (L.put k (x.take (L.cut - L.total).toNat) true, L.cut - L.total, 15)) ∨
    (IsSide k ∧ L.down = false ∧ ¬ L.budget - L.total < x.length ∧ ¬ (0 ≤ L.cut ∧ L.cut - L.total < x.length) ∧ L.send k x = (L.put k x false, (x.length : Int), 0)) := by
  by_cases hk : IsSide k
  · by_cases hd : L.down = true
    · exact .inr (.inl ⟨hk, hd, send_down_eq hk hd⟩)
    · have hd' : L.down = false := by simpa using hd
      by_cases hf : L.budget - L.total < x.length
      · exact .inr (.inr (.inl ⟨hk, hd', hf, send_full_eq hk hd' hf⟩))
      · by_cases hc : 0 ≤ L.cut ∧ L.cut - L.total < x.length
        · exact .inr (.inr (.inr (.inl ⟨hk, hd', hf, hc.1, hc.2, send_cut_eq hk hd' hf hc.1 hc.2⟩)))
        · exact .inr (.inr (.inr (.inr ⟨hk, hd', hf, hc, send_all_eq hk hd' hf hc⟩)))
  · exact .inl ⟨hk, send_not_eq hk⟩

theorem send_keeps (L : LS) (k : Int) (x : List UInt8) : (L.send k x).1.budget = L.budget ∧ (L.send k x).1.cut = L.cut := by
  rcases send_cases L k x with ⟨_, e⟩ | ⟨_, _, e⟩ | ⟨_, _, _, e⟩ | ⟨_, _, _, _, _, e⟩ | ⟨_, _, _, _, e⟩ <;> rw [e] <;> simp [put_budget, put_cut]

theorem send_downInv {L : LS} (h : DownInv L) (hok : L.ok) (k : Int) (x : List UInt8) : DownInv (L.send k x).1 := by
  rcases send_cases L k x with ⟨_, e⟩ | ⟨_, _, e⟩ | ⟨_, _, _, e⟩ | ⟨_, _, _, hc, hl, e⟩ | ⟨_, _, _, _, e⟩ <;> rw [e]
  · exact h
  · exact h
  · exact h
  · intro _
    simp only [put_cut, put_total, List.length_take]
    have := hok.cuts hc
    have ht : L.total = (L.s0.length : Int) + L.s1.length := rfl
    omega
  · intro hd
    simp only [put_down] at hd
    cases hd

theorem bounds_cases (L : LS) (k : Int) (x : List UInt8) :
    ((L.send k x).1.down = false ∧ L.down = false ∧ ((L.send k x).2.2 == 15) = false) ∨ (L.send k x).1.down = true := by
  rcases send_cases L k x with ⟨_, e⟩ | ⟨_, hd, e⟩ | ⟨_, hd, _, e⟩ | ⟨_, _, _, hc, hl, e⟩ | ⟨_, hd, _, _, e⟩ <;> rw [e]
  · cases hd : L.down
    · exact .inl ⟨rfl, rfl, rfl⟩
    · exact .inr rfl
  · exact .inr hd
  · exact .inl ⟨hd, hd, rfl⟩
  · exact .inr (put_down _ _ _ _)
  · exact .inl ⟨put_down _ _ _ _, hd, rfl⟩

theorem fresh_downInv (b c : Int) : DownInv (LS.fresh b c) := fun h => by cases h

end Go.Proofs.Ytchchgdkejolaaa
