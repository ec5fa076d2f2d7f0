/- The plain law behind LinkPrefix. -/
import Derived.Test.YtchchgdkejolaaaLawD
import Derived.Test.YtchchgdkejolaaaFew
namespace Go.Proofs.Ytchchgdkejolaaa

/-- What a send does to the four rows. -/
structure Sends (L : LS) (k : Int) (x : List UInt8) (r : LS × Int × Int) (n : Nat) : Prop where
  le : n ≤ x.length
  num : r.2.1 = (n : Int)
  s : r.1.sent k = L.sent k ++ x.take n
  s' : r.1.sent (1 - k) = L.sent (1 - k)
  q : r.1.wait (1 - k) = L.wait (1 - k) ++ x.take n
  q' : r.1.wait k = L.wait k
  all : r.2.2 = 0 → n = x.length
  err : r.2.2 ≠ 0 → r.1.down = true ∨ r.1.budget - r.1.total < x.length
  dn : L.down = true → r.1.down = true
  left : r.1.budget - r.1.total ≤ L.budget - L.total

theorem put_rows {L : LS} {k : Int} (hk : IsSide k) (ys : List UInt8) (d : Bool) : (L.put k ys d).sent k = L.sent k ++ ys ∧ (L.put k ys d).sent (1 - k) = L.sent (1 - k) ∧ (L.put k ys d).wait k = L.wait k := by
  rcases hk with rfl | rfl <;> simp [LS.put, LS.sent, LS.wait, LS.put0, LS.put1]

theorem sends {L : LS} (hok : L.ok) {k : Int} (hk : IsSide k) (x : List UInt8) : ∃ n, Sends L k x (L.send k x) n := by
  rcases send_cases L k x with ⟨h, _⟩ | ⟨_, hd, e⟩ | ⟨_, hd, hf, e⟩ | ⟨_, hd, hf, hc, hl, e⟩ | ⟨_, hd, hf, _, e⟩
  · exact absurd hk h
  · exact ⟨0, by rw [e]; exact ⟨Nat.zero_le _, rfl, by simp, rfl, by simp, rfl, (fun h => by cases h), fun _ => .inl hd, fun h => h, Int.le_refl _⟩⟩
  · exact ⟨0, by rw [e]; exact ⟨Nat.zero_le _, rfl, by simp, rfl, by simp, rfl, (fun h => by cases h), fun _ => .inr hf, fun h => h, Int.le_refl _⟩⟩
  · have hcu := hok.cuts hc
    have ht : L.total = (L.s0.length : Int) + L.s1.length := rfl
    obtain ⟨p1, p2, p3⟩ := put_rows (L := L) hk (x.take (L.cut - L.total).toNat) true
    refine ⟨(L.cut - L.total).toNat, ?_⟩
    rw [e]
    refine ⟨by omega, by simp only; omega, p1, p2, put_wait hk _ _, p3, (fun h => by cases h), fun _ => .inl (put_down _ _ _ _), fun _ => put_down _ _ _ _, ?_⟩
    simp only [put_budget, put_total]
    omega
  · obtain ⟨p1, p2, p3⟩ := put_rows (L := L) hk x false
    refine ⟨x.length, ?_⟩
    rw [e]
    refine ⟨Nat.le_refl _, rfl, by simpa using p1, p2, by simpa using put_wait hk x false, p3, fun _ => rfl, fun h => absurd rfl h, (fun h => by rw [hd] at h; cases h), ?_⟩
    simp only [put_budget, put_total]
    omega

theorem le_sum_mem : ∀ (l : List Nat) (a : Nat), a ∈ l → a ≤ l.sum
  | [], _, h => by cases h
  | b :: l, a, h => by
    rw [List.sum_cons]
    rcases List.mem_cons.1 h with rfl | h
    · omega
    · have := le_sum_mem l a h
      omega

theorem few_each {ops : List OpD} (h : fewB ops = true) {j : Nat} (hj : j < ops.length) : ops[j].xs.length ≤ 300 := by
  unfold fewB at h
  simp only [Bool.and_eq_true, decide_eq_true_eq] at h
  have : ops[j].xs.length ≤ opSum ops := by
    unfold opSum
    exact le_sum_mem _ _ (List.mem_map.2 ⟨ops[j], List.getElem_mem hj, rfl⟩)
  omega

end Go.Proofs.Ytchchgdkejolaaa
