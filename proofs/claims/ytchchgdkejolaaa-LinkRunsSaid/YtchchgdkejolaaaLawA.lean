/- The plain law behind LinkTogether. -/
import Derived.Test.YtchchgdkejolaaaPure
namespace Go.Proofs.Ytchchgdkejolaaa

theorem send_down_eq {L : LS} {k : Int} {x : List UInt8} (hk : IsSide k) (hd : L.down = true) : L.send k x = (L, 0, 15) := by
  unfold LS.send; rw [if_pos hk, if_pos hd]
theorem send_full_eq {L : LS} {k : Int} {x : List UInt8} (hk : IsSide k) (hd : L.down = false) (hf : L.budget - L.total < x.length) : L.send k x = (L, 0, 7) := by
  unfold LS.send; rw [if_pos hk, if_neg (by simp [hd]), if_pos hf]
theorem send_cut_eq {L : LS} {k : Int} {x : List UInt8} (hk : IsSide k) (hd : L.down = false) (hf : ¬ L.budget - L.total < x.length) (hc : 0 ≤ L.cut) (hl : L.cut - L.total < x.length) :
    L.send k x = (L.put k (x.take (L.cut - L.total).toNat) true, L.cut - L.total, 15) := by
  unfold LS.send; rw [if_pos hk, if_neg (by simp [hd]), if_neg hf, if_pos ⟨hc, hl⟩]
theorem send_all_eq {L : LS} {k : Int} {x : List UInt8} (hk : IsSide k) (hd : L.down = false) (hf : ¬ L.budget - L.total < x.length) (hc : ¬ (0 ≤ L.cut ∧ L.cut - L.total < x.length)) :
    L.send k x = (L.put k x false, (x.length : Int), 0) := by
  unfold LS.send; rw [if_pos hk, if_neg (by simp [hd]), if_neg hf, if_neg hc]
theorem send_not_eq {L : LS} {k : Int} {x : List UInt8} (hk : ¬ IsSide k) : L.send k x = (L, 0, 1) := by
  unfold LS.send; rw [if_neg hk]

section
variable (L : LS) (k : Int) (ys : List UInt8) (d : Bool)
theorem put_down : (L.put k ys d).down = d := by unfold LS.put; split <;> rfl
theorem put_budget : (L.put k ys d).budget = L.budget := by unfold LS.put; split <;> rfl
theorem put_cut : (L.put k ys d).cut = L.cut := by unfold LS.put; split <;> rfl
theorem put_total : (L.put k ys d).total = L.total + ys.length := by
  unfold LS.put; split <;> simp [LS.total, LS.put0, LS.put1] <;> omega
end

theorem put_wait {L : LS} {k : Int} (hk : IsSide k) (ys : List UInt8) (d : Bool) : (L.put k ys d).wait (1 - k) = L.wait (1 - k) ++ ys := by
  rcases hk with rfl | rfl <;> simp [LS.put, LS.wait, LS.put0, LS.put1]

def TogetherIs (A1 A2 B : LS × Int × Int) (k : Int) : Prop :=
  A1.2.1 + A2.2.1 = B.2.1 ∧ A2.1.wait (1 - k) = B.1.wait (1 - k) ∧ A2.1.budget - A2.1.total = B.1.budget - B.1.total ∧ A2.1.down = B.1.down ∧ A2.2.2 = B.2.2 ∧
    0 ≤ A1.2.1 ∧ A1.2.1 ≤ 150 ∧ 0 ≤ A2.2.1 ∧ A2.2.1 ≤ 150

theorem together (cut k : Int) (hk : IsSide k) (x y : List UInt8) (hx : x.length ≤ 150) (hy : y.length ≤ 150) :
    TogetherIs ((LS.fresh 300 cut).send k x) (((LS.fresh 300 cut).send k x).1.send k y) ((LS.fresh 300 cut).send k (x ++ y)) k := by
  have ft : (LS.fresh 300 cut).total = 0 := rfl
  have fb : (LS.fresh 300 cut).budget = 300 := rfl
  have fc : (LS.fresh 300 cut).cut = cut := rfl
  have fd : (LS.fresh 300 cut).down = false := rfl
  have fw : ∀ j, (LS.fresh 300 cut).wait j = [] := fun j => by simp [LS.wait, LS.fresh]
  unfold TogetherIs
  by_cases h1 : 0 ≤ cut ∧ cut < x.length
  · rw [send_cut_eq (x := x) hk fd (by rw [ft, fb]; omega) (by rw [fc]; omega) (by rw [fc, ft]; omega),
      send_cut_eq (x := x ++ y) hk fd (by rw [ft, fb, List.length_append]; omega) (by rw [fc]; omega) (by rw [fc, ft, List.length_append]; omega)]
    rw [send_down_eq hk (by exact put_down _ _ _ _)]
    simp only [put_wait hk, put_total, put_budget, put_down, ft, fc, fb, fw]
    rw [List.take_append_of_le_length (by omega)]
    refine ⟨by omega, rfl, rfl, trivial, trivial, by omega, by omega, by omega, by omega⟩
  · by_cases h2 : 0 ≤ cut ∧ cut < x.length + y.length
    · rw [send_all_eq (x := x) hk fd (by rw [ft, fb]; omega) (by rw [fc, ft]; omega),
        send_cut_eq (x := x ++ y) hk fd (by rw [ft, fb, List.length_append]; omega) (by rw [fc]; omega) (by rw [fc, ft, List.length_append]; omega)]
      rw [send_cut_eq (x := y) hk (put_down _ _ _ _) (by simp only [put_total, put_budget, ft, fb]; omega) (by simp only [put_cut, fc]; omega) (by simp only [put_cut, put_total, fc, ft]; omega)]
      simp only [put_wait hk, put_total, put_budget, put_down, put_cut, ft, fc, fb, fw]
      have e : List.take (cut - 0).toNat (x ++ y) = x ++ List.take (cut - (0 + (x.length : Int))).toNat y := by
        rw [List.take_append, List.take_of_length_le (by omega)]
        congr 2
        omega
      rw [e]
      refine ⟨by omega, by simp, ?_, trivial, trivial, by omega, by omega, by omega, by omega⟩
      rw [List.length_append]
      omega
    · rw [send_all_eq (x := x) hk fd (by rw [ft, fb]; omega) (by rw [fc, ft]; omega),
        send_all_eq (x := x ++ y) hk fd (by rw [ft, fb, List.length_append]; omega) (by rw [fc, ft, List.length_append]; omega)]
      rw [send_all_eq (x := y) hk (put_down _ _ _ _) (by simp only [put_total, put_budget, ft, fb]; omega) (by simp only [put_cut, put_total, fc, ft]; omega)]
      simp only [put_wait hk, put_total, put_budget, put_down, ft, fb, fw]
      rw [List.length_append]
      refine ⟨by omega, by simp, by omega, trivial, trivial, by omega, by omega, by omega, by omega⟩

end Go.Proofs.Ytchchgdkejolaaa
