/- law.few. -/
import Derived.Test.YtfnfjfcncijapaaGreatDoorSteps
import Derived.Test.YtfnfjfcncijapaaGreatDoorBounds
namespace Go.Proofs.YtfnfjfcncijapaaGreatDoor
open Go.RowKit Go.Shelf
attribute [local go_sem] Oper.semAt_some

def lenS (args : List (List UInt8)) : Nat := (args.map List.length).sum
def totS (l : List StepD) : Nat := (l.map (fun s => lenS s.args)).sum
/-- Steps that are few and short. -/
def FewS (l : List StepD) : Prop := l.length ≤ 40 ∧ totS l ≤ 2000 ∧ ∀ s ∈ l, s.args.length ≤ 8
theorem lenS_snoc {l : List (List UInt8)} {j : Nat} (h : j < l.length) : lenS (l.take (j + 1)) = lenS (l.take j) + l[j].length := by
  unfold lenS
  rw [List.take_succ_eq_append_getElem h, List.map_append, List.sum_append]
  simp
theorem totS_snoc {l : List StepD} {j : Nat} (h : j < l.length) : totS (l.take (j + 1)) = totS (l.take j) + lenS l[j].args := by
  unfold totS
  rw [List.take_succ_eq_append_getElem h, List.map_append, List.sum_append]
  simp
theorem lenS_le {l : List (List UInt8)} (h : ∀ a ∈ l, a.length ≤ 140737488351232) : lenS l ≤ 140737488351232 * l.length := by
  induction l with
  | nil => simp [lenS]
  | cons x r ih =>
    have h1 := h x (by simp)
    have h2 := ih (fun a ha => h a (by simp [ha]))
    simp only [lenS, List.map_cons, List.sum_cons, List.length_cons] at h2 ⊢
    omega
def FewIn (w : World) (args : List (List UInt8)) (n0 : Nat) (n k : Value) (wr : World) : Prop :=
  ∃ j : Nat, j ≤ args.length ∧ j ≤ 10 ∧ k = .int .i64 (j : Int) ∧ n = .int .i64 ((n0 + lenS (args.take j) : Nat) : Int) ∧ wr = w
def FewOut (w : World) (l : List StepD) (n i : Value) (wr : World) : Prop :=
  ∃ j : Nat, j ≤ l.length ∧ j ≤ 50 ∧ i = .int .i64 (j : Int) ∧ n = .int .i64 ((totS (l.take j) : Nat) : Int) ∧ (∀ s ∈ l.take j, s.args.length ≤ 8) ∧ totS (l.take j) ≤ 1125899906809856 * j ∧ wr = w

set_option maxHeartbeats 4000000 in
set_option maxRecDepth 100000 in
theorem few_any {A : Option Addr} {l : List StepD} (ca : Nat) (w : World) (ha : StepsAt w A l) (hl : l.length ≤ 140737488351232) (hin : ∀ s ∈ l, ArgsIn s) :
    Calls Tryz.prog 14 #[.slice A l.length ca] w fun e w' => (∃ b, e = .returned (.bool b) ∧ (b = true → FewS l)) ∧ w' = w := by
  have HIN := Lib.hid hin
  clear hin
  go_enter Tryz.func14, Tryz.ntmps14
  go_wp2_with fail
  go_loopw [3, 4] (FewOut w l) (fun _ i _ => l.length - (intOf i).toNat)
  case atStart => exact ⟨0, Nat.zero_le _, by omega, rfl, rfl, fun s hs => by (simp at hs), by simp [totS], rfl⟩
  case round =>
    obtain ⟨j, hj, hj50, rfl, rfl, hsm, htot, rfl⟩ := hrel
    have HSM := Lib.hid hsm
    clear hsm
    by_cases hlt : j < l.length
    · have i1 : decide ((j : Int) < (l.length : Int)) = true := by simp; omega
      by_cases h50 : j < 50
      · have i2 : decide ((j : Int) < 50) = true := by simp; omega
        obtain ⟨xb, xo, X, cx, rfl, hxb, c0, c1, hX⟩ := ha.at_ hlt
        obtain ⟨hz, hzs⟩ := HIN.out _ (List.getElem_mem hlt)
        have htn := totS_snoc hlt
        have hsm' : l[j].args.length ≤ 8 → ∀ s ∈ l.take (j + 1), s.args.length ≤ 8 := fun h8 s hs => by
          rw [List.take_succ_eq_append_getElem hlt] at hs
          rcases List.mem_append.1 hs with hs | hs
          · exact HSM.out s hs
          · rw [List.mem_singleton.1 hs]; exact h8
        have hbad : ¬ l[j].args.length ≤ 8 → ¬ FewS l := fun h8 h => h8 (h.2.2 _ (List.getElem_mem hlt))
        have HTN := Lib.hid htn
        have HS' := Lib.hid hsm'
        have HZS := Lib.hid hzs
        clear htn hsm' HSM hbad hzs
        generalize htj : totS (l.take j) = n0 at htot HTN
        have HTJ := Lib.hid htj
        clear htj
        generalize l[j].args = args at *
        go_wp2_with fail
        go_loopw [3, 5] (FewIn wr args n0) (fun _ i _ => args.length - (intOf i).toNat)
        case atStart => exact ⟨0, Nat.zero_le _, by omega, rfl, by simp [lenS], rfl⟩
        case round =>
          obtain ⟨k, hk, hk10, rfl, rfl, rfl⟩ := hrel
          have hle := lenS_le (l := args.take k) (fun a ha => HZS.out a (List.mem_of_mem_take ha))
          rw [List.length_take, Nat.min_eq_left hk] at hle
          by_cases hlk : k < args.length
          · have k1 : decide ((k : Int) < (args.length : Int)) = true := by simp; omega
            by_cases hk' : k < 10
            · have k2 : decide ((k : Int) < 10) = true := by simp; omega
              obtain ⟨yb, yo, rfl, hyb, cy⟩ := hX.at_ hlk
              have hsn := lenS_snoc hlk
              have hzk := HZS.out _ (List.getElem_mem hlk)
              rw [← ba_size] at hzk hsn
              have HSN := Lib.hid hsn
              clear hsn
              generalize lenS (args.take k) = m at hle HSN ⊢
              generalize ba args[k] = sk at cy hzk HSN ⊢
              go_wp2_with fail
              go_roundw
              case rel => exact ⟨k + 1, hlk, hk', by go_num, by rw [HSN.out]; go_num, rfl⟩
              case measure => simp [intOf]; omega
            · have k2 : decide ((k : Int) < 10) = false := by simp; omega
              have k3 : decide ((8 : Int) < (args.length : Int)) = true := by simp; omega
              go_wp2_with fail
              go_ret
              exact ⟨⟨false, rfl, fun h => by cases h⟩, rfl⟩
          · obtain rfl : k = args.length := by omega
            have k1 : decide ((args.length : Int) < (args.length : Int)) = false := by simp
            rw [List.take_length] at hle ⊢
            by_cases h8 : args.length ≤ 8
            · have k3 : decide ((8 : Int) < (args.length : Int)) = false := by simp; omega
              have hnew : totS (l.take (j + 1)) ≤ 1125899906809856 * (j + 1) := by
                rw [HTN.out]
                have : 140737488351232 * args.length ≤ 140737488351232 * 8 := Nat.mul_le_mul_left _ h8
                omega
              have HNEW := Lib.hid hnew
              have HS8 := Lib.hid (HS'.out h8)
              clear hnew h8
              go_wp2_with fail
              go_roundw
              case rel => exact ⟨j + 1, hlt, h50, by go_num, by rw [HTN.out], HS8.out, HNEW.out, rfl⟩
              case measure => simp [intOf]; omega
            · have k3 : decide ((8 : Int) < (args.length : Int)) = true := by simp; omega
              go_wp2_with fail
              go_ret
              exact ⟨⟨false, rfl, fun h => by cases h⟩, rfl⟩
      · have i2 : decide ((j : Int) < 50) = false := by simp; omega
        have i3 : decide ((l.length : Int) ≤ 40) = false := by simp; omega
        go_wp2_with fail
        go_ret
        exact ⟨⟨false, rfl, fun h => by cases h⟩, rfl⟩
    · obtain rfl : j = l.length := by omega
      have i1 : decide ((l.length : Int) < (l.length : Int)) = false := by simp
      have hsm := HSM.out
      rw [List.take_length] at hsm htot ⊢
      have HS := Lib.hid hsm
      clear hsm HSM
      by_cases h40 : l.length ≤ 40
      · have i3 : decide ((l.length : Int) ≤ 40) = true := by simp; omega
        by_cases h2k : totS l ≤ 2000
        · have i4 : decide (((totS l : Nat) : Int) ≤ 2000) = true := by simp; omega
          go_wp2_with fail
          go_ret
          exact ⟨⟨true, rfl, fun _ => ⟨h40, h2k, HS.out⟩⟩, rfl⟩
        · have i4 : decide (((totS l : Nat) : Int) ≤ 2000) = false := by simp; omega
          go_wp2_with fail
          go_ret
          exact ⟨⟨false, rfl, fun h => by cases h⟩, rfl⟩
      · have i3 : decide ((l.length : Int) ≤ 40) = false := by simp; omega
        go_wp2_with fail
        go_ret
        exact ⟨⟨false, rfl, fun h => by cases h⟩, rfl⟩

end Go.Proofs.YtfnfjfcncijapaaGreatDoor
