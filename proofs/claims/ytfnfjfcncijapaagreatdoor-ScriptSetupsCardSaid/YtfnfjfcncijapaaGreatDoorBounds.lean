/- How great what is read of a script may be. -/
import Derived.Test.YtfnfjfcncijapaaGreatDoorPrintA
namespace Go.Proofs.YtfnfjfcncijapaaGreatDoor
open Go.RowKit Go.Shelf

theorem line_ok (P : PD) (s : List UInt8) (h : ∀ x ∈ P.steps, stepOk x = true) : ∀ x ∈ (lineS P s).1.steps, stepOk x = true := by
  cases hw : wordsOf s with
  | nil => rw [lineS_nil hw]; exact h
  | cons c r =>
    by_cases hp : Lib.hasPrefix c [35] = true
    · rw [lineS_hash hw hp]; exact h
    · have hp' : Lib.hasPrefix c [35] = false := by simpa using hp
      cases ha : argsOf r with
      | none => rw [lineS_bad hw hp' ha]; exact h
      | some args =>
        by_cases hk : kindS c args = 0
        · rw [lineS_zero hw hp' ha hk]; exact h
        · by_cases hq : kindS c args = 1 ∧ (P.begun || (needsV c && P.vaults == 0)) = true
          · rw [lineS_state hw hp' ha hq.1 hq.2]; exact h
          · rw [lineS_add hw hp' ha hk hq]
            dsimp only
            rw [add_steps]
            intro x hx
            rcases List.mem_append.1 hx with hx | hx
            · exact h x hx
            · rw [List.mem_singleton.1 hx]
              unfold stepOk
              simpa using hk
theorem parseL_ok : ∀ (ls : List (List UInt8)) (P : PD) (n : Nat), (∀ x ∈ P.steps, stepOk x = true) → (∀ x ∈ (parseL P ls n).1, stepOk x = true) ∧ (parseL P ls n).1.length ≤ P.steps.length + ls.length
  | [], P, n, h => ⟨h, Nat.le_refl _⟩
  | l :: ls, P, n, h => by
    unfold parseL
    split
    · obtain ⟨h1, h2⟩ := parseL_ok ls _ (n + 1) (line_ok P l h)
      have := lineS_steps P l
      exact ⟨h1, by simp only [List.length_cons]; omega⟩
    · exact ⟨fun x hx => by simp at hx, by simp⟩
theorem parseS_ok (s : List UInt8) : (∀ x ∈ (parseS s).1, stepOk x = true) ∧ (parseS s).1.length ≤ 65537 := by
  unfold parseS
  split
  · exact ⟨fun x hx => by simp at hx, by simp⟩
  · obtain ⟨h1, h2⟩ := parseL_ok (parts 10 s) P0 0 (fun x hx => by cases hx)
    have := parts_length 10 s
    refine ⟨h1, Nat.le_trans h2 ?_⟩
    show 0 + _ ≤ _
    omega
theorem stepOk_args {x : StepD} (h : stepOk x = true) : x.args.length ≤ 8 ∧ x.cmd.length ≤ 10 := by
  obtain ⟨h1, h2⟩ := kind_small (cmd := x.cmd) (args := x.args) (by simpa [stepOk] using h)
  exact ⟨h2, h1⟩

end Go.Proofs.YtfnfjfcncijapaaGreatDoor
