/- Both events of a step are the same (printed by genEvE.py). -/
import Derived.Test.YtfnfjfcncijapaaGreatDoorEvD
import Derived.Test.YtfnfjfcncijapaaGreatDoorAgree
namespace Go.Proofs.YtfnfjfcncijapaaGreatDoor

theorem nm_write : namesOf (2, [68, 32, 80, 65, 84, 72, 32, 84, 69, 88, 84]) = [[68], [80, 65, 84, 72], [84, 69, 88, 84]] := by decide +kernel
theorem ev_write (args : List (List UInt8)) (h : ([[68], [80, 65, 84, 72], [84, 69, 88, 84]] : List (List UInt8)).length = args.length) : (evFold (evK [119, 114, 105, 116, 101]) [[68], [80, 65, 84, 72], [84, 69, 88, 84]] args, (0 : Int)) = evRow [119, 114, 105, 116, 101] args := by
  match args, h with
  | [a, b, c], _ => rfl
theorem nm_remove : namesOf (2, [68, 32, 80, 65, 84, 72]) = [[68], [80, 65, 84, 72]] := by decide +kernel
theorem ev_remove (args : List (List UInt8)) (h : ([[68], [80, 65, 84, 72]] : List (List UInt8)).length = args.length) : (evFold (evK [114, 101, 109, 111, 118, 101]) [[68], [80, 65, 84, 72]] args, (0 : Int)) = evRow [114, 101, 109, 111, 118, 101] args := by
  match args, h with
  | [a, b], _ => rfl
theorem nm_move : namesOf (2, [68, 32, 80, 65, 84, 72, 32, 84, 79]) = [[68], [80, 65, 84, 72], [84, 79]] := by decide +kernel
theorem ev_move (args : List (List UInt8)) (h : ([[68], [80, 65, 84, 72], [84, 79]] : List (List UInt8)).length = args.length) : (evFold (evK [109, 111, 118, 101]) [[68], [80, 65, 84, 72], [84, 79]] args, (0 : Int)) = evRow [109, 111, 118, 101] args := by
  match args, h with
  | [a, b, c], _ => rfl
theorem nm_backup : namesOf (2, [68, 32, 86, 65, 85, 76, 84]) = [[68], [86, 65, 85, 76, 84]] := by decide +kernel
theorem ev_backup (args : List (List UInt8)) (h : ([[68], [86, 65, 85, 76, 84]] : List (List UInt8)).length = args.length) : (evFold (evK [98, 97, 99, 107, 117, 112]) [[68], [86, 65, 85, 76, 84]] args, (0 : Int)) = evRow [98, 97, 99, 107, 117, 112] args := by
  match args, h with
  | [a, b], _ => rfl
theorem nm_pass : namesOf (2, [78]) = [[78]] := by decide +kernel
theorem ev_pass (args : List (List UInt8)) (h : ([[78]] : List (List UInt8)).length = args.length) : (evFold (evK [112, 97, 115, 115]) [[78]] args, (0 : Int)) = evRow [112, 97, 115, 115] args := by
  match args, h with
  | [a], _ => rfl
theorem nm_clock : namesOf (2, [68, 32, 78]) = [[68], [78]] := by decide +kernel
theorem ev_clock (args : List (List UInt8)) (h : ([[68], [78]] : List (List UInt8)).length = args.length) : (evFold (evK [99, 108, 111, 99, 107]) [[68], [78]] args, (0 : Int)) = evRow [99, 108, 111, 99, 107] args := by
  match args, h with
  | [a, b], _ => rfl
theorem nm_meet : namesOf (2, [68, 32, 79, 84, 72, 69, 82, 32, 66, 85, 68, 71, 69, 84, 32, 67, 85, 84]) = [[68], [79, 84, 72, 69, 82], [66, 85, 68, 71, 69, 84], [67, 85, 84]] := by decide +kernel
theorem ev_meet (args : List (List UInt8)) (h : ([[68], [79, 84, 72, 69, 82], [66, 85, 68, 71, 69, 84], [67, 85, 84]] : List (List UInt8)).length = args.length) : (evFold (evK [109, 101, 101, 116]) [[68], [79, 84, 72, 69, 82], [66, 85, 68, 71, 69, 84], [67, 85, 84]] args, (0 : Int)) = evRow [109, 101, 101, 116] args := by
  match args, h with
  | [a, b, c, d], _ => rfl
theorem nm_lose : namesOf (2, [68]) = [[68]] := by decide +kernel
theorem ev_lose (args : List (List UInt8)) (h : ([[68]] : List (List UInt8)).length = args.length) : (evFold (evK [108, 111, 115, 101]) [[68]] args, (0 : Int)) = evRow [108, 111, 115, 101] args := by
  match args, h with
  | [a], _ => rfl
theorem nm_drop : namesOf (2, [68, 32, 78]) = [[68], [78]] := by decide +kernel
theorem ev_drop (args : List (List UInt8)) (h : ([[68], [78]] : List (List UInt8)).length = args.length) : (evFold (evK [100, 114, 111, 112]) [[68], [78]] args, (0 : Int)) = evRow [100, 114, 111, 112] args := by
  match args, h with
  | [a, b], _ => rfl
theorem nm_fail : namesOf (2, [68, 32, 65, 70, 84, 69, 82, 32, 84, 79, 82, 78, 32, 70, 76, 65, 71, 83]) = [[68], [65, 70, 84, 69, 82], [84, 79, 82, 78], [70, 76, 65, 71, 83]] := by decide +kernel
theorem ev_fail (args : List (List UInt8)) (h : ([[68], [65, 70, 84, 69, 82], [84, 79, 82, 78], [70, 76, 65, 71, 83]] : List (List UInt8)).length = args.length) : (evFold (evK [102, 97, 105, 108]) [[68], [65, 70, 84, 69, 82], [84, 79, 82, 78], [70, 76, 65, 71, 83]] args, (0 : Int)) = evRow [102, 97, 105, 108] args := by
  match args, h with
  | [a, b, c, d], _ => rfl
theorem nm_hold : namesOf (2, [68, 32, 86, 65, 85, 76, 84, 32, 68, 65, 89, 32, 83, 87, 73, 84, 67, 72]) = [[68], [86, 65, 85, 76, 84], [68, 65, 89], [83, 87, 73, 84, 67, 72]] := by decide +kernel
theorem ev_hold (args : List (List UInt8)) (h : ([[68], [86, 65, 85, 76, 84], [68, 65, 89], [83, 87, 73, 84, 67, 72]] : List (List UInt8)).length = args.length) : (evFold (evK [104, 111, 108, 100]) [[68], [86, 65, 85, 76, 84], [68, 65, 89], [83, 87, 73, 84, 67, 72]] args, (0 : Int)) = evRow [104, 111, 108, 100] args := by
  match args, h with
  | [a, b, c, d], _ => rfl
theorem nm_retain : namesOf (2, [68, 32, 86, 65, 85, 76, 84]) = [[68], [86, 65, 85, 76, 84]] := by decide +kernel
theorem ev_retain (args : List (List UInt8)) (h : ([[68], [86, 65, 85, 76, 84]] : List (List UInt8)).length = args.length) : (evFold (evK [114, 101, 116, 97, 105, 110]) [[68], [86, 65, 85, 76, 84]] args, (0 : Int)) = evRow [114, 101, 116, 97, 105, 110] args := by
  match args, h with
  | [a, b], _ => rfl
theorem nm_settle : namesOf (2, [68]) = [[68]] := by decide +kernel
theorem ev_settle (args : List (List UInt8)) (h : ([[68]] : List (List UInt8)).length = args.length) : (evFold (evK [115, 101, 116, 116, 108, 101]) [[68]] args, (0 : Int)) = evRow [115, 101, 116, 116, 108, 101] args := by
  match args, h with
  | [a], _ => rfl
theorem nm_restore : namesOf (2, [86, 65, 85, 76, 84, 32, 68, 32, 68, 65, 89, 32, 80, 65, 84, 72]) = [[86, 65, 85, 76, 84], [68], [68, 65, 89], [80, 65, 84, 72]] := by decide +kernel
theorem ev_restore (args : List (List UInt8)) (h : ([[86, 65, 85, 76, 84], [68], [68, 65, 89], [80, 65, 84, 72]] : List (List UInt8)).length = args.length) : (evFold (evK [114, 101, 115, 116, 111, 114, 101]) [[86, 65, 85, 76, 84], [68], [68, 65, 89], [80, 65, 84, 72]] args, (0 : Int)) = evRow [114, 101, 115, 116, 111, 114, 101] args := by
  match args, h with
  | [a, b, c, d], _ => rfl
theorem ev_tab : ∀ p ∈ cmdTable, p.2.1 = 2 → ∀ args : List (List UInt8), (namesOf p.2).length = args.length → (evFold (evK p.1) (namesOf p.2) args, (0 : Int)) = evRow p.1 args := by
  unfold cmdTable
  refine List.forall_mem_cons.2 ⟨fun h => absurd h (by decide), ?_⟩
  refine List.forall_mem_cons.2 ⟨fun h => absurd h (by decide), ?_⟩
  refine List.forall_mem_cons.2 ⟨fun h => absurd h (by decide), ?_⟩
  refine List.forall_mem_cons.2 ⟨fun h => absurd h (by decide), ?_⟩
  refine List.forall_mem_cons.2 ⟨fun h => absurd h (by decide), ?_⟩
  refine List.forall_mem_cons.2 ⟨fun h => absurd h (by decide), ?_⟩
  refine List.forall_mem_cons.2 ⟨fun h => absurd h (by decide), ?_⟩
  refine List.forall_mem_cons.2 ⟨fun h => absurd h (by decide), ?_⟩
  refine List.forall_mem_cons.2 ⟨fun h => absurd h (by decide), ?_⟩
  refine List.forall_mem_cons.2 ⟨fun _ args hl => (congrArg (fun n => (evFold (evK [119, 114, 105, 116, 101]) n args, (0 : Int))) nm_write).trans (ev_write args ((congrArg List.length nm_write).symm.trans hl)), ?_⟩
  refine List.forall_mem_cons.2 ⟨fun _ args hl => (congrArg (fun n => (evFold (evK [114, 101, 109, 111, 118, 101]) n args, (0 : Int))) nm_remove).trans (ev_remove args ((congrArg List.length nm_remove).symm.trans hl)), ?_⟩
  refine List.forall_mem_cons.2 ⟨fun _ args hl => (congrArg (fun n => (evFold (evK [109, 111, 118, 101]) n args, (0 : Int))) nm_move).trans (ev_move args ((congrArg List.length nm_move).symm.trans hl)), ?_⟩
  refine List.forall_mem_cons.2 ⟨fun _ args hl => (congrArg (fun n => (evFold (evK [98, 97, 99, 107, 117, 112]) n args, (0 : Int))) nm_backup).trans (ev_backup args ((congrArg List.length nm_backup).symm.trans hl)), ?_⟩
  refine List.forall_mem_cons.2 ⟨fun _ args hl => (congrArg (fun n => (evFold (evK [112, 97, 115, 115]) n args, (0 : Int))) nm_pass).trans (ev_pass args ((congrArg List.length nm_pass).symm.trans hl)), ?_⟩
  refine List.forall_mem_cons.2 ⟨fun _ args hl => (congrArg (fun n => (evFold (evK [99, 108, 111, 99, 107]) n args, (0 : Int))) nm_clock).trans (ev_clock args ((congrArg List.length nm_clock).symm.trans hl)), ?_⟩
  refine List.forall_mem_cons.2 ⟨fun _ args hl => (congrArg (fun n => (evFold (evK [109, 101, 101, 116]) n args, (0 : Int))) nm_meet).trans (ev_meet args ((congrArg List.length nm_meet).symm.trans hl)), ?_⟩
  refine List.forall_mem_cons.2 ⟨fun _ args hl => (congrArg (fun n => (evFold (evK [108, 111, 115, 101]) n args, (0 : Int))) nm_lose).trans (ev_lose args ((congrArg List.length nm_lose).symm.trans hl)), ?_⟩
  refine List.forall_mem_cons.2 ⟨fun _ args hl => (congrArg (fun n => (evFold (evK [100, 114, 111, 112]) n args, (0 : Int))) nm_drop).trans (ev_drop args ((congrArg List.length nm_drop).symm.trans hl)), ?_⟩
  refine List.forall_mem_cons.2 ⟨fun _ args hl => (congrArg (fun n => (evFold (evK [102, 97, 105, 108]) n args, (0 : Int))) nm_fail).trans (ev_fail args ((congrArg List.length nm_fail).symm.trans hl)), ?_⟩
  refine List.forall_mem_cons.2 ⟨fun _ args hl => (congrArg (fun n => (evFold (evK [104, 111, 108, 100]) n args, (0 : Int))) nm_hold).trans (ev_hold args ((congrArg List.length nm_hold).symm.trans hl)), ?_⟩
  refine List.forall_mem_cons.2 ⟨fun _ args hl => (congrArg (fun n => (evFold (evK [114, 101, 116, 97, 105, 110]) n args, (0 : Int))) nm_retain).trans (ev_retain args ((congrArg List.length nm_retain).symm.trans hl)), ?_⟩
  refine List.forall_mem_cons.2 ⟨fun _ args hl => (congrArg (fun n => (evFold (evK [115, 101, 116, 116, 108, 101]) n args, (0 : Int))) nm_settle).trans (ev_settle args ((congrArg List.length nm_settle).symm.trans hl)), ?_⟩
  refine List.forall_mem_cons.2 ⟨fun _ args hl => (congrArg (fun n => (evFold (evK [114, 101, 115, 116, 111, 114, 101]) n args, (0 : Int))) nm_restore).trans (ev_restore args ((congrArg List.length nm_restore).symm.trans hl)), ?_⟩
  refine List.forall_mem_cons.2 ⟨fun h => absurd h (by decide), ?_⟩
  refine List.forall_mem_cons.2 ⟨fun h => absurd h (by decide), ?_⟩
  refine List.forall_mem_cons.2 ⟨fun h => absurd h (by decide), ?_⟩
  refine List.forall_mem_cons.2 ⟨fun h => absurd h (by decide), ?_⟩
  refine List.forall_mem_cons.2 ⟨fun h => absurd h (by decide), ?_⟩
  refine List.forall_mem_cons.2 ⟨fun h => absurd h (by decide), ?_⟩
  refine List.forall_mem_cons.2 ⟨fun h => absurd h (by decide), ?_⟩
  refine List.forall_mem_cons.2 ⟨fun h => absurd h (by decide), ?_⟩
  refine List.forall_mem_cons.2 ⟨fun h => absurd h (by decide), ?_⟩
  refine List.forall_mem_cons.2 ⟨fun h => absurd h (by decide), ?_⟩
  refine List.forall_mem_cons.2 ⟨fun h => absurd h (by decide), ?_⟩
  exact fun p hp => by cases hp
theorem ev_agree (cmd : List UInt8) (args : List (List UInt8)) : evR cmd args = evS cmd args := by
  unfold evR evS
  rw [kind_valid]
  cases hq : cmdTable.find? (fun p => p.1 == cmd) with
  | none =>
    have hk : kindS cmd args = 0 := by unfold kindS; rw [hq]
    rw [hk]
    rfl
  | some p =>
    have hm := List.mem_of_find?_eq_some hq
    have hp : p.1 = cmd := by simpa using List.find?_some hq
    subst hp
    have hk : kindS p.1 args = if (namesOf p.2).length = args.length ∧ allFit (namesOf p.2) args = true then p.2.1 else 0 := by unfold kindS; rw [hq]
    by_cases hc : (namesOf p.2).length = args.length ∧ allFit (namesOf p.2) args = true
    · rw [if_pos hc] at hk
      rw [hk]
      by_cases h0 : p.2.1 = 0
      · rw [h0]; rfl
      · have hb : ¬ (p.2.1 != 0) = false := by simpa using h0
        rw [if_neg hb, if_neg h0]
        by_cases h2 : p.2.1 = 2
        · rw [if_pos h2]
          exact (ev_tab p hm h2 args hc.1).symm
        · rw [if_neg h2]
          exact evRow_other (tab_other p hm h2) args
    · rw [if_neg hc] at hk
      rw [hk]
      rfl

end Go.Proofs.YtfnfjfcncijapaaGreatDoor
