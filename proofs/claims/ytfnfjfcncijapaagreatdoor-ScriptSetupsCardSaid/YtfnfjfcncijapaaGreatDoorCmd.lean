/- script.commands: the table of commands (printed by gencmd.py). -/
import Derived.Test.YtfnfjfcncijapaaGreatDoorTab
namespace Go.Proofs.YtfnfjfcncijapaaGreatDoor
open Go.RowKit Go.Shelf

/-- The commands: their kinds and the names of their arguments. -/
def cmdTable : List (List UInt8 × (Int × List UInt8)) := [([100, 101, 118, 105, 99, 101], (1, [78, 65, 77, 69, 32, 81, 85, 79, 84, 65])), ([118, 97, 117, 108, 116], (1, [87, 82, 73, 84, 69, 82, 83, 32, 68, 65, 84, 65, 32, 84, 79, 84, 65, 76, 32, 84, 72, 82, 69, 83, 72, 79, 76, 68])), ([99, 117, 116, 116, 105, 110, 103], (1, [77, 73, 78, 32, 77, 65, 88, 32, 87, 73, 78, 68, 79, 87, 32, 66, 73, 84, 83])), ([114, 117, 108, 101, 115], (1, [68, 65, 89, 83, 32, 87, 69, 69, 75, 83, 32, 77, 79, 78, 84, 72, 83, 32, 89, 69, 65, 82, 83])), ([113, 117, 111, 114, 117, 109], (1, [78])), ([115, 101, 101, 100], (1, [84, 69, 88, 84])), ([115, 99, 104, 101, 109, 101], (1, [66, 73, 84, 83, 32, 72, 69, 73, 71, 72, 84])), ([100, 105, 115, 107], (1, [83, 69, 67, 84, 79, 82, 83, 32, 83, 73, 90, 69])), ([100, 97, 121, 115], (1, [68, 65, 89, 32, 76, 69, 65, 80, 32, 65, 71, 82, 69, 69])), ([119, 114, 105, 116, 101], (2, [68, 32, 80, 65, 84, 72, 32, 84, 69, 88, 84])), ([114, 101, 109, 111, 118, 101], (2, [68, 32, 80, 65, 84, 72])), ([109, 111, 118, 101], (2, [68, 32, 80, 65, 84, 72, 32, 84, 79])), ([98, 97, 99, 107, 117, 112], (2, [68, 32, 86, 65, 85, 76, 84])), ([112, 97, 115, 115], (2, [78])), ([99, 108, 111, 99, 107], (2, [68, 32, 78])), ([109, 101, 101, 116], (2, [68, 32, 79, 84, 72, 69, 82, 32, 66, 85, 68, 71, 69, 84, 32, 67, 85, 84])), ([108, 111, 115, 101], (2, [68])), ([100, 114, 111, 112], (2, [68, 32, 78])), ([102, 97, 105, 108], (2, [68, 32, 65, 70, 84, 69, 82, 32, 84, 79, 82, 78, 32, 70, 76, 65, 71, 83])), ([104, 111, 108, 100], (2, [68, 32, 86, 65, 85, 76, 84, 32, 68, 65, 89, 32, 83, 87, 73, 84, 67, 72])), ([114, 101, 116, 97, 105, 110], (2, [68, 32, 86, 65, 85, 76, 84])), ([115, 101, 116, 116, 108, 101], (2, [68])), ([114, 101, 115, 116, 111, 114, 101], (2, [86, 65, 85, 76, 84, 32, 68, 32, 68, 65, 89, 32, 80, 65, 84, 72])), ([100, 97, 121], (3, [])), ([97, 108, 105, 118, 101], (3, [])), ([114, 101, 99, 111, 114, 100], (3, [])), ([104, 111, 110, 101, 115, 116], (3, [68])), ([110, 97, 109, 101, 100], (3, [68])), ([116, 114, 101, 101], (3, [68])), ([115, 117, 109], (3, [68])), ([115, 97, 102, 101], (3, [78])), ([115, 97, 109, 101], (3, [78])), ([115, 116, 114, 105, 112, 101, 115], (3, [78])), ([104, 111, 108, 100, 101, 114, 115], (3, [78, 32, 75]))]
def cmdVal (c : Int × List UInt8) : Value := .agg #[.int .i64 c.1, .string (ba c.2)]
def cmdMap : Obj := .map (tabEntries cmdVal cmdTable 0).toArray 34

set_option maxHeartbeats 2000000 in
set_option maxRecDepth 100000 in
theorem commands_any (w : World) : Calls Tryz.prog 45 #[] w fun e w' => e = .returned (.map (some w.heap.size)) ∧ w.alloc cmdMap = w' := by
  have hmm := @run_makeMap Tryz.prog
  go_enter Tryz.func45, Tryz.ntmps45
  go_wp2_with fail
  rw [run_insert_new (P := Tryz.prog) Tryz.underlying101 Tryz.underlying9]
  rotate_left
  · kernel_rfl
  go_wp2_with fail
  rw [run_insert_new (P := Tryz.prog) Tryz.underlying101 Tryz.underlying9]
  rotate_left
  · kernel_rfl
  go_wp2_with fail
  rw [run_insert_new (P := Tryz.prog) Tryz.underlying101 Tryz.underlying9]
  rotate_left
  · kernel_rfl
  go_wp2_with fail
  rw [run_insert_new (P := Tryz.prog) Tryz.underlying101 Tryz.underlying9]
  rotate_left
  · kernel_rfl
  go_wp2_with fail
  rw [run_insert_new (P := Tryz.prog) Tryz.underlying101 Tryz.underlying9]
  rotate_left
  · kernel_rfl
  go_wp2_with fail
  rw [run_insert_new (P := Tryz.prog) Tryz.underlying101 Tryz.underlying9]
  rotate_left
  · kernel_rfl
  go_wp2_with fail
  rw [run_insert_new (P := Tryz.prog) Tryz.underlying101 Tryz.underlying9]
  rotate_left
  · kernel_rfl
  go_wp2_with fail
  rw [run_insert_new (P := Tryz.prog) Tryz.underlying101 Tryz.underlying9]
  rotate_left
  · kernel_rfl
  go_wp2_with fail
  rw [run_insert_new (P := Tryz.prog) Tryz.underlying101 Tryz.underlying9]
  rotate_left
  · kernel_rfl
  go_wp2_with fail
  rw [run_insert_new (P := Tryz.prog) Tryz.underlying101 Tryz.underlying9]
  rotate_left
  · kernel_rfl
  go_wp2_with fail
  rw [run_insert_new (P := Tryz.prog) Tryz.underlying101 Tryz.underlying9]
  rotate_left
  · kernel_rfl
  go_wp2_with fail
  rw [run_insert_new (P := Tryz.prog) Tryz.underlying101 Tryz.underlying9]
  rotate_left
  · kernel_rfl
  go_wp2_with fail
  rw [run_insert_new (P := Tryz.prog) Tryz.underlying101 Tryz.underlying9]
  rotate_left
  · kernel_rfl
  go_wp2_with fail
  rw [run_insert_new (P := Tryz.prog) Tryz.underlying101 Tryz.underlying9]
  rotate_left
  · kernel_rfl
  go_wp2_with fail
  rw [run_insert_new (P := Tryz.prog) Tryz.underlying101 Tryz.underlying9]
  rotate_left
  · kernel_rfl
  go_wp2_with fail
  rw [run_insert_new (P := Tryz.prog) Tryz.underlying101 Tryz.underlying9]
  rotate_left
  · kernel_rfl
  go_wp2_with fail
  rw [run_insert_new (P := Tryz.prog) Tryz.underlying101 Tryz.underlying9]
  rotate_left
  · kernel_rfl
  go_wp2_with fail
  rw [run_insert_new (P := Tryz.prog) Tryz.underlying101 Tryz.underlying9]
  rotate_left
  · kernel_rfl
  go_wp2_with fail
  rw [run_insert_new (P := Tryz.prog) Tryz.underlying101 Tryz.underlying9]
  rotate_left
  · kernel_rfl
  go_wp2_with fail
  rw [run_insert_new (P := Tryz.prog) Tryz.underlying101 Tryz.underlying9]
  rotate_left
  · kernel_rfl
  go_wp2_with fail
  rw [run_insert_new (P := Tryz.prog) Tryz.underlying101 Tryz.underlying9]
  rotate_left
  · kernel_rfl
  go_wp2_with fail
  rw [run_insert_new (P := Tryz.prog) Tryz.underlying101 Tryz.underlying9]
  rotate_left
  · kernel_rfl
  go_wp2_with fail
  rw [run_insert_new (P := Tryz.prog) Tryz.underlying101 Tryz.underlying9]
  rotate_left
  · kernel_rfl
  go_wp2_with fail
  rw [run_insert_new (P := Tryz.prog) Tryz.underlying101 Tryz.underlying9]
  rotate_left
  · kernel_rfl
  go_wp2_with fail
  rw [run_insert_new (P := Tryz.prog) Tryz.underlying101 Tryz.underlying9]
  rotate_left
  · kernel_rfl
  go_wp2_with fail
  rw [run_insert_new (P := Tryz.prog) Tryz.underlying101 Tryz.underlying9]
  rotate_left
  · kernel_rfl
  go_wp2_with fail
  rw [run_insert_new (P := Tryz.prog) Tryz.underlying101 Tryz.underlying9]
  rotate_left
  · kernel_rfl
  go_wp2_with fail
  rw [run_insert_new (P := Tryz.prog) Tryz.underlying101 Tryz.underlying9]
  rotate_left
  · kernel_rfl
  go_wp2_with fail
  rw [run_insert_new (P := Tryz.prog) Tryz.underlying101 Tryz.underlying9]
  rotate_left
  · kernel_rfl
  go_wp2_with fail
  rw [run_insert_new (P := Tryz.prog) Tryz.underlying101 Tryz.underlying9]
  rotate_left
  · kernel_rfl
  go_wp2_with fail
  rw [run_insert_new (P := Tryz.prog) Tryz.underlying101 Tryz.underlying9]
  rotate_left
  · kernel_rfl
  go_wp2_with fail
  rw [run_insert_new (P := Tryz.prog) Tryz.underlying101 Tryz.underlying9]
  rotate_left
  · kernel_rfl
  go_wp2_with fail
  rw [run_insert_new (P := Tryz.prog) Tryz.underlying101 Tryz.underlying9]
  rotate_left
  · kernel_rfl
  go_wp2_with fail
  rw [run_insert_new (P := Tryz.prog) Tryz.underlying101 Tryz.underlying9]
  rotate_left
  · kernel_rfl
  go_wp2_with fail
  go_ret
  exact ⟨rfl, rfl⟩

end Go.Proofs.YtfnfjfcncijapaaGreatDoor
