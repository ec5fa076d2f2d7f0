/- kinkeepref56: Forms, Find (printed by genfind.py). -/
import Derived.Test.YtfnfjfcncijapaaGreatDoorNums
namespace Go.Proofs.YtfnfjfcncijapaaGreatDoor
open Go.RowKit Go.Shelf
attribute [local go_sem] Oper.semAt_some

/-- The reference's commands, their arguments' forms and their kinds. -/
def refTable : List (List UInt8 × List UInt8 × Int) := [([97, 108, 105, 118, 101], [], 3), ([98, 97, 99, 107, 117, 112], [110, 110], 2), ([99, 108, 111, 99, 107], [110, 110], 2), ([99, 117, 116, 116, 105, 110, 103], [110, 110, 110, 110], 1), ([100, 97, 121], [], 3), ([100, 97, 121, 115], [110, 110, 110], 1), ([100, 101, 118, 105, 99, 101], [115, 110], 1), ([100, 105, 115, 107], [110, 110], 1), ([100, 114, 111, 112], [110, 110], 2), ([102, 97, 105, 108], [110, 110, 110, 98], 2), ([104, 111, 108, 100], [110, 110, 110, 119], 2), ([104, 111, 108, 100, 101, 114, 115], [110, 110], 3), ([104, 111, 110, 101, 115, 116], [110], 3), ([108, 111, 115, 101], [110], 2), ([109, 101, 101, 116], [110, 110, 110, 110], 2), ([109, 111, 118, 101], [110, 115, 115], 2), ([110, 97, 109, 101, 100], [110], 3), ([112, 97, 115, 115], [110], 2), ([113, 117, 111, 114, 117, 109], [110], 1), ([114, 101, 99, 111, 114, 100], [], 3), ([114, 101, 109, 111, 118, 101], [110, 115], 2), ([114, 101, 115, 116, 111, 114, 101], [110, 110, 110, 115], 2), ([114, 101, 116, 97, 105, 110], [110, 110], 2), ([114, 117, 108, 101, 115], [110, 110, 110, 110], 1), ([115, 97, 102, 101], [110], 3), ([115, 97, 109, 101], [110], 3), ([115, 99, 104, 101, 109, 101], [110, 110], 1), ([115, 101, 101, 100], [115], 1), ([115, 101, 116, 116, 108, 101], [110], 2), ([115, 116, 114, 105, 112, 101, 115], [110], 3), ([115, 117, 109], [110], 3), ([116, 114, 101, 101], [110], 3), ([118, 97, 117, 108, 116], [108, 110, 110, 110], 1), ([119, 114, 105, 116, 101], [110, 115, 115], 2)]
def formVals (f : List UInt8 × List UInt8 × Int) : List Value := [.string (ba f.1), .string (ba f.2.1), .int .i64 f.2.2]
def formCells (l : List (List UInt8 × List UInt8 × Int)) : List Value := l.flatMap formVals

set_option maxHeartbeats 4000000 in
set_option maxRecDepth 100000 in
theorem forms_any (w : World) : Calls Tryz.prog 26 #[] w fun e w' => e = .returned (.slice (some ⟨w.heap.size, 0, none⟩) 34 34) ∧ w' = w.alloc (.cells (formCells refTable).toArray 71) := by
  go_enter Tryz.func26, Tryz.ntmps26
  go_wp2_with fail
  go_ret
  exact ⟨rfl, rfl⟩

theorem formCells_get {l : List (List UInt8 × List UInt8 × Int)} {k : Nat} (h : k < l.length) : (formCells l)[k * 3]? = some (.string (ba l[k].1)) ∧ (formCells l)[k * 3 + 1]? = some (.string (ba l[k].2.1)) ∧ (formCells l)[k * 3 + 2]? = some (.int .i64 l[k].2.2) := by
  induction l generalizing k with
  | nil => simp at h
  | cons x xs ih =>
    cases k with
    | zero => exact ⟨rfl, rfl, rfl⟩
    | succ k =>
      have := ih (k := k) (by simpa using h)
      simp only [formCells, List.flatMap_cons, formVals, List.cons_append, List.nil_append, Nat.succ_mul, Nat.add_assoc, List.getElem_cons_succ] at this ⊢
      exact this

/-- The form of a command. -/
def findR (cmd : List UInt8) : (List UInt8 × List UInt8 × Int) × Bool := match refTable.find? (fun f => f.1 == cmd) with
  | some f => (f, true)
  | none => (([], [], 0), false)
def FindPost (r : (List UInt8 × List UInt8 × Int) × Bool) (w : World) (e : Ending) (w' : World) : Prop :=
  e = .returned (.tuple #[.agg #[.string (ba r.1.1), .string (ba r.1.2.1), .int .i64 r.1.2.2], .bool r.2]) ∧ Below w.heap.size w w'
def FindRel (w1 : World) (cmd : List UInt8) (i : Value) (wr : World) : Prop := ∃ j : Nat, j ≤ 34 ∧ i = .int .i64 (j : Int) ∧ (refTable.take j).find? (fun f => f.1 == cmd) = none ∧ wr = w1

theorem find_here {l : List (List UInt8 × List UInt8 × Int)} {cmd : List UInt8} {j : Nat} (h : j < l.length) (h0 : (l.take j).find? (fun f => f.1 == cmd) = none) (he : l[j].1 = cmd) : l.find? (fun f => f.1 == cmd) = some l[j] := by
  have hl : l.find? (fun f => f.1 == cmd) = (l.take j ++ l.drop j).find? (fun f => f.1 == cmd) := by rw [List.take_append_drop]
  rw [hl, List.find?_append, h0, Option.none_or, List.drop_eq_getElem_cons h, List.find?_cons_of_pos (by simp [he])]
theorem find_next {l : List (List UInt8 × List UInt8 × Int)} {cmd : List UInt8} {j : Nat} (h : j < l.length) (h0 : (l.take j).find? (fun f => f.1 == cmd) = none) (he : l[j].1 ≠ cmd) : (l.take (j + 1)).find? (fun f => f.1 == cmd) = none := by
  rw [List.take_succ_eq_append_getElem h, List.find?_append, h0]
  simp [he]
theorem results_find {tmps : Array Value} {W : World} {n : Nat} {a b c : Value} (h2 : tmps.getD 2 undef = .pointer (some ⟨n, 0, none⟩)) (hb : Blk W n 71 #[a, b, c]) :
    (results Tryz.f39 tmps).run Tryz.prog W = .ok (.tuple #[.agg #[a, b, c], tmps.getD 3 undef]) W := by
  rw [results_cell_tmp (p := 2) (u := 3) (ty := 71) rfl, h2]
  have hl := run_loadVar_row (P := Tryz.prog) W n 71 71 #[a, b, c] (0, 0) _ hb Tryz.underlying71 rfl (by kernel_rfl)
  simp [asAddr, hl, Result.andThen]
theorem refTable_length : refTable.length = 34 := rfl

set_option maxHeartbeats 2000000 in
set_option maxRecDepth 100000 in
theorem find_any (cmd : ByteArray) (w : World) : Calls Tryz.prog 39 #[.string cmd] w (FindPost (findR cmd.data.toList) w) := by
  go_enter Tryz.func39, Tryz.ntmps39
  go_wp2_with fail
  refine (forms_any _).mono ?_
  rintro e w1 ⟨rfl, hw1⟩
  have b0 : Blk w1 w.heap.size 71 #[.string ⟨#[]⟩, .string ⟨#[]⟩, .int .i64 0] := by rw [hw1]; exact (Blk.new w 71 _).alloc _
  have b1 : Blk w1 (w.heap.size + 1) 71 (formCells refTable).toArray := by
    rw [hw1]
    have := Blk.new (w.alloc (.cells #[.string ⟨#[]⟩, .string ⟨#[]⟩, .int .i64 0] 71)) 71 (formCells refTable).toArray
    rwa [World.size_alloc] at this
  have k1 : Below w.heap.size w w1 := by rw [hw1]; exact ((Below.refl _ _).alloc (Nat.le_refl _) _).alloc (by simp) _
  clear hw1
  simp only [World.size_alloc]
  go_wp2_with fail
  go_loopw [5] (FindRel w1 cmd.data.toList) (fun i _ => 34 - (intOf i).toNat)
  case atStart => exact ⟨0, by omega, rfl, rfl, rfl⟩
  case round =>
    obtain ⟨j, hj, rfl, hf, rfl⟩ := hrel
    have HF := Lib.hid hf
    clear hf
    have a0 : wr.cell? ⟨w.heap.size, 0, none⟩ = some (.string ⟨#[]⟩) := (b0.cell 0).trans rfl
    have a1 : wr.cell? ⟨w.heap.size, 1, none⟩ = some (.string ⟨#[]⟩) := (b0.cell 1).trans rfl
    have a2 : wr.cell? ⟨w.heap.size, 2, none⟩ = some (.int .i64 0) := (b0.cell 2).trans rfl
    have fz0 := b0.frozen 0
    have fz1 := b0.frozen 1
    have fz2 := b0.frozen 2
    by_cases hlt : j < 34
    · have hlt' : j < refTable.length := hlt
      obtain ⟨g0, g1, g2⟩ := formCells_get hlt'
      have c0 : wr.cell? ⟨w.heap.size + 1, j * 3, none⟩ = some (.string (ba refTable[j].1)) := by rw [b1.cell]; simpa using g0
      have c1 : wr.cell? ⟨w.heap.size + 1, j * 3 + 1, none⟩ = some (.string (ba refTable[j].2.1)) := by rw [b1.cell]; simpa using g1
      have c2 : wr.cell? ⟨w.heap.size + 1, j * 3 + 2, none⟩ = some (.int .i64 refTable[j].2.2) := by rw [b1.cell]; simpa using g2
      have i1 : (j : Int) < 34 := by omega
      have hfh := @find_here refTable cmd.data.toList j hlt' HF.out
      have hfn := @find_next refTable cmd.data.toList j hlt' HF.out
      clear g0 g1 g2
      generalize refTable[j] = f at c0 c1 c2 hfh hfn
      obtain ⟨f0, f1, f2⟩ := f
      dsimp only at c0 c1 c2 hfh hfn
      by_cases he : f0 = cmd.data.toList
      · have t0 : ((ba f0).toList == cmd.toList) = true := by rw [Lib.toList_data, Lib.toList_data, ba_toList, he]; simp
        have HR := Lib.hid (hfh he)
        clear hfh hfn he
        go_wp2_with fail
        refine bodyPost_ret (results_find rfl (((b0.set_ 0 _).set_ 1 _).set_ 2 _)) rfl ?_
        refine ⟨?_, ((k1.setCell (p := ⟨w.heap.size, 0, none⟩) (Nat.le_refl _) _).setCell (p := ⟨w.heap.size, 1, none⟩) (Nat.le_refl _) _).setCell (p := ⟨w.heap.size, 2, none⟩) (Nat.le_refl _) _⟩
        unfold findR
        rw [HR.out]
        rfl
      · have t0 : ((ba f0).toList == cmd.toList) = false := by rw [Lib.toList_data, Lib.toList_data, ba_toList]; simpa using he
        have HR := Lib.hid (hfn he)
        clear hfh hfn he
        go_wp2_with fail
        go_roundw
        case rel => exact ⟨j + 1, by omega, by go_num, HR.out, rfl⟩
        case measure => simp [intOf]; omega
    · obtain rfl : j = 34 := by omega
      go_wp2_with fail
      refine bodyPost_ret (results_find rfl (((b0.set_ 0 _).set_ 1 _).set_ 2 _)) rfl ?_
      refine ⟨?_, ((k1.setCell (p := ⟨w.heap.size, 0, none⟩) (Nat.le_refl _) _).setCell (p := ⟨w.heap.size, 1, none⟩) (Nat.le_refl _) _).setCell (p := ⟨w.heap.size, 2, none⟩) (Nat.le_refl _) _⟩
      have hf := HF.out
      rw [List.take_of_length_le (Nat.le_of_eq refTable_length)] at hf
      unfold findR
      rw [hf]
      rfl

end Go.Proofs.YtfnfjfcncijapaaGreatDoor
