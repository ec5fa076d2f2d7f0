/- script.Print. -/
import Derived.Test.YtfnfjfcncijapaaGreatDoorPrint
import Derived.Test.YtfnfjfcncijapaaGreatDoorAgree
namespace Go.Proofs.YtfnfjfcncijapaaGreatDoor
open Go.RowKit Go.Shelf
attribute [local go_sem] Oper.semAt_some

theorem IsBuilder_kept {B b : Nat} {bs : List Value} {w w' : World} (h : Lib.IsBuilder 85 5 B b bs w) (k : Kept NoF w w') : Lib.IsBuilder 85 5 B b bs w' := by
  have key : ∀ p, Lib.BuilderAt 85 5 B b p bs w → Lib.BuilderAt 85 5 B b p bs w' := by
    rintro p ⟨h1, v, h2, h3, h4⟩
    exact ⟨h1, v, (k.block b (Array.getElem?_eq_some_iff.1 h2).1 (fun h => h)).trans h2, k.own h3 (fun _ _ h => h), h4⟩
  exact h.imp (key _) (key _)

def stepOk (s : StepD) : Bool := kindS s.cmd s.args != 0
def printL (l : List StepD) : List UInt8 := l.flatMap (fun s => printS s.cmd s.args ++ [10])
/-- The script of steps, or the error. -/
def printAllS (l : List StepD) : List UInt8 × Int := if l.all stepOk = true then (printL l, 0) else ([], 1)
theorem table_small : ∀ p ∈ cmdTable, p.1.length ≤ 10 ∧ (namesOf p.2).length ≤ 8 := by decide +kernel
theorem kind_small {cmd : List UInt8} {args : List (List UInt8)} (h : kindS cmd args ≠ 0) : cmd.length ≤ 10 ∧ args.length ≤ 8 := by
  unfold kindS at h
  cases hf : cmdTable.find? (fun p => p.1 == cmd) with
  | none => rw [hf] at h; exact absurd rfl h
  | some p =>
    rw [hf] at h
    dsimp only at h
    have h1 : p.1 = cmd := by simpa using List.find?_some hf
    obtain ⟨h2, h3⟩ := table_small p (List.mem_of_find?_eq_some hf)
    split at h
    · next hq => rw [← h1]; exact ⟨h2, by omega⟩
    · exact absurd rfl h
theorem printS_length {cmd : List UInt8} {args : List (List UInt8)} (hs : ∀ a ∈ args, a.length ≤ 65536) : (printS cmd args).length ≤ cmd.length + args.length * 196610 := by
  unfold printS
  rw [Lib.join_cons, List.length_append, Lib.joinTail_length]
  have h1 := lens_le (args.map wordS) 196609 (fun x hx => by
    obtain ⟨a, ha, rfl⟩ := List.mem_map.1 hx
    have := wordS_length a
    have := hs a ha
    omega)
  rw [List.length_map] at h1 ⊢
  simp only [List.length_cons, List.length_nil]
  omega
theorem printL_snoc {l : List StepD} {j : Nat} (h : j < l.length) : printL (l.take (j + 1)) = printL (l.take j) ++ (printS l[j].cmd l[j].args ++ [10]) := by
  unfold printL
  rw [List.take_succ_eq_append_getElem h, List.flatMap_append]
  simp
theorem allOk_snoc {l : List StepD} {j : Nat} (h : j < l.length) (h0 : (l.take j).all stepOk = true) (h1 : stepOk l[j] = true) : (l.take (j + 1)).all stepOk = true := by
  rw [List.take_succ_eq_append_getElem h, List.all_append, h0]; simp [h1]
theorem allOk_bad {l : List StepD} {j : Nat} (h : j < l.length) (h1 : stepOk l[j] = false) : l.all stepOk = false := by
  rw [List.all_eq_false]; exact ⟨_, List.getElem_mem h, by simp [h1]⟩
theorem printL_length : ∀ {l : List StepD}, l.all stepOk = true → (∀ s ∈ l, ∀ a ∈ s.args, a.length ≤ 65536) → (printL l).length ≤ 1600000 * l.length
  | [], _, _ => by simp [printL]
  | s :: l, h, ha => by
    simp only [List.all_cons, Bool.and_eq_true] at h
    have ih := printL_length h.2 (fun t ht => ha t (by simp [ht]))
    have h1 := printS_length (cmd := s.cmd) (ha s (by simp))
    have h2 := kind_small (cmd := s.cmd) (args := s.args) (by simpa [stepOk] using h.1)
    unfold printL at ih ⊢
    rw [List.flatMap_cons, List.length_append, List.length_append]
    simp only [List.length_cons, List.length_nil]
    omega
def PrintsRel (w : World) (l : List StepD) (i : Value) (wr : World) : Prop :=
  ∃ j : Nat, j ≤ l.length ∧ i = .int .i64 (j : Int) ∧ (l.take j).all stepOk = true ∧ Lib.IsBuilder 85 5 w.heap.size w.heap.size (Lib.byteCells (printL (l.take j))) wr ∧ Below w.heap.size w wr

set_option maxHeartbeats 4000000 in
set_option maxRecDepth 100000 in
theorem printAll_any {A : Option Addr} {l : List StepD} (ca : Nat) (w : World) (hE : Env w) (ha : StepsAt w A l) (hl : l.length ≤ 10000) (hs : ∀ s ∈ l, ∀ a ∈ s.args, a.length ≤ 65536) :
    Calls Tryz.prog 15 #[.slice A l.length ca] w fun e w' => e = .returned (.tuple #[.string (ba (printAllS l).1), .int .i64 (printAllS l).2]) ∧ Below w.heap.size w w' := by
  go_enter Tryz.func15, Tryz.ntmps15
  go_wp2_with fail
  have hb0 := Lib.fresh_isBuilder 85 5 w
  have k0 := (Below.refl w.heap.size w).alloc (Nat.le_refl _) (.cells #[.pointer none, .slice none 0 0] 85)
  go_loopw [9] (PrintsRel w l) (fun i _ => l.length - (intOf i).toNat)
  case atStart => exact ⟨0, Nat.zero_le _, rfl, rfl, hb0, k0⟩
  case round =>
    clear hb0 k0
    obtain ⟨j, hj, rfl, hall, hbd, hb⟩ := hrel
    have hwz := hb.size
    have HALL := Lib.hid hall
    clear hall
    by_cases hlt : j < l.length
    · obtain ⟨xb, xo, X, cx, rfl, hxb, c0, c1, hX⟩ := (ha.same (Kept.of_below hb)).at_ hlt
      have i1 : (j : Int) < (l.length : Int) := by omega
      have hsj := hs _ (List.getElem_mem hlt)
      have b0 : Below wr.heap.size wr (wr.alloc (.cells #[.string (ba l[j].cmd), .slice X l[j].args.length cx] 45)) := (Below.refl _ _).alloc (Nat.le_refl _) _
      have CV := Lib.hid (valid_any (ba l[j].cmd) X cx l[j].args (wr.alloc (.cells #[.string (ba l[j].cmd), .slice X l[j].args.length cx] 45)) ((hE.later hb).later b0) ((Kept.of_below (F := NoF) b0).src hX (fun _ _ _ h => h)) hsj)
      have HS := Lib.hid hs
      clear hs hsj
      go_wp2_with fail
      refine CV.out.mono ?_
      clear CV
      rintro e w1 ⟨rfl, b1⟩
      rw [ba_toList]
      have bs1 : Blk w1 wr.heap.size 45 #[.string (ba l[j].cmd), .slice X l[j].args.length cx] := (Blk.new wr 45 _).below b1 (by simp)
      have bw1 := hb.trans ((b0.trans (b1.mono (by simp))).mono hwz)
      have kw1 : Kept NoF wr w1 := Kept.of_below (b0.trans (b1.mono (by simp)))
      have hbd1 := IsBuilder_kept hbd kw1
      have hX1 := kw1.src hX (fun _ _ _ h => h)
      have e0 : w1.cell? ⟨wr.heap.size, 0, none⟩ = some (.string (ba l[j].cmd)) := (bs1.cell 0).trans rfl
      have e1 : w1.cell? ⟨wr.heap.size, 1, none⟩ = some (.slice X l[j].args.length cx) := (bs1.cell 1).trans rfl
      clear b1 b0 hbd c0 c1 kw1 hX bs1
      cases hok : (kindS l[j].cmd l[j].args != 0)
      · have HB := Lib.hid (allOk_bad hlt hok)
        go_wp2_with fail
        go_ret2
        refine ⟨?_, bw1⟩
        unfold printAllS
        rw [if_neg (by rw [HB.out]; simp)]
        rfl
      · have hok' : kindS l[j].cmd l[j].args ≠ 0 := by simpa using hok
        obtain ⟨s1, s2⟩ := kind_small hok'
        have HAL := Lib.hid (allOk_snoc hlt HALL.out hok)
        have HSN := Lib.hid (printL_snoc hlt)
        have hln := printL_length HALL.out (fun s hs' => HS.out s (List.mem_of_mem_take hs'))
        have hlp := printS_length (cmd := l[j].cmd) (HS.out _ (List.getElem_mem hlt))
        rw [List.length_take] at hln
        have CP := Lib.hid (print_any (ba l[j].cmd) X cx l[j].args w1 hX1 (by omega) (by rw [ba_size]; omega) (HS.out _ (List.getElem_mem hlt)))
        clear hok' hok
        generalize printL (l.take j) = out at hbd1 HSN hln
        go_wp2_with fail
        refine CP.out.mono ?_
        clear CP
        rintro e w2 ⟨rfl, b2⟩
        rw [ba_toList]
        generalize printS l[j].cmd l[j].args = ln at HSN hlp ⊢
        have hbd2 := IsBuilder_kept hbd1 (Kept.of_below b2)
        have bw2 := bw1.trans (b2.mono bw1.size)
        clear hbd1 b2 e0 e1
        go_wp2_with fail
        refine (writeString_any w.heap.size w.heap.size (Lib.byteCells out) (ba ln) w2 hbd2 (by rw [byteCells_length, ba_size]; omega) bw2.size).mono ?_
        rintro e w3 ⟨rfl, hb3, b3⟩
        have bw3 := bw2.trans b3
        rw [Lib.strCells_eq, ba_toList, ← Lib.byteCells_append] at hb3
        clear hbd2 b3
        go_wp2_with fail
        refine (writeByte_any w.heap.size w.heap.size (Lib.byteCells (out ++ ln)) 10 w3 hb3 (by rw [byteCells_length, List.length_append]; omega) bw3.size).mono ?_
        rintro e w4 ⟨rfl, hb4, b4⟩
        have bw4 := bw3.trans b4
        rw [show Lib.byteCells (out ++ ln) ++ [.int .u8 10] = Lib.byteCells (out ++ (ln ++ [10])) by rw [← List.append_assoc]; exact byteCells_snoc _ 10] at hb4
        clear hb3 b4
        go_wp2_with fail
        go_roundw
        case rel => exact ⟨j + 1, hlt, by go_num, HAL.out, by rw [HSN.out]; exact hb4, bw4⟩
        case measure => simp [intOf]; omega
    · obtain rfl : j = l.length := by omega
      have hall := HALL.out
      rw [List.take_length] at hall hbd
      have HA := Lib.hid hall
      clear hall HALL
      go_wp2_with fail
      refine (Tryz.Builder_String_any w.heap.size w.heap.size _ wr hbd hwz).mono ?_
      rintro e w1 ⟨rfl, bw1⟩
      go_wp2_with fail
      go_ret2
      refine ⟨?_, hb.trans bw1⟩
      unfold printAllS
      rw [if_pos HA.out]
      rfl

end Go.Proofs.YtfnfjfcncijapaaGreatDoor
