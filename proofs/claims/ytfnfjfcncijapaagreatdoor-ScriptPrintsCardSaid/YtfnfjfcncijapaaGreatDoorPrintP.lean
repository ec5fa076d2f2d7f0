/- The plain law of printed steps. -/
import Derived.Test.YtfnfjfcncijapaaGreatDoorSpaceP
import Derived.Test.YtfnfjfcncijapaaGreatDoorPrint
namespace Go.Proofs.YtfnfjfcncijapaaGreatDoor

theorem hexc_ok : ∀ n, n < 16 → hexv (hexc n) = (n : Int) ∧ badB (hexc n) = false := by decide
theorem encB_ne (all : Bool) (c : UInt8) : encB all c ≠ [] := by unfold encB; split <;> simp
theorem stands_enc (all : Bool) : ∀ (l : List UInt8), stands (l.flatMap (encB all)) = some l
  | [] => rfl
  | c :: l => by
    have ih := stands_enc all l
    rw [List.flatMap_cons]
    by_cases h : (badB c || c == 37 || all) = true
    · have hc := c.toNat_lt
      have h1 := (hexc_ok (c.toNat / 16) (by omega)).1
      have h2 := (hexc_ok (c.toNat % 16) (by omega)).1
      rw [show encB all c = [37, hexc (c.toNat / 16), hexc (c.toNat % 16)] from if_pos h, List.cons_append, List.cons_append, List.cons_append, List.nil_append]
      conv => lhs; unfold stands
      rw [if_neg (by decide), if_neg (by decide)]
      dsimp only
      rw [h1, h2, if_neg (by omega), ih, Option.map_some]
      congr 2
      apply UInt8.toNat_inj.1
      rw [UInt8.toNat_ofNat']
      omega
    · rw [show encB all c = [c] from if_neg h, List.cons_append, List.nil_append]
      simp only [Bool.or_eq_true, not_or, Bool.not_eq_true, beq_eq_false_iff_ne] at h
      conv => lhs; unfold stands
      rw [if_neg (by simp [h.1.1]), if_pos h.1.2, ih]
      rfl
theorem enc_ne {l : List UInt8} (all : Bool) (h : l ≠ []) : l.flatMap (encB all) ≠ [] := by
  cases l with
  | nil => exact absurd rfl h
  | cons c l =>
    rw [List.flatMap_cons]
    intro e
    exact encB_ne all c (List.append_eq_nil_iff.1 e).1
theorem wordS_ne (l : List UInt8) : wordS l ≠ [] := by
  unfold wordS
  split
  · simp
  · next h => exact enc_ne _ h
theorem text_word (l : List UInt8) : textS (wordS l) = (l, true) := by
  unfold wordS
  split
  · next h => subst h; rfl
  · next h =>
    unfold textS
    rw [stands_enc]
    split
    · next he =>
      have hs := stands_enc (l == [45]) l
      rw [he] at hs
      have hl : l = [45] := by
        have e : stands [45] = some [45] := by decide
        rw [e] at hs
        injection hs with hs
        exact hs.symm
      subst hl
      exact absurd he (by decide)
    · rfl
theorem stands_word (l : List UInt8) : standsR (wordS l) = (l, true) := by
  unfold standsR
  rw [text_word]
  have := wordS_ne l
  cases hw : wordS l with
  | nil => exact absurd hw this
  | cons a r => rfl
theorem argsR_words : ∀ (args : List (List UInt8)), argsR (args.map wordS) = some args
  | [] => rfl
  | a :: r => by
    rw [List.map_cons]
    unfold argsR
    rw [stands_word, if_pos rfl, argsR_words r]
    rfl
theorem encB_plain (all : Bool) (c : UInt8) : ∀ x ∈ encB all c, badB x = false := by
  intro x hx
  unfold encB at hx
  have hc := c.toNat_lt
  split at hx
  · simp only [List.mem_cons, List.not_mem_nil, or_false] at hx
    rcases hx with rfl | rfl | rfl
    · decide
    · exact (hexc_ok _ (by omega)).2
    · exact (hexc_ok _ (by omega)).2
  · next h =>
    simp only [List.mem_cons, List.not_mem_nil, or_false] at hx
    subst hx
    simp only [Bool.or_eq_true, not_or, Bool.not_eq_true] at h
    exact h.1.1
theorem wordS_plain (l : List UInt8) : ∀ x ∈ wordS l, badB x = false := by
  intro x hx
  unfold wordS at hx
  split at hx
  · simp only [List.mem_cons, List.not_mem_nil, or_false] at hx
    subst hx; decide
  · obtain ⟨c, _, hc⟩ := List.mem_flatMap.1 hx
    exact encB_plain _ c x hc
theorem plain_ne {x : UInt8} (h : badB x = false) : x ≠ 32 ∧ x ≠ 10 := by
  constructor <;> (rintro rfl; exact absurd h (by decide))

/-- The line of a step, as the reference prints it. -/
def lineP (s : StepD) : List UInt8 := s.cmd ++ s.args.flatMap (fun a => 32 :: wordS a)
theorem parts_words : ∀ (args : List (List UInt8)) (c : List UInt8), (∀ x ∈ c, x ≠ 32) → parts 32 (c ++ args.flatMap (fun a => 32 :: wordS a)) = c :: args.map wordS
  | [], c, h => by
    have : ∀ {l : List UInt8}, (∀ x ∈ l, x ≠ 32) → parts 32 l = [l] := by
      intro l
      induction l with
      | nil => intro _; rfl
      | cons x xs ih => intro hl; exact parts_cons_ne (hl x (by simp)) (ih (fun y hy => hl y (by simp [hy])))
    simpa using this h
  | a :: args, c, h => by
    rw [List.flatMap_cons, List.cons_append, parts_none' h, parts_words args (wordS a) (fun x hx => (plain_ne (wordS_plain a x hx)).1)]
    rfl
/-- A command as the tables have it. -/
def cmdOk (c : List UInt8) : Bool := !c.isEmpty && c.all (fun x => !badB x) && c.head? != some 35
theorem words_line {s : StepD} (h : cmdOk s.cmd = true) : wordsOf (lineP s) = s.cmd :: s.args.map wordS := by
  unfold cmdOk at h
  simp only [Bool.and_eq_true, List.all_eq_true, Bool.not_eq_true'] at h
  unfold wordsOf lineP
  rw [parts_words s.args s.cmd (fun x hx => (plain_ne (h.1.2 x hx)).1), List.filter_eq_self]
  intro p hp
  rcases List.mem_cons.1 hp with rfl | hp
  · simp [h.1.1]
  · obtain ⟨a, _, rfl⟩ := List.mem_map.1 hp
    have := wordS_ne a
    simpa using this
theorem line_plain {s : StepD} (h : cmdOk s.cmd = true) : ∀ x ∈ lineP s, x ≠ 10 := by
  unfold cmdOk at h
  simp only [Bool.and_eq_true, List.all_eq_true, Bool.not_eq_true'] at h
  intro x hx
  rcases List.mem_append.1 hx with hx | hx
  · exact (plain_ne (h.1.2 x hx)).2
  · obtain ⟨a, _, ha⟩ := List.mem_flatMap.1 hx
    rcases List.mem_cons.1 ha with rfl | ha
    · decide
    · exact (plain_ne (wordS_plain a x ha)).2
/-- The lines of steps. -/
def printP (l : List StepD) : List UInt8 := l.flatMap (fun s => lineP s ++ [10])
theorem printP_snoc (l : List StepD) (s : StepD) : printP (l ++ [s]) = printP l ++ (lineP s ++ [10]) := by simp [printP]
theorem parts_lines : ∀ (l : List StepD), (∀ s ∈ l, cmdOk s.cmd = true) → parts 10 (printP l) = l.map lineP ++ [[]]
  | [], _ => rfl
  | s :: l, h => by
    have ih := parts_lines l (fun t ht => h t (by simp [ht]))
    unfold printP at ih ⊢
    rw [List.flatMap_cons, List.append_assoc, List.singleton_append, parts_none' (line_plain (h s (by simp))), ih]
    rfl
/-- The first error of the order of steps. -/
def firstE : List StepD → List StepD → Int
  | _, [] => 0
  | out, s :: l => if orderR out s.cmd ≠ 0 then orderR out s.cmd else firstE (out ++ [s]) l
theorem run_lines : ∀ (l out : List StepD), (∀ s ∈ l, cmdOk s.cmd = true ∧ validR s.cmd s.args = true) → runL out (l.map lineP ++ [[]]) = if firstE out l = 0 then (out ++ l, 0) else ([], firstE out l)
  | [], out, _ => by
    show runL out [[]] = _
    rw [runL_skip (by decide)]
    unfold firstE runL
    rw [if_pos rfl, List.append_nil]
  | s :: l, out, h => by
    obtain ⟨h1, h2⟩ := h s (by simp)
    have hl : lineR out (lineP s) = if orderR out s.cmd ≠ 0 then (out, orderR out s.cmd) else (out ++ [s], 0) := by
      unfold lineR
      rw [words_line h1]
      dsimp only
      have hh : s.cmd.head? ≠ some 35 := by
        unfold cmdOk at h1
        simp only [Bool.and_eq_true, bne_iff_ne] at h1
        exact h1.2
      rw [if_neg hh, argsR_words]
      dsimp only
      rw [if_neg (by simp [h2])]
    rw [List.map_cons, List.cons_append]
    unfold runL firstE
    rw [hl]
    by_cases ho : orderR out s.cmd = 0
    · simp only [ho, ne_eq, not_true_eq_false, if_false, if_true]
      rw [run_lines l (out ++ [s]) (fun t ht => h t (by simp [ht]))]
      simp
    · rw [if_pos ho, if_pos ho]
      dsimp only
      rw [if_neg ho, if_neg ho]
/-- What is printed is read as the steps again, if the declarations are in order. -/
theorem print_parse (l : List StepD) (h : ∀ s ∈ l, cmdOk s.cmd = true ∧ validR s.cmd s.args = true) (hl : (printP l).length ≤ 65536) :
    (parseR (printP l)).2.2 = firstE [] l ∧ (firstE [] l = 0 → (parseR (printP l)).1 = l) := by
  unfold parseR
  rw [if_neg (by omega)]
  obtain ⟨a1, a2⟩ := parseLR_run (parts 10 (printP l)) [] 0
  rw [a1, a2, parts_lines l (fun s hs => (h s hs).1), run_lines l [] h]
  split
  · next he => exact ⟨he.symm, fun _ => by simp⟩
  · next he => exact ⟨rfl, fun h0 => absurd h0 he⟩
theorem firstE_snoc : ∀ (l out : List StepD) (s : StepD), firstE out (l ++ [s]) = if firstE out l = 0 then orderR (out ++ l) s.cmd else firstE out l
  | [], out, s => by
    rw [List.nil_append, List.append_nil]
    have e : ∀ o, firstE o [] = 0 := fun o => by unfold firstE; rfl
    rw [e, if_pos rfl]
    unfold firstE
    rw [e]
    split
    · rfl
    · next h => exact (Decidable.not_not.1 h).symm
  | t :: l, out, s => by
    rw [List.cons_append]
    unfold firstE
    by_cases ho : orderR out t.cmd = 0
    · simp only [ho, ne_eq, not_true_eq_false, if_false]
      rw [firstE_snoc l (out ++ [t]) s]
      simp
    · rw [if_pos ho, if_pos ho, if_neg ho]

set_option maxRecDepth 100000 in
theorem table_cmdOk : ∀ f ∈ refTable, cmdOk f.1 = true := by decide +kernel
theorem valid_cmdOk {s : StepD} (h : validR s.cmd s.args = true) : cmdOk s.cmd = true := by
  unfold validR at h
  simp only [Bool.and_eq_true] at h
  unfold findR at h
  cases hf : refTable.find? (fun f => f.1 == s.cmd) with
  | none => rw [hf] at h; exact absurd h.1.1 (by simp)
  | some f =>
    have h1 : f.1 = s.cmd := by simpa using List.find?_some hf
    have h2 := table_cmdOk f (List.mem_of_find?_eq_some hf)
    rwa [h1] at h2
theorem printS_lineP (s : StepD) : printS s.cmd s.args = lineP s := by
  unfold printS lineP
  rw [Lib.join_cons]
  congr 1
  unfold Lib.joinTail
  rw [List.map_map, ← List.flatMap_def]
  rfl

end Go.Proofs.YtfnfjfcncijapaaGreatDoor
