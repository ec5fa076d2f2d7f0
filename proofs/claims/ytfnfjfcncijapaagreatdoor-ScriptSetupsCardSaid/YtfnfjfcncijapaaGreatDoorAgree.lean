/- The plain law of scripts: the reference reads a script as the program does. -/
import Derived.Test.YtfnfjfcncijapaaGreatDoorRParse
namespace Go.Proofs.YtfnfjfcncijapaaGreatDoor

/-- The letter of a form's function. -/
def letterFn (f : Nat) : UInt8 := if f = 93 then 115 else if f = 94 then 108 else if f = 95 then 98 else if f = 96 then 119 else 110
def letterOf (name : List UInt8) : UInt8 := letterFn (formFn name)

set_option maxRecDepth 100000 in
theorem table_some : ∀ p ∈ cmdTable, refTable.find? (fun f => f.1 == p.1) = some (p.1, (namesOf p.2).map letterOf, p.2.1) := by decide +kernel
set_option maxRecDepth 100000 in
theorem table_none : ∀ f ∈ refTable, (cmdTable.find? (fun p => p.1 == f.1)).isSome = true := by decide +kernel
set_option maxRecDepth 100000 in
theorem table_kind : ∀ p ∈ cmdTable, p.2.1 ≠ 0 := by decide +kernel

theorem findR_some {cmd : List UInt8} {p : List UInt8 × (Int × List UInt8)} (h : cmdTable.find? (fun p => p.1 == cmd) = some p) : findR cmd = ((cmd, (namesOf p.2).map letterOf, p.2.1), true) ∧ p.2.1 ≠ 0 := by
  have hp : p.1 = cmd := by simpa using List.find?_some h
  have hm := List.mem_of_find?_eq_some h
  have := table_some p hm
  rw [hp] at this
  unfold findR
  rw [this]
  exact ⟨rfl, table_kind p hm⟩
theorem findR_none {cmd : List UInt8} (h : cmdTable.find? (fun p => p.1 == cmd) = none) : findR cmd = (([], [], 0), false) := by
  unfold findR
  cases hf : refTable.find? (fun f => f.1 == cmd) with
  | none => rfl
  | some f =>
    have hp : f.1 = cmd := by simpa using List.find?_some hf
    have := table_none f (List.mem_of_find?_eq_some hf)
    rw [hp, h] at this
    cases this

theorem dropWhile_nil {α : Type} {q : α → Bool} : ∀ {l : List α}, l.dropWhile q = [] ↔ l.all q = true
  | [] => by simp
  | x :: r => by
    rw [List.dropWhile_cons, List.all_cons]
    cases hx : q x with
    | true => simpa using dropWhile_nil (l := r)
    | false => simp
theorem flagsB_bits (l : List UInt8) : flagsB l = bitsR l := by
  have hq : ∀ b : UInt8, ([48, 49] : List UInt8).contains b = (b == 48 || b == 49) := fun b => by simp [List.contains, List.elem]; cases (b == 48) <;> cases (b == 49) <;> rfl
  have key : flagsB l = true ↔ bitsR l = true := by
    unfold flagsB bitsR Lib.trimS Lib.trimLeftS Lib.trimRightS
    rw [List.isEmpty_iff]
    constructor
    · intro h
      have h1 := dropWhile_nil.1 h
      rw [List.all_reverse] at h1
      by_cases hd : l.reverse.dropWhile (fun b => ([48, 49] : List UInt8).contains b) = []
      · have := dropWhile_nil.1 hd
        rw [List.all_reverse] at this
        rw [List.all_eq_true] at this ⊢
        intro x hx
        rw [← hq]
        exact this x hx
      · exfalso
        have := List.head_dropWhile_not (fun b => ([48, 49] : List UInt8).contains b) hd
        rw [List.all_eq_true] at h1
        have h2 := h1 _ (List.head_mem hd)
        rw [this] at h2
        cases h2
    · intro h
      have : l.reverse.dropWhile (fun b => ([48, 49] : List UInt8).contains b) = [] := dropWhile_nil.2 (by
        rw [List.all_reverse, List.all_eq_true]
        rw [List.all_eq_true] at h
        intro x hx
        rw [hq]
        exact h x hx)
      rw [this]
      rfl
  cases h1 : flagsB l <;> cases h2 : bitsR l
  · rfl
  · rw [key.2 h2] at h1; cases h1
  · rw [key.1 h1] at h2; cases h2
  · rfl
theorem fits_letter (name l : List UInt8) : fitsFn (formFn name) l = fitsR (letterOf name) l := by
  unfold letterOf letterFn
  rcases formFn_cases name with h | h | h | h | h
  · rw [h]; rfl
  · rw [h]; exact numsB_numsOf l
  · rw [h]; exact flagsB_bits l
  · rw [h]; rfl
  · rw [h]; exact isNum_numR l
theorem allFit_letters : ∀ (names args : List (List UInt8)), allFit names args = allFitR (names.map letterOf) args
  | [], args => by cases args <;> rfl
  | n :: ns, [] => rfl
  | n :: ns, a :: bs => by
    have ih := allFit_letters ns bs
    unfold allFit allFitR at ih ⊢
    simp only [List.zip_cons_cons, List.map_cons, List.all_cons]
    rw [ih, fits_letter]
theorem kind_valid (cmd : List UInt8) (args : List (List UInt8)) : validR cmd args = (kindS cmd args != 0) := by
  unfold validR kindS
  cases h : cmdTable.find? (fun p => p.1 == cmd) with
  | none => rw [findR_none h]; rfl
  | some p =>
    obtain ⟨h1, h2⟩ := findR_some h
    rw [h1]
    dsimp only
    rw [List.length_map, ← allFit_letters, Bool.true_and]
    by_cases hl : (namesOf p.2).length = args.length
    · rw [decide_eq_true hl.symm, Bool.true_and]
      by_cases hf : allFit (namesOf p.2) args = true
      · rw [if_pos ⟨hl, hf⟩, hf]; simp [h2]
      · rw [if_neg (fun h => hf h.2)]; simpa using hf
    · rw [decide_eq_false (fun e => hl e.symm), if_neg (fun h => hl h.1)]; rfl
/-- The kind of a valid step is its form's. -/
theorem kind_find {cmd : List UInt8} {args : List (List UInt8)} (h : kindS cmd args ≠ 0) : (findR cmd).1.2.2 = kindS cmd args ∧ (findR cmd).1.1 = cmd := by
  unfold kindS at h ⊢
  cases hc : cmdTable.find? (fun p => p.1 == cmd) with
  | none => rw [hc] at h; exact absurd rfl h
  | some p =>
    rw [hc] at h
    obtain ⟨h1, h2⟩ := findR_some hc
    rw [h1]
    dsimp only at h ⊢
    split
    · exact ⟨rfl, rfl⟩
    · rename_i hn; rw [if_neg hn] at h; exact absurd rfl h

/-- What the program keeps of the steps read. -/
structure Fit (P : PD) : Prop where
  begun : P.begun = !P.steps.all okDecl
  vaults : (P.vaults == 0) = !P.steps.any isV
theorem P0_fit : Fit P0 := ⟨rfl, rfl⟩
theorem Fit.add {P : PD} {c : List UInt8} {args : List (List UInt8)} (h : Fit P) (hk : kindS c args ≠ 0) : Fit (P.add c args) := by
  obtain ⟨h1, h2⟩ := kind_find hk
  have ho : okDecl ⟨c, args⟩ = (kindS c args == 1) := by unfold okDecl; rw [h1]
  have hv : isV ⟨c, args⟩ = isVault c := by unfold isV isVault; rw [h2]
  have hvk : isVault c = true → kindS c args = 1 := fun hc => by
    have : c = [118, 97, 117, 108, 116] := by unfold isVault at hc; simpa using hc
    rw [← h1, this]
    rfl
  refine ⟨?_, ?_⟩
  · rw [add_steps, List.all_append]
    unfold PD.add
    split
    · rename_i h3
      dsimp only
      rw [h.begun]
      simp [ho, h3]
    · rename_i h3
      dsimp only
      have : (kindS c args == 1) = false := by simpa using h3
      simp [ho, this]
  · rw [add_steps, List.any_append]
    unfold PD.add
    split
    · dsimp only
      split
      · rename_i h4; simp [hv, h4]
      · rename_i h4; rw [h.vaults]; simp [hv, h4]
    · rename_i h3
      dsimp only
      have h4 : isVault c = false := by
        cases h5 : isVault c
        · rfl
        · exact absurd (hvk h5) h3
      rw [h.vaults]
      simp [hv, h4]
theorem order_state {P : PD} {c : List UInt8} {args : List (List UInt8)} (h : Fit P) (hk : kindS c args ≠ 0) : orderR P.steps c = if kindS c args = 1 ∧ (P.begun || (needsV c && P.vaults == 0)) = true then 6 else 0 := by
  unfold orderR
  rw [(kind_find hk).1]
  by_cases h1 : kindS c args = 1
  · rw [if_neg (by simp [h1]), h.begun, h.vaults]
    cases ha : P.steps.all okDecl
    · simp [h1]
    · simp only [Bool.not_true, Bool.false_or, h1, true_and]
      rw [if_neg (by simp), Bool.and_comm]
  · rw [if_pos h1, if_neg (fun h => h1 h.1)]
theorem words_ne {l c : List UInt8} {r : List (List UInt8)} (h : wordsOf l = c :: r) : c ≠ [] ∧ ∀ w ∈ r, w ≠ [] := by
  have hall : ∀ w ∈ wordsOf l, w ≠ [] := fun w hw => by
    have := (List.mem_filter.1 hw).2
    simpa using this
  rw [h] at hall
  exact ⟨hall c (by simp), fun w hw => hall w (by simp [hw])⟩
theorem hash_head {c : List UInt8} (h : c ≠ []) : (Lib.hasPrefix c [35] = true) ↔ c.head? = some 35 := by
  cases c with
  | nil => exact absurd rfl h
  | cons a r => simp [Lib.hasPrefix]; exact ⟨fun e => e.symm, fun e => e.symm⟩
theorem line_agree {P : PD} (h : Fit P) (l : List UInt8) : lineR P.steps l = ((lineS P l).1.steps, (lineS P l).2) ∧ Fit (lineS P l).1 := by
  cases hw : wordsOf l with
  | nil => rw [lineR_nil hw, lineS_nil hw]; exact ⟨rfl, h⟩
  | cons c r =>
    obtain ⟨hc, hr⟩ := words_ne hw
    by_cases hh : c.head? = some 35
    · rw [lineR_hash hw hh, lineS_hash hw ((hash_head hc).2 hh)]; exact ⟨rfl, h⟩
    · have hp : Lib.hasPrefix c [35] = false := by
        cases hq : Lib.hasPrefix c [35]
        · rfl
        · exact absurd ((hash_head hc).1 hq) hh
      have hag := argsR_eq hr
      cases ha : argsOf r with
      | none => rw [ha] at hag; rw [lineR_bad hw hh hag, lineS_bad hw hp ha]; exact ⟨rfl, h⟩
      | some args =>
        rw [ha] at hag
        have hval := kind_valid c args
        by_cases hk : kindS c args = 0
        · rw [lineR_invalid hw hh hag (by rw [hval]; simp [hk]), lineS_zero hw hp ha hk]; exact ⟨rfl, h⟩
        · have hv : validR c args = true := by rw [hval]; simp [hk]
          have ho := order_state (P := P) h hk
          by_cases hq : kindS c args = 1 ∧ (P.begun || (needsV c && P.vaults == 0)) = true
          · rw [if_pos hq] at ho
            rw [lineR_order hw hh hag hv (by rw [ho]; decide), lineS_state hw hp ha hq.1 hq.2, ho]; exact ⟨rfl, h⟩
          · rw [if_neg hq] at ho
            rw [lineR_add hw hh hag hv ho, lineS_add hw hp ha hk hq]
            exact ⟨by rw [add_steps], h.add hk⟩
theorem parseL_agree : ∀ (ls : List (List UInt8)) (P : PD) (n : Nat), Fit P → parseLR P.steps ls n = parseL P ls n
  | [], P, n, _ => rfl
  | l :: ls, P, n, h => by
    obtain ⟨h1, h2⟩ := line_agree h l
    unfold parseLR parseL
    rw [h1]
    dsimp only
    split
    · exact parseL_agree ls _ _ h2
    · rfl
/-- The reference reads a script as the program does. -/
theorem parse_agree (s : List UInt8) : parseR s = parseS s := by
  unfold parseR parseS
  split
  · rfl
  · exact parseL_agree _ P0 0 P0_fit

end Go.Proofs.YtfnfjfcncijapaaGreatDoor
