/- The plain law of blanks and comments. -/
import Derived.Test.YtfnfjfcncijapaaGreatDoorAgree
namespace Go.Proofs.YtfnfjfcncijapaaGreatDoor

/-- The words of a line that is passed over. -/
def skipW : List (List UInt8) → Bool
  | [] => true
  | c :: _ => c.head? == some 35
/-- The steps of the words of lines, or the error. -/
def runL : List StepD → List (List UInt8) → List StepD × Int
  | out, [] => (out, 0)
  | out, l :: ls => if (lineR out l).2 = 0 then runL (lineR out l).1 ls else ([], (lineR out l).2)
theorem parseLR_run : ∀ (ls : List (List UInt8)) (out : List StepD) (n : Nat), (parseLR out ls n).1 = (runL out ls).1 ∧ (parseLR out ls n).2.2 = (runL out ls).2
  | [], out, n => ⟨rfl, rfl⟩
  | l :: ls, out, n => by
    unfold parseLR runL
    split
    · exact parseLR_run ls _ _
    · exact ⟨rfl, rfl⟩
/-- The words of the lines that count. -/
def keepW (ls : List (List UInt8)) : List (List (List UInt8)) := (ls.map wordsOf).filter (fun ws => !skipW ws)
theorem keepW_cons (l : List UInt8) (ls : List (List UInt8)) : keepW (l :: ls) = if skipW (wordsOf l) = true then keepW ls else wordsOf l :: keepW ls := by
  unfold keepW
  rw [List.map_cons, List.filter_cons]
  cases skipW (wordsOf l) <;> rfl
theorem lineR_words {l l' : List UInt8} (h : wordsOf l = wordsOf l') (out : List StepD) : lineR out l = lineR out l' := by unfold lineR; rw [h]
theorem lineR_skip {l : List UInt8} (h : skipW (wordsOf l) = true) (out : List StepD) : lineR out l = (out, 0) := by
  unfold lineR
  cases hw : wordsOf l with
  | nil => rfl
  | cons c r =>
    rw [hw] at h
    exact if_pos (by simpa [skipW] using h)
theorem runL_skip {l : List UInt8} (h : skipW (wordsOf l) = true) (out : List StepD) (ls : List (List UInt8)) : runL out (l :: ls) = runL out ls := by
  conv => lhs; unfold runL
  rw [lineR_skip h]
  exact if_pos rfl
theorem runL_keep : ∀ (n : Nat) (ls ls' : List (List UInt8)) (out : List StepD), ls.length + ls'.length ≤ n → keepW ls = keepW ls' → runL out ls = runL out ls' := by
  intro n
  induction n with
  | zero =>
    intro ls ls' out hn _
    rw [List.length_eq_zero_iff.1 (show ls.length = 0 by omega), List.length_eq_zero_iff.1 (show ls'.length = 0 by omega)]
  | succ n ih =>
    intro ls ls' out hn h
    cases ls with
    | nil =>
      cases ls' with
      | nil => rfl
      | cons m ms =>
        rw [keepW_cons] at h
        by_cases hs : skipW (wordsOf m) = true
        · rw [if_pos hs] at h
          rw [runL_skip hs]
          exact ih [] ms out (by simp at hn ⊢; omega) h
        · rw [if_neg hs] at h
          cases h
    | cons l ls =>
      by_cases hl : skipW (wordsOf l) = true
      · rw [keepW_cons, if_pos hl] at h
        rw [runL_skip hl]
        exact ih ls ls' out (by simp at hn ⊢; omega) h
      · cases ls' with
        | nil =>
          rw [keepW_cons, if_neg hl] at h
          cases h
        | cons m ms =>
          by_cases hs : skipW (wordsOf m) = true
          · rw [keepW_cons m, if_pos hs] at h
            rw [runL_skip hs]
            exact ih (l :: ls) ms out (by simp at hn ⊢; omega) h
          · rw [keepW_cons, if_neg hl, keepW_cons, if_neg hs] at h
            injection h with h1 h2
            unfold runL
            rw [lineR_words h1]
            split
            · exact ih ls ms _ (by simp at hn ⊢; omega) h2
            · rfl

theorem parts_cons_ne {c x : UInt8} {xs p : List UInt8} {ps : List (List UInt8)} (hx : x ≠ c) (h : parts c xs = p :: ps) : parts c (x :: xs) = (x :: p) :: ps := by
  conv => lhs; unfold parts
  rw [if_neg hx, h]
theorem parts_cons_eq (c : UInt8) (xs : List UInt8) : parts c (c :: xs) = [] :: parts c xs := by
  conv => lhs; unfold parts
  rw [if_pos rfl]
theorem words_blank (l : List UInt8) : wordsOf (32 :: l) = wordsOf l := by
  unfold wordsOf
  rw [parts_cons_eq]
  rfl

/-- Two lines with the same words, whatever stands before them. -/
def LikeL (l l' : List UInt8) : Prop := ∃ p ps ps', parts 32 l = p :: ps ∧ parts 32 l' = p :: ps' ∧ ps.filter (fun q => !q.isEmpty) = ps'.filter (fun q => !q.isEmpty)
theorem LikeL.words {l l' : List UInt8} (h : LikeL l l') : wordsOf l = wordsOf l' := by
  obtain ⟨p, ps, ps', h1, h2, h3⟩ := h
  unfold wordsOf
  rw [h1, h2, List.filter_cons, List.filter_cons, h3]
theorem LikeL.cons {l l' : List UInt8} {x : UInt8} (h : LikeL l l') (hx : x ≠ 32) : LikeL (x :: l) (x :: l') := by
  obtain ⟨p, ps, ps', h1, h2, h3⟩ := h
  exact ⟨x :: p, ps, ps', parts_cons_ne hx h1, parts_cons_ne hx h2, h3⟩
theorem LikeL.blank {l l' : List UInt8} (h : LikeL l l') : LikeL (32 :: l) (32 :: 32 :: 32 :: l') :=
  ⟨[], parts 32 l, [] :: [] :: parts 32 l', parts_cons_eq _ _, by rw [parts_cons_eq, parts_cons_eq, parts_cons_eq], h.words⟩
theorem LikeL.refl (l : List UInt8) : LikeL l l := by
  cases h : parts 32 l with
  | nil => exact absurd h (parts_ne _ _)
  | cons p ps => exact ⟨p, ps, ps, h, h, rfl⟩

/-- Two texts whose lines have the same words. -/
def LikeT (s s' : List UInt8) : Prop := ∃ l ls l' ls', parts 10 s = l :: ls ∧ parts 10 s' = l' :: ls' ∧ LikeL l l' ∧ keepW ls = keepW ls'
theorem LikeT.keep {s s' : List UInt8} (h : LikeT s s') : keepW (parts 10 s) = keepW (parts 10 s') := by
  obtain ⟨l, ls, l', ls', h1, h2, h3, h4⟩ := h
  rw [h1, h2, keepW_cons, keepW_cons, h3.words, h4]
theorem keep_blank (s : List UInt8) : keepW (parts 10 (32 :: s)) = keepW (parts 10 s) := by
  cases h : parts 10 s with
  | nil => exact absurd h (parts_ne _ _)
  | cons p ps => rw [parts_cons_ne (by decide) h, keepW_cons, keepW_cons, words_blank]

/-- What becomes of a byte of a script that is widened. -/
def piece (at_ : Nat) (clean : List UInt8) (i : Nat) (x : UInt8) : List UInt8 :=
  (x :: if x = 32 ∨ x = 10 then [32, 32] else []) ++ if x = 10 ∧ (at_ + i) % 3 = 0 then [10, 32, 32, 35] ++ clean ++ [10] else []
def wideF (at_ : Nat) (clean : List UInt8) : Nat → List UInt8 → List UInt8
  | _, [] => []
  | i, x :: xs => piece at_ clean i x ++ wideF at_ clean (i + 1) xs
theorem wideF_snoc (at_ : Nat) (clean : List UInt8) : ∀ (i : Nat) (l : List UInt8) (x : UInt8), wideF at_ clean i (l ++ [x]) = wideF at_ clean i l ++ piece at_ clean (i + l.length) x
  | i, [], x => by simp [wideF]
  | i, y :: l, x => by
    rw [List.cons_append]
    unfold wideF
    rw [wideF_snoc at_ clean (i + 1) l x, List.append_assoc]
    congr 3
    simp; omega

theorem parts_none' {c : UInt8} : ∀ {l : List UInt8}, (∀ x ∈ l, x ≠ c) → ∀ r, parts c (l ++ c :: r) = l :: parts c r
  | [], _, r => parts_cons_eq c r
  | x :: xs, h, r => parts_cons_ne (h x (by simp)) (parts_none' (fun y hy => h y (by simp [hy])) r)
theorem comment_skip (clean : List UInt8) : skipW (wordsOf (32 :: 32 :: 35 :: clean)) = true := by
  rw [words_blank, words_blank]
  unfold wordsOf
  cases h : parts 32 clean with
  | nil => exact absurd h (parts_ne _ _)
  | cons p ps =>
    rw [parts_cons_ne (by decide) h]
    rfl

theorem like_wide (at_ : Nat) (clean : List UInt8) (hc : ∀ x ∈ clean, x ≠ 10) : ∀ (xs : List UInt8) (i : Nat), LikeT xs (wideF at_ clean i xs ++ [32])
  | [], i => ⟨[], [], [32], [], rfl, rfl, ⟨[], [], [[]], rfl, rfl, rfl⟩, rfl⟩
  | x :: xs, i => by
    obtain ⟨l, ls, l', ls', h1, h2, h3, h4⟩ := like_wide at_ clean hc xs (i + 1)
    unfold wideF piece
    by_cases hn : x = 10
    · subst hn
      rw [if_pos (.inr rfl)]
      have hk : keepW (l :: ls) = keepW (l' :: ls') := by rw [keepW_cons, keepW_cons, h3.words, h4]
      by_cases ha : (at_ + i) % 3 = 0
      · rw [if_pos ⟨rfl, ha⟩]
        refine ⟨[], l :: ls, [], [32, 32] :: (32 :: 32 :: 35 :: clean) :: l' :: ls', by rw [parts_cons_eq, h1], ?_, LikeL.refl _, ?_⟩
        · have e : (10 : UInt8) :: [32, 32] ++ ([10, 32, 32, 35] ++ clean ++ [10]) ++ wideF at_ clean (i + 1) xs ++ [32] = 10 :: ([32, 32] ++ 10 :: ((32 :: 32 :: 35 :: clean) ++ 10 :: (wideF at_ clean (i + 1) xs ++ [32]))) := by simp
          rw [e, parts_cons_eq, parts_none' (by decide), parts_none' (by
            intro y hy
            simp only [List.mem_cons] at hy
            rcases hy with rfl | rfl | rfl | hy
            · decide
            · decide
            · decide
            · exact hc y hy), h2]
        · rw [keepW_cons [32, 32], if_pos (show skipW (wordsOf [32, 32]) = true by decide), keepW_cons (32 :: 32 :: 35 :: clean), if_pos (comment_skip clean), hk]
      · rw [if_neg (fun h => ha h.2)]
        refine ⟨[], l :: ls, [], (32 :: 32 :: l') :: ls', by rw [parts_cons_eq, h1], ?_, LikeL.refl _, ?_⟩
        · have e : (10 : UInt8) :: [32, 32] ++ [] ++ wideF at_ clean (i + 1) xs ++ [32] = 10 :: 32 :: 32 :: (wideF at_ clean (i + 1) xs ++ [32]) := by simp
          rw [e, parts_cons_eq, parts_cons_ne (by decide) (parts_cons_ne (by decide) h2)]
        · rw [keepW_cons (32 :: 32 :: l'), words_blank, words_blank, hk, keepW_cons]
    · by_cases hb : x = 32
      · subst hb
        rw [if_pos (.inl rfl), if_neg (fun h => hn h.1)]
        refine ⟨32 :: l, ls, 32 :: 32 :: 32 :: l', ls', parts_cons_ne (by decide) h1, ?_, h3.blank, h4⟩
        have e : (32 : UInt8) :: [32, 32] ++ [] ++ wideF at_ clean (i + 1) xs ++ [32] = 32 :: 32 :: 32 :: (wideF at_ clean (i + 1) xs ++ [32]) := by simp
        rw [e, parts_cons_ne (by decide) (parts_cons_ne (by decide) (parts_cons_ne (by decide) h2))]
      · rw [if_neg (by rintro (h | h); exact hb h; exact hn h), if_neg (fun h => hn h.1)]
        refine ⟨x :: l, ls, x :: l', ls', parts_cons_ne hn h1, ?_, h3.cons hb, h4⟩
        have e : x :: [] ++ [] ++ wideF at_ clean (i + 1) xs ++ [32] = x :: (wideF at_ clean (i + 1) xs ++ [32]) := by simp
        rw [e, parts_cons_ne hn h2]

/-- Blanks and comments do not matter. -/
theorem spaces_alike (s clean : List UInt8) (at_ : Nat) (hc : ∀ x ∈ clean, x ≠ 10) (h1 : s.length ≤ 65536) (h2 : (wideF at_ clean 0 s).length ≤ 60000) :
    (parseR s).1 = (parseR (32 :: 32 :: (wideF at_ clean 0 s ++ [32]))).1 ∧ (parseR s).2.2 = (parseR (32 :: 32 :: (wideF at_ clean 0 s ++ [32]))).2.2 := by
  unfold parseR
  rw [if_neg (by omega), if_neg (by simp; omega)]
  have hk : keepW (parts 10 s) = keepW (parts 10 (32 :: 32 :: (wideF at_ clean 0 s ++ [32]))) := by
    rw [keep_blank, keep_blank]
    exact (like_wide at_ clean hc s 0).keep
  obtain ⟨a1, a2⟩ := parseLR_run (parts 10 s) [] 0
  obtain ⟨b1, b2⟩ := parseLR_run (parts 10 (32 :: 32 :: (wideF at_ clean 0 s ++ [32]))) [] 0
  have hr := runL_keep _ _ _ [] (Nat.le_refl _) hk
  rw [a1, a2, b1, b2, hr]
  exact ⟨rfl, rfl⟩

end Go.Proofs.YtfnfjfcncijapaaGreatDoor
