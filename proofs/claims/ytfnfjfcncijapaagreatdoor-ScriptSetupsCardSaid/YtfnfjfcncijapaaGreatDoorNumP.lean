/- The plain law of numbers: what the reference takes for a number is what the program takes for one. -/
import Derived.Test.YtfnfjfcncijapaaGreatDoorEnv
namespace Go.Proofs.YtfnfjfcncijapaaGreatDoor
open Go.Lib

/-- What digits spell, behind acc. -/
def decV (acc : Nat) : List UInt8 → Option Nat
  | [] => some acc
  | c :: r => if 48 ≤ c.toNat ∧ c.toNat ≤ 57 then decV (acc * 10 + (c.toNat - 48)) r else none
/-- The digits of a numeral. -/
def digsOf : List UInt8 → Bool × List UInt8
  | [] => (false, [])
  | c :: r => if c = 45 then (true, r) else (false, c :: r)
/-- The number of a string, as the reference reads it. -/
def numR (l : List UInt8) : Int × Bool :=
  if (digsOf l).2 = [] ∨ 19 < (digsOf l).2.length ∨ ((digsOf l).2.head? = some 48 ∧ l ≠ [48]) then (0, false) else
  match decV 0 (digsOf l).2 with
  | none => (0, false)
  | some n => if ((digsOf l).1 = true ∧ 9223372036854775808 < n) ∨ ((digsOf l).1 = false ∧ 9223372036854775807 < n) then (0, false) else (if (digsOf l).1 = true then -(n : Int) else n, true)

theorem decV_le : ∀ {l : List UInt8} {acc u : Nat}, decV acc l = some u → acc ≤ u
  | [], acc, u, h => by simp only [decV, Option.some.injEq] at h; omega
  | c :: r, acc, u, h => by
    unfold decV at h
    split at h
    · have := decV_le h; omega
    · cases h
theorem decV_snoc : ∀ (l : List UInt8) (acc : Nat) (c : UInt8), 48 ≤ c.toNat ∧ c.toNat ≤ 57 → decV acc (l ++ [c]) = (decV acc l).map (fun u => u * 10 + (c.toNat - 48))
  | [], acc, c, h => by simp [decV, h]
  | d :: r, acc, c, h => by
    simp only [List.cons_append, decV]
    split
    · exact decV_snoc r _ c h
    · rfl
theorem decV_snoc_inv : ∀ {l : List UInt8} {acc u : Nat} {c : UInt8}, decV acc (l ++ [c]) = some u → (48 ≤ c.toNat ∧ c.toNat ≤ 57) ∧ ∃ u', decV acc l = some u' ∧ u = u' * 10 + (c.toNat - 48)
  | [], acc, u, c, h => by
    simp only [List.nil_append, decV] at h
    split at h
    · rename_i hc; exact ⟨hc, acc, rfl, by injection h with h; omega⟩
    · cases h
  | d :: r, acc, u, c, h => by
    simp only [List.cons_append, decV] at h ⊢
    split at h
    · rename_i hd; rw [if_pos hd]; exact decV_snoc_inv h
    · cases h
theorem decV_head {c : UInt8} {r : List UInt8} {u : Nat} (h : decV 0 (c :: r) = some u) : 48 ≤ c.toNat ∧ c.toNat ≤ 57 ∧ c.toNat - 48 ≤ u := by
  unfold decV at h
  split at h
  · rename_i hc; have := decV_le h; omega
  · cases h

theorem decV_decDigits (u : Nat) : decV 0 (decDigits u) = some u := by
  induction u using Nat.strongRecOn with
  | _ u ih =>
    rw [decDigits]
    split
    · rename_i h
      have : (UInt8.ofNat (48 + u)).toNat = 48 + u := by simp; omega
      simp only [decV, this]
      rw [if_pos (by omega)]
      simp
    · rename_i h
      have e : (UInt8.ofNat (48 + u % 10)).toNat = 48 + u % 10 := by simp; omega
      rw [decV_snoc _ _ _ (by rw [e]; omega), ih (u / 10) (by omega), e]
      simp only [Option.map_some, Option.some.injEq]
      omega
theorem head_decDigits (u : Nat) : ∃ c r, decDigits u = c :: r ∧ 48 ≤ c.toNat ∧ c.toNat ≤ 57 ∧ (1 ≤ u → c ≠ 48) := by
  induction u using Nat.strongRecOn with
  | _ u ih =>
    rw [decDigits]
    split
    · rename_i h
      have e : (UInt8.ofNat (48 + u)).toNat = 48 + u := by simp; omega
      refine ⟨_, _, rfl, by omega, by omega, fun hu he => ?_⟩
      have := congrArg UInt8.toNat he
      rw [e] at this
      have h48 : (48 : UInt8).toNat = 48 := rfl
      omega
    · obtain ⟨c, r, h1, h2, h3, h4⟩ := ih (u / 10) (by omega)
      rw [h1]
      exact ⟨c, r ++ _, rfl, h2, h3, fun _ => h4 (by omega)⟩
theorem decDigits_of : ∀ (n : Nat) (l : List UInt8), l.length = n → l ≠ [] → (l.head? = some 48 → l = [48]) → ∀ u, decV 0 l = some u → l = decDigits u := by
  intro n
  induction n using Nat.strongRecOn with
  | _ n ih =>
    intro l hl hne hh u hu
    obtain ⟨l', c, rfl⟩ : ∃ l' c, l = l' ++ [c] := ⟨l.dropLast, l.getLast hne, (List.dropLast_concat_getLast hne).symm⟩
    obtain ⟨hc, u', hu', rfl⟩ := decV_snoc_inv hu
    have ec : UInt8.ofNat (48 + (c.toNat - 48)) = c := by rw [show 48 + (c.toNat - 48) = c.toNat by omega, UInt8.ofNat_toNat]
    cases l' with
    | nil =>
      simp only [decV, Option.some.injEq] at hu'
      subst hu'
      rw [decDigits, dif_pos (by omega)]
      simp only [Nat.zero_mul, Nat.zero_add, List.nil_append]
      rw [ec]
    | cons d r =>
      have hd48 : d ≠ 48 := fun e => by have := hh (by simp [e]); simp at this
      have h1 := decV_head hu'
      have hpos : 1 ≤ u' := by
        have : d.toNat ≠ 48 := fun e => hd48 (UInt8.toNat_inj.1 e)
        omega
      have := ih (d :: r).length (by simp at hl ⊢; omega) (d :: r) rfl (by simp) (fun h => absurd (by simpa using h) hd48) u' hu'
      rw [this, decDigits.eq_def (u' * 10 + (c.toNat - 48)), dif_neg (by omega)]
      congr 1
      · congr 1; omega
      · rw [show (u' * 10 + (c.toNat - 48)) % 10 = c.toNat - 48 by omega, ec]
theorem nDigits_le : ∀ (k u : Nat), u < 10 ^ (k + 1) → nDigits u ≤ k + 1
  | 0, u, h => by rw [nDigits_small (by simpa using h)]; omega
  | k + 1, u, h => by
    by_cases hu : u < 10
    · rw [nDigits_small hu]; omega
    · rw [nDigits_big hu]
      have := nDigits_le k (u / 10) (by rw [Nat.pow_succ] at h; omega)
      omega
theorem parseM_ok : ∀ {l : List UInt8} {acc u : Nat}, acc ≤ 18446744073709551615 → parseUintM 18446744073709551615 acc l = .ok u → decV acc l = some u ∧ u ≤ 18446744073709551615
  | [], acc, u, ha, h => by simp only [parseUintM, NumEnd.ok.injEq] at h; subst h; exact ⟨rfl, ha⟩
  | c :: r, acc, u, ha, h => by
    unfold parseUintM at h
    unfold decV
    split at h
    · rename_i hc
      split at h
      · cases h
      · split at h
        · cases h
        · rw [if_pos hc]; exact parseM_ok (by omega) h
    · cases h
theorem parseM_of : ∀ {l : List UInt8} {acc u : Nat}, decV acc l = some u → u ≤ 18446744073709551615 → parseUintM 18446744073709551615 acc l = .ok u
  | [], acc, u, h, _ => by simp only [decV, Option.some.injEq] at h; subst h; rfl
  | c :: r, acc, u, h, hu => by
    unfold decV at h
    unfold parseUintM
    split at h
    · rename_i hc
      have := decV_le h
      rw [if_pos hc, if_neg (by omega), if_neg (by omega)]
      exact parseM_of h hu
    · cases h

theorem numR_ok {l : List UInt8} {v : Int} (h : numR l = (v, true)) : parseIntB 64 l = .ok v ∧ itoa v = l := by
  unfold numR at h
  split at h
  · simp at h
  · rename_i h0
    have hne : (digsOf l).2 ≠ [] := fun e => h0 (.inl e)
    have hh : (digsOf l).2.head? = some 48 → l = [48] := fun e => by
      apply Classical.byContradiction
      intro hl
      exact h0 (.inr (.inr ⟨e, hl⟩))
    split at h
    · simp at h
    · rename_i n hn
      split at h
      · simp at h
      · rename_i hb
        injection h with hv _
        cases l with
        | nil => simp [digsOf] at hne
        | cons c r =>
          by_cases hc : c = 45
          · subst hc
            simp only [digsOf, if_true] at hne hh hn hv hb
            have hr : r = decDigits n := decDigits_of _ r rfl hne (fun e => absurd (hh e) (by simp)) n hn
            have hn63 : ¬ 9223372036854775808 < n := fun e => hb (.inl ⟨trivial, e⟩)
            have hpos : 1 ≤ n := by
              rcases Nat.eq_zero_or_pos n with h0 | h0
              · subst h0
                rw [decDigits, dif_pos (by omega)] at hr
                have := hh (by rw [hr]; rfl)
                simp at this
              · exact h0
            rw [← hv]
            constructor
            · unfold parseIntB parseUintB
              have e45 : (45 : UInt8).toNat = 45 := rfl
              simp only [e45, or_true, if_true]
              rw [if_neg hne, parseM_of hn (by omega)]
              simp only [Nat.reducePow, Nat.reduceSub]
              rw [if_neg (by simp), if_neg (by simp; omega)]
            · rw [itoa_neg n hpos, ← hr]
          · simp only [digsOf, if_neg hc] at hne hh hn hv hb
            have hr : c :: r = decDigits n := decDigits_of _ _ rfl hne hh n hn
            have hn63 : ¬ 9223372036854775807 < n := fun e => hb (.inr ⟨trivial, e⟩)
            have h1 := decV_head hn
            rw [if_neg (by simp)] at hv
            rw [← hv]
            constructor
            · unfold parseIntB parseUintB
              have e1 : ¬ c.toNat = 45 := by omega
              have e2 : ¬ c.toNat = 43 := by omega
              simp only [e1, e2, or_false, if_false]
              rw [if_neg (by simp), parseM_of hn (by omega)]
              simp only [Nat.reducePow, Nat.reduceSub]
              rw [if_neg (by simp; omega), if_neg (by simp)]
            · rw [itoa_nonneg n, ← hr]
theorem numR_itoa {v : Int} (h0 : -9223372036854775808 ≤ v) (h1 : v ≤ 9223372036854775807) : (numR (itoa v)).2 = true := by
  by_cases hv : v < 0
  · obtain ⟨n, rfl⟩ : ∃ n : Nat, v = -(n : Int) := ⟨v.natAbs, by omega⟩
    have hn : 1 ≤ n := by omega
    obtain ⟨c, r, e, _, _, hne⟩ := head_decDigits n
    have hl : (decDigits n).length ≤ 19 := by rw [decDigits_length]; exact nDigits_le 18 n (by omega)
    rw [itoa_neg n hn]
    unfold numR
    simp only [digsOf, if_true]
    rw [if_neg, decV_decDigits]
    · simp only
      rw [if_neg (by simp; omega)]
    · rintro (h | h | ⟨h, _⟩)
      · rw [e] at h; cases h
      · omega
      · rw [e] at h; simp only [List.head?_cons, Option.some.injEq] at h; exact hne hn h
  · obtain ⟨n, rfl⟩ : ∃ n : Nat, v = (n : Int) := ⟨v.toNat, by omega⟩
    obtain ⟨c, r, e, h48, h57, hne⟩ := head_decDigits n
    have hl : (decDigits n).length ≤ 19 := by rw [decDigits_length]; exact nDigits_le 18 n (by omega)
    have hd : digsOf (decDigits n) = (false, decDigits n) := by
      rw [e]
      show (if c = 45 then (true, r) else (false, c :: r)) = (false, c :: r)
      rw [if_neg]
      rintro rfl
      have : (45 : UInt8).toNat = 45 := rfl
      omega
    rw [itoa_nonneg n]
    unfold numR
    rw [hd]
    simp only
    rw [if_neg, decV_decDigits]
    · simp only
      rw [if_neg (by simp; omega)]
    · rintro (h | h | ⟨h, h2⟩)
      · rw [e] at h; cases h
      · omega
      · rw [e] at h
        simp only [List.head?_cons, Option.some.injEq] at h
        rcases Nat.eq_zero_or_pos n with hn | hn
        · subst hn; exact h2 (by rw [decDigits, dif_pos (by omega)]; rfl)
        · exact hne hn h
theorem isNum_numR (l : List UInt8) : isNumB l = (numR l).2 := by
  cases hb : (numR l).2 with
  | true =>
    obtain ⟨h1, h2⟩ := numR_ok (l := l) (v := (numR l).1) (by rw [← hb])
    unfold isNumB
    rw [h1]
    simp [h2]
  | false =>
    unfold isNumB
    split
    · rename_i v hv
      have hbd := parseInt_bounds hv
      by_cases he : itoa v = l
      · have := numR_itoa hbd.1 hbd.2
        rw [he, hb] at this
        cases this
      · simpa using he
    · rfl

end Go.Proofs.YtfnfjfcncijapaaGreatDoor
