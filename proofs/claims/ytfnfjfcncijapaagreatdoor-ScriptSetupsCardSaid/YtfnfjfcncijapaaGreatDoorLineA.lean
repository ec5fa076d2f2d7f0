/- What was read of a script, in memory; what a line adds. -/
import Derived.Test.YtfnfjfcncijapaaGreatDoorKind
import Derived.Test.YtfnfjfcncijapaaGreatDoorText
import Derived.Test.YtfnfjfcncijapaaGreatDoorWordsIt
namespace Go.Proofs.YtfnfjfcncijapaaGreatDoor
open Go.RowKit Go.Shelf

/-- A step. -/
structure StepD where
  cmd : List UInt8
  args : List (List UInt8)

/-- What was read of a script. -/
structure PD where
  steps : List StepD
  vaults : Nat
  begun : Bool

def needsV (cmd : List UInt8) : Bool := cmd == [99, 117, 116, 116, 105, 110, 103] || cmd == [114, 117, 108, 101, 115]
def isVault (cmd : List UInt8) : Bool := cmd == [118, 97, 117, 108, 116]
/-- The strings that words stand for. -/
def argsOf : List (List UInt8) → Option (List (List UInt8))
  | [] => some []
  | w :: r => if (textS w).2 = true then (argsOf r).map ((textS w).1 :: ·) else none
def PD.add (P : PD) (c : List UInt8) (args : List (List UInt8)) : PD :=
  if kindS c args = 1 then ⟨P.steps ++ [⟨c, args⟩], if isVault c = true then P.vaults + 1 else P.vaults, P.begun⟩ else ⟨P.steps ++ [⟨c, args⟩], P.vaults, true⟩
/-- What becomes of what was read, and the error. -/
def lineS (P : PD) (s : List UInt8) : PD × Int := match wordsOf s with
  | [] => (P, 0)
  | c :: r => if Lib.hasPrefix c [35] = true then (P, 0) else match argsOf r with
    | none => (P, 3)
    | some args => if kindS c args = 0 then (P, 3) else if kindS c args = 1 ∧ (P.begun || (needsV c && P.vaults == 0)) = true then (P, 6) else (P.add c args, 0)

section
variable {P : PD} {s c : List UInt8} {r args : List (List UInt8)}
theorem lineS_nil (h : wordsOf s = []) : lineS P s = (P, 0) := by unfold lineS; rw [h]
theorem lineS_hash (h : wordsOf s = c :: r) (hp : Lib.hasPrefix c [35] = true) : lineS P s = (P, 0) := by unfold lineS; rw [h]; exact if_pos hp
theorem lineS_bad (h : wordsOf s = c :: r) (hp : Lib.hasPrefix c [35] = false) (ha : argsOf r = none) : lineS P s = (P, 3) := by unfold lineS; rw [h]; dsimp only; rw [if_neg (by simp [hp]), ha]
theorem lineS_zero (h : wordsOf s = c :: r) (hp : Lib.hasPrefix c [35] = false) (ha : argsOf r = some args) (hk : kindS c args = 0) : lineS P s = (P, 3) := by
  unfold lineS; rw [h]; dsimp only; rw [if_neg (by simp [hp]), ha]; exact if_pos hk
theorem lineS_state (h : wordsOf s = c :: r) (hp : Lib.hasPrefix c [35] = false) (ha : argsOf r = some args) (hk : kindS c args = 1) (hq : (P.begun || (needsV c && P.vaults == 0)) = true) : lineS P s = (P, 6) := by
  unfold lineS; rw [h]; dsimp only; rw [if_neg (by simp [hp]), ha]; dsimp only; rw [if_neg (by rw [hk]; decide), if_pos ⟨hk, hq⟩]
theorem lineS_add (h : wordsOf s = c :: r) (hp : Lib.hasPrefix c [35] = false) (ha : argsOf r = some args) (hk : kindS c args ≠ 0) (hq : ¬ (kindS c args = 1 ∧ (P.begun || (needsV c && P.vaults == 0)) = true)) : lineS P s = (P.add c args, 0) := by
  unfold lineS; rw [h]; dsimp only; rw [if_neg (by simp [hp]), ha]; dsimp only; rw [if_neg hk, if_neg hq]
end

theorem argsOf_length : ∀ {r args : List (List UInt8)}, argsOf r = some args → args.length = r.length
  | [], args, h => by simp only [argsOf, Option.some.injEq] at h; subst h; rfl
  | w :: r, args, h => by
    unfold argsOf at h
    split at h
    · obtain ⟨a, ha, rfl⟩ := Option.map_eq_some_iff.1 h
      simp [argsOf_length ha]
    · cases h
theorem argsOf_append : ∀ (r q : List (List UInt8)), argsOf (r ++ q) = match argsOf r with | some a => (argsOf q).map (a ++ ·) | none => none
  | [], q => by simp [argsOf]
  | w :: r, q => by
    have ih := argsOf_append r q
    simp only [List.cons_append, argsOf]
    split
    · rw [ih]
      cases argsOf r with
      | none => rfl
      | some a =>
        simp only [Option.map_some]
        rw [Option.map_map]
        congr 1
    · rfl
theorem argsOf_snoc {r : List (List UInt8)} {acc : List (List UInt8)} {j : Nat} (h : j < r.length) (ha : argsOf (r.take j) = some acc) (ht : (textS r[j]).2 = true) : argsOf (r.take (j + 1)) = some (acc ++ [(textS r[j]).1]) := by
  rw [List.take_succ_eq_append_getElem h, argsOf_append, ha]
  simp [argsOf, ht]
theorem argsOf_none {r : List (List UInt8)} {acc : List (List UInt8)} {j : Nat} (h : j < r.length) (ha : argsOf (r.take j) = some acc) (ht : (textS r[j]).2 = false) : argsOf r = none := by
  rw [← List.take_append_drop j r, argsOf_append, ha, List.drop_eq_getElem_cons h]
  simp [argsOf, ht]

theorem stands_length : ∀ {l o : List UInt8}, stands l = some o → o.length ≤ l.length := by
  intro l
  induction l using stands.induct with
  | case1 => intro o h; simp only [stands, Option.some.injEq] at h; subst h; simp
  | case2 c r hb => intro o h; unfold stands at h; rw [if_pos hb] at h; cases h
  | case3 c r hb h37 ih =>
    intro o h
    unfold stands at h
    rw [if_neg hb, if_pos h37] at h
    obtain ⟨a, ha, rfl⟩ := Option.map_eq_some_iff.1 h
    have := ih ha
    simp; omega
  | case4 c hb h37 a b r' hx =>
    intro o h
    unfold stands at h
    rw [if_neg hb, if_neg h37] at h
    dsimp only at h
    rw [if_pos hx] at h
    cases h
  | case5 c hb h37 a b r' hx ih =>
    intro o h
    unfold stands at h
    rw [if_neg hb, if_neg h37] at h
    dsimp only at h
    rw [if_neg hx] at h
    obtain ⟨q, hq, rfl⟩ := Option.map_eq_some_iff.1 h
    have := ih hq
    simp; omega
  | case6 c r hb h37 hr =>
    intro o h
    unfold stands at h
    rw [if_neg hb, if_neg h37] at h
    match r, hr with
    | [], _ => cases h
    | [a], _ => cases h
    | a :: b :: q, hr => exact absurd rfl (hr a b q)
theorem textS_length (l : List UInt8) : (textS l).1.length ≤ l.length := by
  unfold textS
  split
  · simp
  · cases h : stands l with
    | none => simp
    | some o => exact stands_length h

def svCells (sv : List (StepD × Option Addr × Nat)) : List Value := sv.flatMap (fun x => [.string (ba x.1.cmd), .slice x.2.1 x.1.args.length x.2.2])
/-- The arguments of a step lie in none of the blocks F, at or beyond block lo. -/
def ArgsOk (w : World) (F : Nat → Prop) (lo : Nat) (x : StepD × Option Addr × Nat) : Prop := StrsAt w x.2.1 x.1.args ∧ ∀ ad, x.2.1 = some ad → 0 < x.1.args.length → ¬ F ad.block ∧ lo ≤ ad.block

/-- What was read lies at block pb, in the blocks F. -/
structure PRep (w : World) (F : Nat → Prop) (lo pb : Nat) (P : PD) (v : Value) (sv : List (StepD × Option Addr × Nat)) : Prop where
  st : sv.map (·.1) = P.steps
  blk : Blk w pb 73 #[v, .int .i64 (P.vaults : Int), .bool P.begun]
  own : w.ownsRow 0 45 2 v sv.length (svCells sv)
  fp : F pb
  fv : ∀ g, v.ownBlock = some g → F g
  args : ∀ x ∈ sv, ArgsOk w F lo x
  lt : ∀ k, F k → k < w.heap.size
def PAt (w : World) (F : Nat → Prop) (lo pb : Nat) (P : PD) : Prop := ∃ v sv, PRep w F lo pb P v sv

theorem ArgsOk.kept {w w' : World} {F : Nat → Prop} {lo : Nat} {x : StepD × Option Addr × Nat} (h : ArgsOk w F lo x) (k : Kept F w w') : ArgsOk w' F lo x := ⟨k.src h.1 (fun ad e hp => (h.2 ad e hp).1), h.2⟩
theorem ArgsOk.also {w w' : World} {F G : Nat → Prop} {lo : Nat} {x : StepD × Option Addr × Nat} (h : ArgsOk w F lo x) (k : Kept F w w') (hG : ∀ k, G k → F k ∨ w.heap.size ≤ k) : ArgsOk w' G lo x := by
  refine ⟨k.src h.1 (fun ad e hp => (h.2 ad e hp).1), fun ad e hp => ⟨fun hm => ?_, (h.2 ad e hp).2⟩⟩
  obtain ⟨ad', e', hb, _⟩ := h.1.2 hp
  rw [e] at e'
  injection e' with e'
  subst e'
  rcases hG _ hm with hm | hm
  · exact (h.2 ad e hp).1 hm
  · omega
theorem PAt.later {w w' : World} {F : Nat → Prop} {lo pb : Nat} {P : PD} (h : PAt w F lo pb P) (hb : Below w.heap.size w w') : PAt w' F lo pb P ∧ Kept F w w' := by
  obtain ⟨v, sv, r⟩ := h
  have k : Kept NoF w w' := Kept.of_below hb
  have kF : Kept F w w' := Kept.of_below hb
  exact ⟨⟨v, sv, r.st, k.blk r.blk (fun h => h), k.own r.own (fun _ _ h => h), r.fp, r.fv, fun x hx => (r.args x hx).kept kF, fun k hk => Nat.lt_of_lt_of_le (r.lt k hk) hb.size⟩, kF⟩
/-- Other blocks may turn. -/
theorem PAt.apart {w w' : World} {F S : Nat → Prop} {lo pb : Nat} {P : PD} (h : PAt w F lo pb P) (k : Kept S w w') (h1 : ∀ x, S x → ¬ F x) (h2 : ∀ x, S x → x < lo) : PAt w' F lo pb P := by
  obtain ⟨v, sv, r⟩ := h
  exact ⟨v, sv, r.st, k.blk r.blk (fun h => h1 _ h r.fp), k.own r.own (fun g hg h => h1 _ h (r.fv g hg)), r.fp, r.fv,
    fun x hx => ⟨k.src (r.args x hx).1 (fun ad e hp h => by have := ((r.args x hx).2 ad e hp).2; have := h2 _ h; omega), (r.args x hx).2⟩, fun k' hk => Nat.lt_of_lt_of_le (r.lt k' hk) k.size⟩
theorem svCells_length (sv : List (StepD × Option Addr × Nat)) : (svCells sv).length = sv.length * 2 := by
  induction sv with
  | nil => rfl
  | cons x xs ih => simp only [svCells, List.flatMap_cons, List.length_append, List.length_cons, List.length_nil] at ih ⊢; omega
theorem svCells_snoc (sv : List (StepD × Option Addr × Nat)) (x : StepD × Option Addr × Nat) : svCells (sv ++ [x]) = svCells sv ++ [.string (ba x.1.cmd), .slice x.2.1 x.1.args.length x.2.2] := by simp [svCells]

end Go.Proofs.YtfnfjfcncijapaaGreatDoor
