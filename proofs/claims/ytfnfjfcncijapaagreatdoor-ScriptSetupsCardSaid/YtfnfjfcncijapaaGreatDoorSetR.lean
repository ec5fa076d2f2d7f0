/- How the lists of a setup lie in memory. -/
import Derived.Test.YtfnfjfcncijapaaGreatDoorSetP
import Derived.Laws.OwnMore
namespace Go.Proofs.YtfnfjfcncijapaaGreatDoor
open Go.RowKit Go.Shelf

def vcell (v : VaultD) (A : Option Addr) (c : Nat) : List Value := [.int .i64 v.num, .slice A v.writers.length c, .int .i64 v.data, .int .i64 v.total, .int .i64 v.thr, .string (ba []), .int .i64 v.c0, .int .i64 v.c1, .int .i64 v.c2, .int .i64 v.c3, .int .u64 0, .int .i64 v.r0, .int .i64 v.r1, .int .i64 v.r2, .int .i64 v.r3]
def vcells (l : List (VaultD × Option Addr × Nat)) : List Value := l.flatMap (fun x => vcell x.1 x.2.1 x.2.2)
theorem vcells_snoc (l : List (VaultD × Option Addr × Nat)) (x : VaultD × Option Addr × Nat) : vcells (l ++ [x]) = vcells l ++ vcell x.1 x.2.1 x.2.2 := by simp [vcells]
theorem vcells_length (l : List (VaultD × Option Addr × Nat)) : (vcells l).length = l.length * 15 := by
  induction l with
  | nil => rfl
  | cons x l ih => simp only [vcells, List.flatMap_cons, List.length_append, List.length_cons] at ih ⊢; rw [ih]; simp [vcell]; omega
/-- A block is none of a setup's rows. -/
def Off (nm qs vs : Value) (b : Nat) : Prop := nm.ownBlock ≠ some b ∧ qs.ownBlock ≠ some b ∧ vs.ownBlock ≠ some b
/-- The writers of a vault lie beside the rows. -/
def WAt (w : World) (B : Nat) (nm qs vs : Value) (x : VaultD × Option Addr × Nat) : Prop :=
  Reads w w.heap.size 1 x.2.1 x.1.writers.length (ints x.1.writers) ∧ ∀ ad, x.2.1 = some ad → 0 < x.1.writers.length → B ≤ ad.block ∧ Off nm qs vs ad.block
/-- The lists of a setup lie at or beyond block B. -/
structure RowsAt (w : World) (B : Nat) (d : SetD) (nm qs vs : Value) (vl : List (VaultD × Option Addr × Nat)) : Prop where
  n0 : vl.map (·.1) = d.vaults
  n1 : w.ownsRow B 9 1 nm d.names.length (strs d.names)
  n2 : w.ownsRow B 3 1 qs d.quotas.length (ints d.quotas)
  n3 : w.ownsRow B 119 15 vs d.vaults.length (vcells vl)
  n4 : ∀ x ∈ vl, WAt w B nm qs vs x
theorem own_own_ne {w : World} {B B' e e' z z' n n' : Nat} {v v' : Value} {xs xs' : List Value} (h : w.ownsRow B e z v n xs) (h' : w.ownsRow B' e' z' v' n' xs') (hne : e ≠ e') : v.ownBlock = none ∨ v.ownBlock ≠ v'.ownBlock := by
  rcases h.2 with ⟨rfl, _⟩ | ⟨g, cap, cur, rfl, _, hg, _⟩
  · exact .inl rfl
  · refine .inr (fun e1 => ?_)
    rcases h'.2 with ⟨rfl, _⟩ | ⟨g', cap', cur', rfl, _, hg', _⟩
    · simp [Value.ownBlock] at e1
    · simp only [Value.ownBlock, Option.some.injEq] at e1
      subst e1
      rw [hg] at hg'
      injection hg' with h1
      injection h1 with _ h2
      exact hne h2
theorem own_ne {w : World} {B B' e e' z z' n n' : Nat} {v v' : Value} {xs xs' : List Value} (h : w.ownsRow B e z v n xs) (h' : w.ownsRow B' e' z' v' n' xs') (hne : e ≠ e') {b : Nat} (hb : v.ownBlock = some b) : v'.ownBlock ≠ some b := by
  rcases own_own_ne h h' hne with h1 | h1
  · rw [h1] at hb; cases hb
  · rw [hb] at h1; exact fun e => h1 e.symm
section
variable {w w' : World} {B : Nat} {d : SetD} {nm qs vs : Value} {vl : List (VaultD × Option Addr × Nat)}
theorem WAt.kept {F : Nat → Prop} {x : VaultD × Option Addr × Nat} (h : WAt w B nm qs vs x) (k : Kept F w w') (hF : ∀ b, F b → b < B) : WAt w' B nm qs vs x :=
  ⟨k.src h.1 (fun ad e hp hf => by have := (h.2 ad e hp).1; have := hF _ hf; omega), h.2⟩
theorem RowsAt.kept {F : Nat → Prop} (h : RowsAt w B d nm qs vs vl) (k : Kept F w w') (hF : ∀ b, F b → b < B) : RowsAt w' B d nm qs vs vl where
  n0 := h.n0
  n1 := k.own h.n1 (fun g hg hf => by have := (h.n1.lt g hg).1; have := hF _ hf; omega)
  n2 := k.own h.n2 (fun g hg hf => by have := (h.n2.lt g hg).1; have := hF _ hf; omega)
  n3 := k.own h.n3 (fun g hg hf => by have := (h.n3.lt g hg).1; have := hF _ hf; omega)
  n4 := fun x hx => (h.n4 x hx).kept k hF
theorem RowsAt.same (h : RowsAt w B d nm qs vs vl) (k : Kept NoF w w') : RowsAt w' B d nm qs vs vl := h.kept k (fun _ h => h.elim)
theorem Kept.of_grown {row : Option Nat} (h : w.grownBy w' row) : Kept (fun b => row = some b) w w' := ⟨h.os, h.tape, h.output, h.size, fun k hk hn => h.block k hk (fun e => hn e.symm)⟩
/-- The writers' rows when one row has grown. -/
theorem WAt.grown {x : VaultD × Option Addr × Nat} {row : Option Nat} {nm' qs' vs' : Value} (h : WAt w B nm qs vs x) (hg : w.grownBy w' row) (hr : ∀ b, Off nm qs vs b → row ≠ some b)
    (ho : ∀ b, b < w.heap.size → Off nm qs vs b → Off nm' qs' vs' b) : WAt w' B nm' qs' vs' x := by
  refine ⟨(Kept.of_grown hg).src h.1 (fun ad e hp hf => hr _ (h.2 ad e hp).2 hf), fun ad e hp => ?_⟩
  obtain ⟨h1, h2⟩ := h.2 ad e hp
  obtain ⟨ad', e', hb, _⟩ := h.1.2 hp
  rw [e] at e'
  injection e' with e'
  subst e'
  exact ⟨h1, ho _ hb h2⟩
theorem RowsAt.name {a : List UInt8} {nm' : Value} (h : RowsAt w B d nm qs vs vl) (own : w'.ownsRow B 9 1 nm' (d.names.length + 1) (strs d.names ++ [.string (ba a)])) (hg : w.grownBy w' nm.ownBlock) (hat : nm'.ownBlock = nm.ownBlock ∨ nm'.ownBlock = some w.heap.size) :
    RowsAt w' B { d with names := d.names ++ [a] } nm' qs vs vl where
  n0 := h.n0
  n1 := by
    have : strs (d.names ++ [a]) = strs d.names ++ [.string (ba a)] := by simp [strs]
    dsimp only
    rw [this, List.length_append]
    exact own
  n2 := h.n2.kept hg (own_own_ne h.n2 h.n1 (by decide))
  n3 := h.n3.kept hg (own_own_ne h.n3 h.n1 (by decide))
  n4 := fun x hx => (h.n4 x hx).grown hg (fun b ho => ho.1) (fun b hb ho => ⟨by rcases hat with e | e <;> rw [e]; exact ho.1; simp; omega, ho.2.1, ho.2.2⟩)
theorem RowsAt.quota {a : Int} {qs' : Value} (h : RowsAt w B d nm qs vs vl) (own : w'.ownsRow B 3 1 qs' (d.quotas.length + 1) (ints d.quotas ++ [.int .i64 a])) (hg : w.grownBy w' qs.ownBlock) (hat : qs'.ownBlock = qs.ownBlock ∨ qs'.ownBlock = some w.heap.size) :
    RowsAt w' B { d with quotas := d.quotas ++ [a] } nm qs' vs vl where
  n0 := h.n0
  n1 := h.n1.kept hg (own_own_ne h.n1 h.n2 (by decide))
  n2 := by
    have : ints (d.quotas ++ [a]) = ints d.quotas ++ [.int .i64 a] := by simp [ints]
    dsimp only
    rw [this, List.length_append]
    exact own
  n3 := h.n3.kept hg (own_own_ne h.n3 h.n2 (by decide))
  n4 := fun x hx => (h.n4 x hx).grown hg (fun b ho => ho.2.1) (fun b hb ho => ⟨ho.1, by rcases hat with e | e <;> rw [e]; exact ho.2.1; simp; omega, ho.2.2⟩)
theorem RowsAt.vault {v : VaultD} {A : Option Addr} {c : Nat} {vs' : Value} (h : RowsAt w B d nm qs vs vl) (own : w'.ownsRow B 119 15 vs' (d.vaults.length + 1) (vcells vl ++ vcell v A c)) (hg : w.grownBy w' vs.ownBlock) (hat : vs'.ownBlock = vs.ownBlock ∨ vs'.ownBlock = some w.heap.size) (hw : WAt w B nm qs vs (v, A, c)) :
    RowsAt w' B { d with vaults := d.vaults ++ [v] } nm qs vs' (vl ++ [(v, A, c)]) where
  n0 := by simp [h.n0]
  n1 := h.n1.kept hg (own_own_ne h.n1 h.n3 (by decide))
  n2 := h.n2.kept hg (own_own_ne h.n2 h.n3 (by decide))
  n3 := by
    dsimp only
    rw [vcells_snoc, List.length_append]
    exact own
  n4 := fun x hx => by
    have hh : WAt w B nm qs vs x := by
      rcases List.mem_append.1 hx with h1 | h1
      · exact h.n4 x h1
      · rw [List.mem_singleton.1 h1]; exact hw
    exact hh.grown hg (fun b ho => ho.2.2) (fun b hb ho => ⟨ho.1, ho.2.1, by rcases hat with e | e <;> rw [e]; exact ho.2.2; simp; omega⟩)
theorem set_at {l : List Value} {n : Nat} (h : l.length = n) (i : Nat) (u : Value) (r : List Value) : (l ++ r).set (n + i) u = l ++ r.set i u := by
  subst h
  rw [List.set_append_right _ _ (by omega)]
  congr 2
  omega
theorem own_sets {e n cap g m : Nat} {P xs : List Value} (hP : P.length = m) (us : List (Nat × Value)) (h : w.ownsRow B e 15 (.slice (some ⟨g, 0, none⟩) n cap) n (P ++ xs)) :
    (us.foldl (fun W p => W.setCell ⟨g, m + p.1, none⟩ p.2) w).ownsRow B e 15 (.slice (some ⟨g, 0, none⟩) n cap) n (P ++ us.foldl (fun L p => L.set p.1 p.2) xs) := by
  induction us generalizing w xs with
  | nil => exact h
  | cons p us ih =>
    have h1 := (h.stored (m + p.1) p.2).1
    rw [set_at hP] at h1
    exact ih h1
theorem kept_puts {g m : Nat} {W : World} (h : Kept (fun b => b = g) w W) (us : List (Nat × Value)) : Kept (fun b => b = g) w (us.foldl (fun W p => W.setCell ⟨g, m + p.1, none⟩ p.2) W) := by
  induction us generalizing W with
  | nil => exact h
  | cons p us ih => exact ih (h.setCell (p := ⟨g, m + p.1, none⟩) (.inl rfl) p.2)
/-- Cells of the last vault are written. -/
theorem RowsAt.put {l : List VaultD} {v v' : VaultD} {g n cap : Nat} (us : List (Nat × Value)) (h : RowsAt w B d nm qs (.slice (some ⟨g, 0, none⟩) n cap) vl) (hd : d.vaults = l ++ [v]) (hn : n = l.length + 1) (hw : v'.writers = v.writers)
    (hc : ∀ A c, us.foldl (fun L p => L.set p.1 p.2) (vcell v A c) = vcell v' A c) :
    ∃ vl', RowsAt (us.foldl (fun W p => W.setCell ⟨g, l.length * 15 + p.1, none⟩ p.2) w) B { d with vaults := l ++ [v'] } nm qs (.slice (some ⟨g, 0, none⟩) n cap) vl' ∧
      Kept (fun b => b = g) w (us.foldl (fun W p => W.setCell ⟨g, l.length * 15 + p.1, none⟩ p.2) w) := by
  have hlen : d.vaults.length = n := by rw [hd, hn]; simp
  have hvl : vl ≠ [] := fun e => by have := h.n0; rw [e, hd] at this; simp at this
  obtain ⟨vl0, x, hx⟩ : ∃ vl0 x, vl = vl0 ++ [x] := by
    rcases List.eq_nil_or_concat vl with e | ⟨a, b, e⟩
    · exact absurd e hvl
    · exact ⟨a, b, by rw [e, List.concat_eq_append]⟩
  subst hx
  obtain ⟨xv, A, c⟩ := x
  have h0 := h.n0
  rw [hd, List.map_append] at h0
  have h01 := List.append_inj' h0 rfl
  have hvx : xv = v := by simpa using h01.2
  subst hvx
  have hl0 : vl0.length = l.length := by have := congrArg List.length h01.1; simpa using this
  have own := h.n3
  rw [hlen, vcells_snoc] at own
  have lz : (vcells vl0).length = l.length * 15 := by rw [vcells_length, hl0]
  have o4 := own_sets lz us own
  rw [hc] at o4
  have kk := kept_puts (m := l.length * 15) (Kept.refl (fun b => b = g) w) us
  refine ⟨vl0 ++ [(v', A, c)], ⟨?_, kk.own h.n1 (fun b hb e => ?_), kk.own h.n2 (fun b hb e => ?_), ?_, fun y hy => ?_⟩, kk⟩
  · simp [h01.1]
  · subst e; exact own_ne h.n1 h.n3 (by decide) hb rfl
  · subst e; exact own_ne h.n2 h.n3 (by decide) hb rfl
  · dsimp only
    rw [vcells_snoc, List.length_append, List.length_singleton, ← hn]
    exact o4
  · have hy' : WAt w B nm qs (.slice (some ⟨g, 0, none⟩) n cap) y := by
      rcases List.mem_append.1 hy with h1 | h1
      · exact h.n4 y (List.mem_append_left _ h1)
      · rw [List.mem_singleton.1 h1]
        have := h.n4 (xv, A, c) (List.mem_append_right _ (by simp))
        unfold WAt at this ⊢
        dsimp only at this ⊢
        rw [hw]
        exact this
    exact ⟨kk.src hy'.1 (fun ad e hp hf => (hy'.2 ad e hp).2.2.2 (by simp [Value.ownBlock, hf])), hy'.2⟩
end
def SetD.cells (d : SetD) (nm qs vs : Value) : Array Value := #[nm, qs, vs, .int .i64 d.quorum, .string (ba d.seed), .int .i64 d.bits, .int .i64 d.height, .int .i64 d.sectors, .int .i64 d.size, .int .i64 d.day, .int .i64 d.leap, .int .i64 d.agree]
theorem RowsAt.nil (w : World) (B : Nat) {d : SetD} (h1 : d.names = []) (h2 : d.quotas = []) (h3 : d.vaults = []) : RowsAt w B d (.slice none 0 0) (.slice none 0 0) (.slice none 0 0) [] :=
  ⟨h3.symm, by rw [h1]; exact ⟨rfl, .inl ⟨rfl, rfl⟩⟩, by rw [h2]; exact ⟨rfl, .inl ⟨rfl, rfl⟩⟩, by rw [h3]; exact ⟨rfl, .inl ⟨rfl, rfl⟩⟩, fun _ h => by cases h⟩
/-- A setup lies at block xb, of type t. -/
def SetAt (w : World) (t : TypeId) (xb B : Nat) (d : SetD) : Prop := xb < B ∧ ∃ nm qs vs vl, Blk w xb t (d.cells nm qs vs) ∧ RowsAt w B d nm qs vs vl
theorem nums_of {l : List (List UInt8)} (h : (numsOf l).isSome = true) : numsOf l = some (l.map nv) := by
  induction l with
  | nil => rfl
  | cons p r ih =>
    unfold numsOf at h ⊢
    by_cases hp : (numR p).2 = true
    · rw [if_pos hp] at h ⊢
      rw [ih (by cases hq : numsOf r <;> simp_all)]
      rfl
    · rw [if_neg hp] at h
      cases h
theorem nums_ok {a : List UInt8} (h : numsB a = true) : numsOf (parts 44 a) = some ((parts 44 a).map nv) := nums_of (by rw [← numsB_numsOf]; exact h)

end Go.Proofs.YtfnfjfcncijapaaGreatDoor
