/- Arguments that are a step or a list of steps: their cells (the first theorem after the kit's lemma sheet for slices of structs). -/
import Derived.Test.YtfnfjfcncijapaaGreatDoorTexts
import Derived.Deep.Slices
import Derived.Deep.Fields
import Derived.Deep.Strs
import Derived.ChangeSame
import Derived.SizedLaws
import Derived.ProofKit
import Derived.Lib.SmallJoins
namespace Go.Proofs.YtfnfjfcncijapaaGreatDoor
open Go.ChangeShapes Go.WideShapes Go.Deep Go.RowKit

section
variable {H : Type} {enc : TypeId × Value → H} {P : Program} {w : World} {base : Nat} {spare : Nat → Bool} {held : Bool}
theorem open_slice_fields {t e : TypeId} {fs : Array Field} {fuel : Nat} {cs : List Value} {x : DataW H × List MemPlace} (ht : P.underlying t = some (.slice e)) (he : P.underlying e = some (.struct fs))
    (hone : oneCellFields P fs = true) (hC : P.cellsOf e = fs.size) (h : DataW.trod enc P w base spare held fuel t cs = some x) :
    (cs = [.slice none 0 0] ∧ x = (.nil, [])) ∨
    ∃ (a : Addr) (len cap m : Nat) (D : Nat → DataW H) (Pl : Nat → List MemPlace), cs = [.slice (some a) len cap] ∧ base ≤ a.block ∧ len ≤ cap ∧ cap ≤ maxLen ∧ m = (if spare a.block then cap else len) ∧
      x = (.slice ((List.range len).map D) ((List.range (m - len)).map fun j => D (len + j)), MemPlace.row a (m * fs.size) ++ (List.range m).flatMap Pl) ∧
      ∀ i, i < m → ∃ (ys : List (DataW H × List MemPlace)) (n : Nat), D i = .agg (ys.map (·.1)) ∧ Pl i = ys.flatMap (·.2) ∧ ys.length = fs.size ∧
        ∀ (j : Nat) (f : Field), fs[j]? = some f → ∃ (v : Value) (y : DataW H × List MemPlace), w.cell? (a.add (i * fs.size + j)) = some v ∧ ys[j]? = some y ∧ DataW.trod enc P w base spare held n f.type [v] = some y := by
  rcases open_slice ht h with h0 | ⟨a, len, cap, m, n, D, Pl, hcs, hb, hl, hm, hmm, hx, hi⟩
  · exact .inl h0
  · refine .inr ⟨a, len, cap, m, D, Pl, hcs, hb, hl, hm, hmm, by rw [hC] at hx; exact hx, fun i him => ?_⟩
    obtain ⟨cs', hc, ht'⟩ := hi i him
    rw [hC] at hc
    obtain ⟨ys, n', hn', hy, hlen, hyl, hf⟩ := DataW.trod_struct he ht'
    obtain ⟨_, hcl, hat⟩ := World.cells?_some hc
    simp only [Prod.mk.injEq] at hy
    refine ⟨ys, n', hy.1, hy.2, hyl, fun j f hj => ?_⟩
    obtain ⟨ho, hk⟩ := hone_of hone j f hj
    have hjl : j < fs.size := (Array.getElem?_eq_some_iff.1 hj).1
    have hcell := hat j hjl
    have hv : cs'[j]? = some (cs'[j]'(by omega)) := List.getElem?_eq_getElem (by omega)
    have h1 := hf j f hj
    rw [ho, hk] at h1
    have hone' : (cs'.drop j).take 1 = [cs'[j]'(by omega)] := by
      rw [List.drop_eq_getElem_cons (by omega)]
      rfl
    rw [hone'] at h1
    have hys : ys[j]? = some (ys[j]'(by omega)) := List.getElem?_eq_getElem (by omega)
    refine ⟨_, _, ?_, hys, h1.trans hys⟩
    rw [← Go.Deep.add_add, hcell, hv]
end

theorem weights_all {H : Type} {P : Program} {e : TypeId} : ∀ {l : List (DataW H)} {j : Nat} {d : DataW H}, l[j]? = some d → ∀ n ∈ d.weights P e, n ∈ DataW.weightsAll P e l
  | d0 :: l, 0, d, hd, n, hn => by
    simp only [List.getElem?_cons_zero, Option.some.injEq] at hd
    subst hd
    simp only [DataW.weightsAll, List.mem_append]
    exact .inl hn
  | d0 :: l, j + 1, d, hd, n, hn => by
    simp only [List.getElem?_cons_succ] at hd
    simp only [DataW.weightsAll, List.mem_append]
    exact .inr (weights_all hd n hn)
  | [], _, _, hd, _, _ => by simp at hd

theorem collect {α : Type} {Q : Nat → α → Prop} : ∀ (n : Nat), (∀ i, i < n → ∃ o, Q i o) → ∃ l : List α, l.length = n ∧ ∀ i (h : i < l.length), Q i l[i]
  | 0, _ => ⟨[], rfl, fun i h => absurd h (by simp)⟩
  | n + 1, h => by
    obtain ⟨l, hl, hq⟩ := collect n (fun i hi => h i (by omega))
    obtain ⟨o, ho⟩ := h n (by omega)
    refine ⟨l ++ [o], by simp [hl], fun i hi => ?_⟩
    by_cases hin : i < l.length
    · rw [List.getElem_append_left hin]
      exact hq i hin
    · simp only [List.length_append, List.length_singleton] at hi
      have : i = n := by omega
      subst this
      rw [List.getElem_append_right (by omega)]
      simpa [hl] using ho

theorem fields45 : ∃ f0 f1 : Field, Tryz.prog.underlying 45 = some (.struct #[f0, f1]) ∧ oneCellFields Tryz.prog #[f0, f1] = true ∧ Tryz.prog.cellsOf 45 = 2 ∧ f0.type = 9 ∧ f1.type = 37 :=
  ⟨_, _, Tryz.underlying45, by kernel_rfl, by kernel_rfl, rfl, rfl⟩
theorem bytes45 : Tryz.prog.bytesOf 45 = 40 := by kernel_rfl
theorem bytes9 : Tryz.prog.bytesOf 9 = 16 := by kernel_rfl
theorem cells9' : Tryz.prog.cellsOf 9 = 1 := by kernel_rfl

/-- The arguments of a step are no greater than memory. -/
def ArgsIn (s : StepD) : Prop := s.args.length ≤ 140737488351232 ∧ ∀ a ∈ s.args, a.length ≤ 140737488351232

section
variable {H : Type} {enc : TypeId × Value → H} {W : World}

theorem open_strsAt {n : Nat} {v : Value} {y : DataW H × List MemPlace} (h : DataW.trod enc Tryz.prog W 0 (fun _ => true) true n 37 [v] = some y) (hw : ∀ k ∈ y.1.weights Tryz.prog 37, k ≤ reachBytes) :
    ∃ (X : Option Addr) (c : Nat) (xs : List (List UInt8)), v = .slice X xs.length c ∧ StrsAt W X xs ∧ xs.length ≤ 140737488351232 ∧ ∀ a ∈ xs, a.length ≤ 140737488351232 := by
  rcases open_strs Tryz.underlying37 Tryz.underlying9 cells9' h with ⟨hcs, _⟩ | ⟨a, len, cap, m, Sx, hcs, _, hl, hm, hmm, hx, hi⟩
  · simp only [List.cons.injEq, and_true] at hcs
    exact ⟨none, 0, [], hcs, ⟨rfl, fun h => absurd h (by simp)⟩, by simp, fun a ha => by cases ha⟩
  · simp only [List.cons.injEq, and_true] at hcs
    simp only [if_true] at hmm
    subst hmm
    have hmem : ∀ i, i < len → (Sx i).data.toList.length ≤ 140737488351232 := fun i hi' => by
      have := hw (Sx i).data.toList.length (by
        rw [hx]
        simp only [DataW.weights, Tryz.underlying37, List.mem_cons, List.mem_append]
        exact .inr (.inl (weights_all (j := i) (d := .lit (.string (Sx i).data.toList)) (by simp [hi']) _ (by simp [DataW.weights]))))
      exact Nat.le_trans this (by decide)
    refine ⟨some a, m, (List.range len).map (fun i => (Sx i).data.toList), by simpa using hcs, ?_, ?_, ?_⟩
    · refine ⟨by simp [strs], fun hp => ⟨a, rfl, ?_, fun j u hu => ?_⟩⟩
      · simp only [List.length_map, List.length_range] at hp
        have := World.block_lt_of_cell? W _ (hi 0 (by omega)).1
        rwa [block_of_add] at this
      · obtain ⟨hj, rfl⟩ := List.getElem?_eq_some_iff.1 hu
        simp only [strs, List.length_map, List.length_range] at hj
        simp only [strs, List.getElem_map, List.getElem_range, ba_data]
        exact (hi j (by omega)).1
    · have hb := hw ((((List.range len).map fun i => (DataW.lit (.string (Sx i).data.toList) : DataW H)).length + ((List.range (m - len)).map fun j => (DataW.lit (.string (Sx (len + j)).data.toList) : DataW H)).length) * 16) (by
        rw [hx]
        simp only [DataW.weights, Tryz.underlying37, bytes9]
        exact List.mem_cons_self)
      simp only [List.length_map, List.length_range] at hb
      have : reachBytes ≤ 140737488351232 := by decide
      simp only [List.length_map, List.length_range]
      omega
    · intro x hx'
      obtain ⟨i, hi', rfl⟩ := List.mem_map.1 hx'
      exact hmem i (List.mem_range.1 hi')

theorem svCells_inv {sv : List (StepD × Option Addr × Nat)} {j : Nat} {u : Value} (h : (svCells sv)[j]? = some u) : ∃ (k : Nat) (hk : k < sv.length), (j = k * 2 ∧ u = .string (ba sv[k].1.cmd)) ∨ (j = k * 2 + 1 ∧ u = .slice sv[k].2.1 sv[k].1.args.length sv[k].2.2) := by
  obtain ⟨hj, _⟩ := List.getElem?_eq_some_iff.1 h
  rw [svCells_length] at hj
  have hk : j / 2 < sv.length := by omega
  obtain ⟨h0, h1⟩ := svCells_get hk
  rcases Nat.mod_two_eq_zero_or_one j with hm | hm
  · rw [show j / 2 * 2 = j by omega, h] at h0
    exact ⟨j / 2, hk, .inl ⟨by omega, Option.some.inj h0⟩⟩
  · rw [show j / 2 * 2 + 1 = j by omega, h] at h1
    exact ⟨j / 2, hk, .inr ⟨by omega, Option.some.inj h1⟩⟩

/-- One step of a list. -/
def StepCells (W : World) (a : Addr) (i : Nat) (x : StepD × Option Addr × Nat) : Prop :=
  W.cell? (a.add (i * 2)) = some (.string (ba x.1.cmd)) ∧ W.cell? (a.add (i * 2 + 1)) = some (.slice x.2.1 x.1.args.length x.2.2) ∧ StrsAt W x.2.1 x.1.args ∧ ArgsIn x.1

theorem open_steps {fuel : Nat} {cs : List Value} {x : DataW H × List MemPlace} (h : DataW.trod enc Tryz.prog W 0 (fun _ => true) true fuel 23 cs = some x) (hw : ∀ k ∈ x.1.weights Tryz.prog 23, k ≤ reachBytes) :
    ∃ (A : Option Addr) (cap : Nat) (l : List StepD), cs = [.slice A l.length cap] ∧ StepsAt W A l ∧ l.length ≤ 140737488351232 ∧ ∀ s ∈ l, ArgsIn s := by
  obtain ⟨f0, f1, hs, hone, hC, t0, t1⟩ := fields45
  rcases open_slice_fields Tryz.underlying23 hs hone hC h with ⟨hcs, _⟩ | ⟨a, len, cap, m, D, Pl, hcs, _, hl, hm, hmm, hx, hi⟩
  · exact ⟨none, 0, [], hcs, ⟨[], rfl, ⟨rfl, fun h => absurd h (by simp)⟩, fun x hx => by cases hx⟩, by simp, fun s hs => by cases hs⟩
  · simp only [if_true] at hmm
    subst hmm
    have each : ∀ i, i < len → ∃ o, StepCells W a i o := by
      intro i hil
      obtain ⟨ys, n, hD, _, _, hf⟩ := hi i (by omega)
      obtain ⟨v0, y0, c0, g0, h0⟩ := hf 0 f0 rfl
      obtain ⟨v1, y1, c1, g1, h1⟩ := hf 1 f1 rfl
      rw [t0] at h0
      rw [t1] at h1
      obtain ⟨s, q0, _, _⟩ := DataW.trod_string Tryz.underlying9 h0
      simp only [List.cons.injEq, and_true] at q0
      obtain ⟨X, c, xs, rfl, hX, hn, ha⟩ := open_strsAt h1 (fun k hk => hw k (by
        rw [hx]
        simp only [DataW.weights, Tryz.underlying23, List.mem_cons, List.mem_append]
        refine .inr (.inl (weights_all (j := i) (d := D i) (by simp [hil]) k ?_))
        rw [hD]
        simp only [DataW.weights, hs]
        exact DataW.weights_mem_each (j := 1) (t := 37) (d := y1.1) (by simp [t1]) (by simp [g1]) k hk))
      subst q0
      refine ⟨(⟨s.data.toList, xs⟩, X, c), by rw [ba_data]; exact c0, c1, hX, hn, ha⟩
    obtain ⟨sv, hol, hop⟩ := collect len each
    subst hol
    refine ⟨some a, m, sv.map (·.1), by simpa using hcs, ⟨sv, rfl, ⟨by simpa using svCells_length sv, fun hp => ⟨a, rfl, ?_, fun j u hu => ?_⟩⟩, fun x hx => ?_⟩, ?_, ?_⟩
    · simp only [List.length_map] at hp
      have := World.block_lt_of_cell? W _ (hop 0 hp).1
      rwa [block_of_add] at this
    · obtain ⟨k, hk, ⟨rfl, rfl⟩ | ⟨rfl, rfl⟩⟩ := svCells_inv hu
      · exact (hop k hk).1
      · exact (hop k hk).2.1
    · obtain ⟨k, hk, rfl⟩ := List.mem_iff_getElem.1 hx
      exact (hop k hk).2.2.1
    · have hb := hw ((((List.range sv.length).map D).length + ((List.range (m - sv.length)).map fun j => D (sv.length + j)).length) * 40) (by
        rw [hx]
        simp only [DataW.weights, Tryz.underlying23, bytes45]
        exact List.mem_cons_self)
      simp only [List.length_map, List.length_range] at hb
      have : reachBytes ≤ 140737488351232 := by decide
      simp only [List.length_map]
      omega
    · intro s hs'
      obtain ⟨x, hx', rfl⟩ := List.mem_map.1 hs'
      obtain ⟨k, hk, rfl⟩ := List.mem_iff_getElem.1 hx'
      exact (hop k hk).2.2.2

set_option maxRecDepth 100000 in
theorem open_step {r : Reach} {b0 : Nat} {v : Value} {d : DataW H} {p : List MemPlace} (hv : Value.okWide Tryz.prog W r b0 45 v) (h : DataW.Trod enc Tryz.prog W 0 (fun _ => true) true 45 v d p) (hw : ∀ k ∈ d.weights Tryz.prog 45, k ≤ reachBytes) :
    ∃ (cmd : ByteArray) (X : Option Addr) (c : Nat) (xs : List (List UInt8)), v = .agg #[.string cmd, .slice X xs.length c] ∧ StrsAt W X xs ∧ ArgsIn ⟨cmd.data.toList, xs⟩ := by
  obtain ⟨f0, f1, hs, hone, hC, t0, t1⟩ := fields45
  obtain ⟨v0, v1, y0, y1, n, rfl, rfl, rfl, h0, h1⟩ := Joins.open_agg2 hs hone hC hv h
  rw [t0] at h0
  rw [t1] at h1
  obtain ⟨s, q0, _, _⟩ := DataW.trod_string Tryz.underlying9 h0
  simp only [List.cons.injEq, and_true] at q0
  obtain ⟨X, c, xs, rfl, hX, hn, ha⟩ := open_strsAt h1 (fun k hk => hw k (by
    simp only [DataW.weights, hs]
    exact DataW.weights_mem_each (j := 1) (t := 37) (d := y1.1) (by simp [t1]) rfl k hk))
  subst q0
  exact ⟨s, X, c, xs, rfl, hX, hn, ha⟩
end

end Go.Proofs.YtfnfjfcncijapaaGreatDoor
