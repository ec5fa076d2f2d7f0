/- An argument that is a []Op: its cells (the first theorem after the kit's lemma sheet for slices of structs). -/
import Derived.Test.YtchchgdkejolaaaOpen
import Derived.Deep.Slices
import Derived.Deep.Fields
import Derived.ChangeSame
import Derived.SizedLaws
import Derived.ProofKit
namespace Go.Proofs.Ytchchgdkejolaaa
open Go.ChangeShapes Go.WideShapes Go.Deep Go.RowKit

section
variable {H : Type} {enc : TypeId × Value → H} {P : Program} {w : World} {base : Nat} {spare : Nat → Bool} {held : Bool}
theorem open_slice_fields {t e : TypeId} {fs : Array Field} {fuel : Nat} {cs : List Value} {x : DataW H × List MemPlace} (ht : P.underlying t = some (.slice e)) (he : P.underlying e = some (.struct fs))
    (hone : oneCellFields P fs = true) (hC : P.cellsOf e = fs.size) (h : DataW.trod enc P w base spare held fuel t cs = some x) :
    (cs = [.slice none 0 0] ∧ x = (.nil, [])) ∨
    ∃ (a : Addr) (len cap m : Nat) (D : Nat → DataW H) (Pl : Nat → List MemPlace), cs = [.slice (some a) len cap] ∧ base ≤ a.block ∧ len ≤ cap ∧ cap ≤ maxLen ∧ m = (if spare a.block then cap else len) ∧
      x = (.slice ((List.range len).map D) ((List.range (m - len)).map fun j => D (len + j)), MemPlace.row a (m * fs.size) ++ (List.range m).flatMap Pl) ∧
      ∀ i, i < m → ∃ (ys : List (DataW H × List MemPlace)) (n : Nat), D i = .agg (ys.map (·.1)) ∧ Pl i = ys.flatMap (·.2) ∧ ys.length = fs.size ∧
        ∀ (j : Nat) (f : Field), fs[j]? = some f → ∃ (v : Value) (y : DataW H × List MemPlace), w.cell? (a.add (i * fs.size + j)) = some v ∧ ys[j]? = some y ∧ DataW.trod enc P w base spare held n f.type [v] = some y := by
  rcases open_slice ht h with h0 | ⟨a, len, cap, m, n, D, Pl, hcs, hb, hl, hm, hmm, hx, hi⟩
  · exact .inl h0
  · refine .inr ⟨a, len, cap, m, D, Pl, hcs, hb, hl, hm, hmm, by rw [hC] at hx; exact hx, fun i him => ?_⟩
    obtain ⟨cs', hc, ht'⟩ := hi i him
    rw [hC] at hc
    obtain ⟨ys, n', hn', hy, hlen, hyl, hf⟩ := DataW.trod_struct he ht'
    obtain ⟨_, hcl, hat⟩ := World.cells?_some hc
    simp only [Prod.mk.injEq] at hy
    refine ⟨ys, n', hy.1, hy.2, hyl, fun j f hj => ?_⟩
    obtain ⟨ho, hk⟩ := hone_of hone j f hj
    have hjl : j < fs.size := (Array.getElem?_eq_some_iff.1 hj).1
    have hcell := hat j hjl
    have hv : cs'[j]? = some (cs'[j]'(by omega)) := List.getElem?_eq_getElem (by omega)
    have h1 := hf j f hj
    rw [ho, hk] at h1
    have hone' : (cs'.drop j).take 1 = [cs'[j]'(by omega)] := by
      rw [List.drop_eq_getElem_cons (by omega)]
      rfl
    rw [hone'] at h1
    have hys : ys[j]? = some (ys[j]'(by omega)) := List.getElem?_eq_getElem (by omega)
    refine ⟨_, _, ?_, hys, h1.trans hys⟩
    rw [← Go.Deep.add_add, hcell, hv]
end

/-- One call of the list. -/
structure OpD where
  kind : Int
  side : Int
  xs : List UInt8
  n : Int
  mask : UInt8

/-- The op o lies at address ad. -/
def OpAt (w : World) (ad : Addr) (o : OpD) : Prop :=
  w.cell? (ad.add 0) = some (.int .i64 o.kind) ∧ w.cell? (ad.add 1) = some (.int .i64 o.side) ∧
  (∃ X c, w.cell? (ad.add 2) = some (.slice X o.xs.length c) ∧ o.xs.length ≤ c ∧ o.xs.length ≤ 140737488351232 ∧ Reads w w.heap.size 1 X o.xs.length (bvs o.xs)) ∧
  w.cell? (ad.add 3) = some (.int .i64 o.n) ∧ w.cell? (ad.add 4) = some (.int .u8 (o.mask.toNat : Int)) ∧
  (-9223372036854775808 ≤ o.side ∧ o.side ≤ 9223372036854775807) ∧ (-9223372036854775808 ≤ o.n ∧ o.n ≤ 9223372036854775807)

/-- The list of ops lies at A. -/
def OpsAt (w : World) (A : Option Addr) (ops : List OpD) : Prop :=
  ops.length ≤ 140737488351232 ∧ (0 < ops.length → ∃ b off, A = some ⟨b, off, none⟩ ∧ b < w.heap.size ∧ ∀ i (h : i < ops.length), OpAt w ⟨b, off + i * 5, none⟩ ops[i])

theorem weights_all {H : Type} {P : Program} {e : TypeId} : ∀ {l : List (DataW H)} {j : Nat} {d : DataW H}, l[j]? = some d → ∀ n ∈ d.weights P e, n ∈ DataW.weightsAll P e l
  | d0 :: l, 0, d, hd, n, hn => by
    simp only [List.getElem?_cons_zero, Option.some.injEq] at hd
    subst hd
    simp only [DataW.weightsAll, List.mem_append]
    exact .inl hn
  | d0 :: l, j + 1, d, hd, n, hn => by
    simp only [List.getElem?_cons_succ] at hd
    simp only [DataW.weightsAll, List.mem_append]
    exact .inr (weights_all hd n hn)
  | [], _, _, hd, _, _ => by simp at hd

theorem fields36 : ∃ fs : Array Field, Try.prog.underlying 37 = some (.struct fs) ∧ oneCellFields Try.prog fs = true ∧ Try.prog.cellsOf 37 = fs.size ∧ fs.size = 5 ∧
    (fs[0]?.map (·.type)) = some 3 ∧ (fs[1]?.map (·.type)) = some 3 ∧ (fs[2]?.map (·.type)) = some 22 ∧ (fs[3]?.map (·.type)) = some 3 ∧ (fs[4]?.map (·.type)) = some 5 :=
  ⟨_, Try.underlying37, by kernel_rfl, by kernel_rfl, by kernel_rfl, by kernel_rfl, by kernel_rfl, by kernel_rfl, by kernel_rfl, by kernel_rfl⟩

theorem collect {α : Type} {Q : Nat → α → Prop} : ∀ (n : Nat), (∀ i, i < n → ∃ o, Q i o) → ∃ l : List α, l.length = n ∧ ∀ i (h : i < l.length), Q i l[i]
  | 0, _ => ⟨[], rfl, fun i h => absurd h (by simp)⟩
  | n + 1, h => by
    obtain ⟨l, hl, hq⟩ := collect n (fun i hi => h i (by omega))
    obtain ⟨o, ho⟩ := h n (by omega)
    refine ⟨l ++ [o], by simp [hl], fun i hi => ?_⟩
    by_cases hin : i < l.length
    · rw [List.getElem_append_left hin]
      exact hq i hin
    · simp only [List.length_append, List.length_singleton] at hi
      have : i = n := by omega
      subst this
      rw [List.getElem_append_right (by omega)]
      simpa [hl] using ho

theorem bytes37 : Try.prog.bytesOf 37 = 56 := by kernel_rfl
theorem bytes5 : Try.prog.bytesOf 5 = 1 := by kernel_rfl

section
variable {H : Type} {enc : TypeId × Value → H} {W : World}

theorem open_bytes {n : Nat} {v : Value} {y : DataW H × List MemPlace} (h : DataW.trod enc Try.prog W 0 (fun _ => true) true n 22 [v] = some y) (hw : ∀ k ∈ y.1.weights Try.prog 22, k ≤ reachBytes) :
    ∃ (X : Option Addr) (c : Nat) (xs : List UInt8), v = .slice X xs.length c ∧ xs.length ≤ c ∧ xs.length ≤ 140737488351232 ∧ Reads W W.heap.size 1 X xs.length (bvs xs) := by
  rcases open_ints Try.underlying22 Try.underlying5 (by kernel_rfl) h with ⟨hcs, _⟩ | ⟨x, l, c, zs, hcs, _, hl, hm, hz, hx, hcell, hwz⟩
  · simp only [List.cons.injEq, and_true] at hcs
    exact ⟨none, 0, [], hcs, Nat.le_refl _, by simp, Reads.none_⟩
  · simp only [List.cons.injEq, and_true] at hcs
    obtain ⟨xs, hxl, hxc, hr⟩ := row_bytes (w := W) (a := some x) (len := l) (cap := c) (zs := zs) (.inr ⟨_, rfl, hl, hm, by simpa using hz, hcell, hwz⟩)
    refine ⟨some x, c, xs, by rw [hcs, hxl], hxc, ?_, hr⟩
    subst hx
    have hb := hw ((lits (H := H) .u8 (zs.take l)).length + (lits (H := H) .u8 (zs.drop l)).length) (by
      simp only [DataW.weights, Try.underlying22, bytes5, Nat.mul_one]
      exact List.mem_cons_self)
    simp only [lits, List.length_map, List.length_take, List.length_drop] at hb
    unfold reachBytes at hb
    have : zs.length = c := by simpa using hz
    omega

theorem open_op {a : Addr} {i n : Nat} {fs : Array Field} {ys : List (DataW H × List MemPlace)} (hs : Try.prog.underlying 37 = some (.struct fs)) (h5 : fs.size = 5) (t0 : (fs[0]?.map (·.type)) = some 3) (t1 : (fs[1]?.map (·.type)) = some 3)
    (t2 : (fs[2]?.map (·.type)) = some 22) (t3 : (fs[3]?.map (·.type)) = some 3) (t4 : (fs[4]?.map (·.type)) = some 5)
    (hw : ∀ k ∈ (DataW.agg (ys.map (·.1))).weights Try.prog 37, k ≤ reachBytes)
    (hf : ∀ (j : Nat) (f : Field), fs[j]? = some f → ∃ (v : Value) (y : DataW H × List MemPlace), W.cell? (a.add (i * fs.size + j)) = some v ∧ ys[j]? = some y ∧ DataW.trod enc Try.prog W 0 (fun _ => true) true n f.type [v] = some y) :
    ∃ o, OpAt W (a.add (i * 5)) o := by
  rw [h5] at hf
  obtain ⟨f0, e0, rfl0⟩ := Option.map_eq_some_iff.1 t0
  obtain ⟨f1, e1, rfl1⟩ := Option.map_eq_some_iff.1 t1
  obtain ⟨f2, e2, rfl2⟩ := Option.map_eq_some_iff.1 t2
  obtain ⟨f3, e3, rfl3⟩ := Option.map_eq_some_iff.1 t3
  obtain ⟨f4, e4, rfl4⟩ := Option.map_eq_some_iff.1 t4
  obtain ⟨v0, y0, c0, g0, h0⟩ := hf 0 f0 e0
  obtain ⟨v1, y1, c1, g1, h1⟩ := hf 1 f1 e1
  obtain ⟨v2, y2, c2, g2, h2⟩ := hf 2 f2 e2
  obtain ⟨v3, y3, c3, g3, h3⟩ := hf 3 f3 e3
  obtain ⟨v4, y4, c4, g4, h4⟩ := hf 4 f4 e4
  rw [rfl0] at h0
  rw [rfl1] at h1
  rw [rfl2] at h2
  rw [rfl3] at h3
  rw [rfl4] at h4
  obtain ⟨k, q0, _, wk⟩ := DataW.trod_int Try.underlying3 h0
  obtain ⟨s, q1, _, ws⟩ := DataW.trod_int Try.underlying3 h1
  obtain ⟨nn, q3, _, wn⟩ := DataW.trod_int Try.underlying3 h3
  obtain ⟨mk, q4, _, wm⟩ := DataW.trod_int Try.underlying5 h4
  simp only [List.cons.injEq, and_true] at q0 q1 q3 q4
  obtain ⟨m, rfl⟩ := byte_of wm
  obtain ⟨X, c, xs, rfl, hc, hl, hr⟩ := open_bytes h2 (fun k hk => hw k (by
    simp only [DataW.weights, hs]
    exact DataW.weights_mem_each (j := 2) (t := 22) (d := y2.1) (by simp [e2, rfl2]) (by simp [g2]) k hk))
  subst q0 q1 q3 q4
  have ad : ∀ j, (a.add (i * 5)).add j = a.add (i * 5 + j) := fun j => add_of_add _ _ _
  exact ⟨⟨k, s, xs, nn, m⟩, by rw [ad]; exact c0, by rw [ad]; exact c1, ⟨X, c, by rw [ad]; exact c2, hc, hl, hr⟩, by rw [ad]; exact c3, by rw [ad]; exact c4, bounds_i64 ws, bounds_i64 wn⟩

theorem open_ops {fuel : Nat} {cs : List Value} {x : DataW H × List MemPlace} (h : DataW.trod enc Try.prog W 0 (fun _ => true) true fuel 34 cs = some x) (hw : ∀ k ∈ x.1.weights Try.prog 34, k ≤ reachBytes) :
    ∃ (A : Option Addr) (cap : Nat) (ops : List OpD), cs = [.slice A ops.length cap] ∧ OpsAt W A ops := by
  obtain ⟨fs, hs, hone, hC, h5, t0, t1, t2, t3, t4⟩ := fields36
  rcases open_slice_fields Try.underlying34 hs hone hC h with ⟨hcs, _⟩ | ⟨a, len, cap, m, D, Pl, hcs, _, hl, hm, hmm, hx, hi⟩
  · exact ⟨none, 0, [], hcs, by simp, fun h => absurd h (by simp)⟩
  · simp only [if_true] at hmm
    subst hmm
    have each : ∀ i, i < len → ∃ o, OpAt W (a.add (i * 5)) o := by
      intro i hil
      obtain ⟨ys, n, hD, _, _, hf⟩ := hi i (by omega)
      refine open_op hs h5 t0 t1 t2 t3 t4 (fun k hk => hw k ?_) hf
      rw [hx, ← hD] at *
      simp only [DataW.weights, Try.underlying34, List.mem_cons, List.mem_append]
      refine .inr (.inl (weights_all (j := i) (d := D i) (by simp [hil]) k hk))
    obtain ⟨ops, hol, hop⟩ := collect len each
    subst hol
    refine ⟨some a, m, ops, hcs, ?_, fun hp => ?_⟩
    · have hb := hw ((((List.range ops.length).map D).length + ((List.range (m - ops.length)).map fun j => D (ops.length + j)).length) * 56) (by
        rw [hx]
        simp only [DataW.weights, Try.underlying34, bytes37]
        exact List.mem_cons_self)
      simp only [List.length_map, List.length_range] at hb
      unfold reachBytes at hb
      omega
    · have h0 := hop 0 hp
      obtain ⟨b, off, spot⟩ := a
      have hspot : spot = none := by
        have := World.cell?_spot h0.1
        simpa [Addr.add] using this
      subst hspot
      refine ⟨b, off, rfl, ?_, fun i hi => ?_⟩
      · have := World.block_lt_of_cell? W _ h0.1
        rwa [block_of_add, block_of_add] at this
      · have := hop i hi
        rwa [Addr.add_lit] at this
end

end Go.Proofs.Ytchchgdkejolaaa
