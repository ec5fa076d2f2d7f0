/- A region that draws its order: facts held until one operation comes up which waits, by way of others, for the operation that is taken first. -/
import Derived.Test.YtfnfjfcncijapaaGreatDoorUntil
import Derived.Test.YtfnfjfcncijapaaGreatDoorSetC
namespace Go.Proofs.YtfnfjfcncijapaaGreatDoor

section
variable {P : Program} {ops : Array Oper} {Q : Exit → Act → World → Prop} {md : Region.Mode} {S : World → Prop} {t : Nat}
theorem wpAnyU_firstD {i : Nat} {oi : Oper} {v : Value} (D : List Nat) (hi : ops[i]? = some oi) (hsel : ∀ (j : Nat) (o : Oper) cs b, ops[j]? = some o → o.op ≠ .select cs b)
    (hQ : ∀ c a w, Q (.panic c) (a.put oi.dst v) w → Q (.panic c) a w) (hD : ∀ q ∈ D, ∃ o, ops[q]? = some o ∧ ∃ e ∈ o.after, Region.binds md e = true ∧ (e.on = i ∨ e.on ∈ D)) (htD : t ∈ D) (hiD : i ∉ D) :
    ∀ (fuel : Nat) (listed : Array Bool) (a : Act) (w : World),
      (∀ j oj, ops[j]? = some oj → j ≠ i → listed.getD j true = false → (∀ e ∈ oj.after, Region.binds md e = true → e.on ≠ i) → oi.apart ops oj = true) →
      i ∈ Region.ready md ops listed → (∀ q ∈ D, listed.getD q true = false) → YieldsIf P ops S oi v a → S w →
      wpAnyU P md ops Q S t fuel (listed.setIfInBounds i true) (a.put oi.dst v) w → wpAnyU P md ops Q S t (fuel + 1) listed a w := by
  have hti : t ≠ i := fun e => hiD (e ▸ htD)
  intro fuel
  induction fuel with
  | zero =>
    intro listed a w _ hr _ hy hS H
    refine ⟨fun h => (by rw [h] at hr; cases hr), fun j hj => ?_⟩
    by_cases hji : j = i
    · subst hji; exact hy.wpOp hi hS ⟨fun _ => hS, H⟩
    · have := ready_mono hj hji
      rw [H.1] at this
      cases this
  | succ fuel ih =>
    intro listed a w hfree hr hDl hy hS H
    refine ⟨fun h => (by rw [h] at hr; cases hr), fun j hj => ?_⟩
    by_cases hji : j = i
    · subst hji; exact hy.wpOp hi hS ⟨fun _ => hS, H⟩
    · have h1 := H.2 j (ready_mono hj hji)
      obtain ⟨hjun, oj, hoj, hall⟩ := mem_ready.1 hj
      have notOn : ∀ q, listed.getD q true = false → ∀ e ∈ oj.after, Region.binds md e = true → e.on ≠ q := fun q hq e he hb heq => by
        have h1 := hall e he hb
        rw [heq] at h1
        rcases Nat.lt_or_ge q listed.size with hlt | h'
        · simp [hlt] at h1 hq
          rw [hq] at h1
          cases h1
        · simp [Array.getElem?_eq_none h'] at hq
      have hil : listed.getD i true = false := (mem_ready.1 hr).1
      have hnot := notOn i hil
      have hjD : j ∉ D := fun hjd => by
        obtain ⟨o, ho, e, he, hb, hon⟩ := hD j hjd
        rw [hoj] at ho
        injection ho with ho
        subst ho
        rcases hon with hon | hon
        · exact hnot e he hb hon
        · exact notOn _ (hDl _ hon) e he hb rfl
      have hjt : j ≠ t := fun e => hjD (e ▸ htD)
      have h2 := wpOp_putIf hoj (hfree j oj hoj hji hjun hnot) (fun cs b => hsel i oi cs b hi) (fun cs b => hsel j oj cs b hoj) hQ hy h1
      have hfree' : ∀ k ok, ops[k]? = some ok → k ≠ i → (listed.setIfInBounds j true).getD k true = false →
          (∀ e ∈ ok.after, Region.binds md e = true → e.on ≠ i) → oi.apart ops ok = true := fun k ok hk hki hun hno => by
        refine hfree k ok hk hki ?_ hno
        by_cases hjk : j = k
        · subst hjk; exact hjun
        · rw [getD_set_ne true hjk] at hun; exact hun
      have hDl' : ∀ q ∈ D, (listed.setIfInBounds j true).getD q true = false := fun q hq => by
        rw [getD_set_ne true (show j ≠ q from fun e => hjD (by rw [e]; exact hq))]; exact hDl q hq
      refine wpOp_mono (fun a' w' h3 => ?_) h2
      have hS' : S w' := h3.2.1 (by rw [getD_set_ne true hjt, getD_set_ne true (Ne.symm hti)]; exact hDl t htD)
      refine ⟨fun _ => hS', ih (listed.setIfInBounds j true) a' w' hfree' (ready_mono hr (Ne.symm hji)) hDl' h3.1 hS' ?_⟩
      rw [Array.setIfInBounds_comm _ _ hji]
      exact h3.2.2
/-- Take number i first; number t waits for it by way of the operations in D. -/
theorem wpAnyU_takeD {i : Nat} (D : List Nat) {oi : Oper} {v : Value} {fuel : Nat} {listed : Array Bool} {a : Act} {w : World} (hi : ops[i]? = some oi)
    (hs : Region.noSelect ops = true) (hf : Region.free md ops listed i = true) (hr : (Region.ready md ops listed).contains i = true)
    (hD : (D.all (fun q => (ops[q]?.map (fun o => o.after.any (fun e => Region.binds md e && (e.on == i || D.contains e.on)))) == some true)) = true)
    (htl : (D.contains t && !D.contains i && D.all (fun q => listed.getD q true == false)) = true)
    (hQ : ∀ c a w, Q (.panic c) (a.put oi.dst v) w → Q (.panic c) a w) (hy : YieldsIf P ops S oi v a) (hS : S w)
    (h : wpAnyU P md ops Q S t fuel (listed.setIfInBounds i true) (a.put oi.dst v) w) : wpAnyU P md ops Q S t (fuel + 1) listed a w := by
  simp only [Bool.and_eq_true, List.contains_iff_mem, Bool.not_eq_true', List.all_eq_true, beq_iff_eq] at htl
  obtain ⟨⟨h1, h2⟩, h3⟩ := htl
  refine wpAnyU_firstD D hi (Region.noSelect_spec hs) hQ (fun q hq => ?_) h1 (fun hm => by rw [← List.contains_iff_mem, h2] at hm; cases hm) fuel listed a w (Region.free_spec hi hf) (by simpa using hr) h3 hy hS h
  have h4 := List.all_eq_true.1 hD q hq
  simp only [beq_iff_eq] at h4
  obtain ⟨o, ho, ha⟩ := Option.map_eq_some_iff.1 h4
  rw [Array.any_eq_true'] at ha
  obtain ⟨e, he, hb⟩ := ha
  simp only [Bool.and_eq_true, Bool.or_eq_true, beq_iff_eq, List.contains_iff_mem] at hb
  exact ⟨o, ho, e, he, hb.1, hb.2⟩
end

end Go.Proofs.YtfnfjfcncijapaaGreatDoor

namespace Go.Proofs.YtfnfjfcncijapaaGreatDoor
open Go.RowKit Go.Shelf
attribute [local go_sem] Oper.semAt_some

def DeclPost (d : SetD) (B : Nat) (w : World) (e : Ending) (w' : World) : Prop := ∃ nm qs vs vl, e = .returned (.agg (d.cells nm qs vs)) ∧ RowsAt w' B d nm qs vs vl ∧ Kept (fun k => B ≤ k) w w'
theorem results_decl {tmps : Array Value} {W : World} {n : Nat} {cs : Array Value} (hz : cs.size = 12) (h2 : tmps.getD 4 undef = .pointer (some ⟨n, 0, none⟩)) (hb : Blk W n 63 cs) :
    (results Tryz.f52 tmps).run Tryz.prog W = .ok (.agg cs) W := by
  have hf : Tryz.f52.results = #[.cell 4 63] := Tryz.results52
  have hl := run_loadVar_row (P := Tryz.prog) W n 63 63 cs (0, 0) _ hb Tryz.underlying63 rfl (by rw [hz]; kernel_rfl)
  simp only [Array.getD_eq_getD_getElem?] at h2
  simp only [results, hf]
  simp [h2, asAddr, hl]
theorem own_not {w : World} {pb : Nat} {t : TypeId} {cs : Array Value} {B z n : Nat} {e : TypeId} {v : Value} {xs : List Value} (hb : Blk w pb t cs) (h : w.ownsRow B e z v n xs) (hne : e ≠ t) : v.ownBlock ≠ some pb := by
  rcases h.2 with ⟨rfl, _⟩ | ⟨g, cap, cur, rfl, _, hg, _⟩
  · simp [Value.ownBlock]
  · simp only [Value.ownBlock, ne_eq, Option.some.injEq]
    rintro rfl
    unfold Blk at hb
    rw [hb] at hg
    injection hg with h1
    injection h1 with _ h2
    exact hne h2.symm
/-- No writers lie in block p. -/
def Away (vl : List (VaultD × Option Addr × Nat)) (p : Nat) : Prop := ∀ x ∈ vl, ∀ ad, x.2.1 = some ad → 0 < x.1.writers.length → ad.block ≠ p
theorem RowsAt.away {w : World} {B : Nat} {d : SetD} {nm qs vs : Value} {vl : List (VaultD × Option Addr × Nat)} (h : RowsAt w B d nm qs vs vl) {p : Nat} (hp : w.heap.size ≤ p) : Away vl p := fun x hx ad e h0 he => by
  obtain ⟨ad', e', hb, _⟩ := (h.n4 x hx).1.2 h0
  rw [e] at e'
  injection e' with e'
  subst e'
  omega
theorem RowsAt.boxed {w w' : World} {B pb : Nat} {cs : Array Value} {d : SetD} {nm qs vs : Value} {vl : List (VaultD × Option Addr × Nat)} (h : RowsAt w B d nm qs vs vl) (k : Kept (fun b => b = pb) w w') (hb : Blk w pb 63 cs) (ha : Away vl pb) : RowsAt w' B d nm qs vs vl where
  n0 := h.n0
  n1 := k.own h.n1 (fun g hg e => own_not hb h.n1 (by decide) (by rw [hg, show g = pb from e]))
  n2 := k.own h.n2 (fun g hg e => own_not hb h.n2 (by decide) (by rw [hg, show g = pb from e]))
  n3 := k.own h.n3 (fun g hg e => own_not hb h.n3 (by decide) (by rw [hg, show g = pb from e]))
  n4 := fun x hx => ⟨k.src (h.n4 x hx).1 (fun ad e hp hf => ha x hx ad e hp hf), (h.n4 x hx).2⟩
theorem RowsAt.put2 {w : World} {B : Nat} {d : SetD} {nm qs : Value} {vl : List (VaultD × Option Addr × Nat)} {l : List VaultD} {v v' : VaultD} {g n cap : Nat} (us : List (Nat × Value)) (h : RowsAt w B d nm qs (.slice (some ⟨g, 0, none⟩) n cap) vl) (hd : d.vaults = l ++ [v]) (hn : n = l.length + 1) (hw : v'.writers = v.writers)
    (hc : ∀ A c, us.foldl (fun L p => L.set p.1 p.2) (vcell v A c) = vcell v' A c) :
    ∃ vl', RowsAt (us.foldl (fun W p => W.setCell ⟨g, l.length * 15 + p.1, none⟩ p.2) w) B { d with vaults := l ++ [v'] } nm qs (.slice (some ⟨g, 0, none⟩) n cap) vl' ∧
      Kept (fun b => b = g) w (us.foldl (fun W p => W.setCell ⟨g, l.length * 15 + p.1, none⟩ p.2) w) ∧ ∀ p, Away vl p → Away vl' p := by
  have hlen : d.vaults.length = n := by rw [hd, hn]; simp
  have hvl : vl ≠ [] := fun e => by have := h.n0; rw [e, hd] at this; simp at this
  obtain ⟨vl0, x, hx⟩ : ∃ vl0 x, vl = vl0 ++ [x] := by
    rcases List.eq_nil_or_concat vl with e | ⟨a, b, e⟩
    · exact absurd e hvl
    · exact ⟨a, b, by rw [e, List.concat_eq_append]⟩
  subst hx
  obtain ⟨xv, A, c⟩ := x
  have h0 := h.n0
  rw [hd, List.map_append] at h0
  have h01 := List.append_inj' h0 rfl
  have hvx : xv = v := by simpa using h01.2
  subst hvx
  have hl0 : vl0.length = l.length := by have := congrArg List.length h01.1; simpa using this
  have own := h.n3
  rw [hlen, vcells_snoc] at own
  have lz : (vcells vl0).length = l.length * 15 := by rw [vcells_length, hl0]
  have o4 := own_sets lz us own
  rw [hc] at o4
  have kk := kept_puts (m := l.length * 15) (Kept.refl (fun b => b = g) w) us
  refine ⟨vl0 ++ [(v', A, c)], ⟨?_, kk.own h.n1 (fun b hb e => ?_), kk.own h.n2 (fun b hb e => ?_), ?_, fun y hy => ?_⟩, kk, fun p hp y hy => ?_⟩
  · simp [h01.1]
  · subst e; exact own_ne h.n1 h.n3 (by decide) hb rfl
  · subst e; exact own_ne h.n2 h.n3 (by decide) hb rfl
  · dsimp only
    rw [vcells_snoc, List.length_append, List.length_singleton, ← hn]
    exact o4
  · have hy' : WAt w B nm qs (.slice (some ⟨g, 0, none⟩) n cap) y := by
      rcases List.mem_append.1 hy with h1 | h1
      · exact h.n4 y (List.mem_append_left _ h1)
      · rw [List.mem_singleton.1 h1]
        have := h.n4 (xv, A, c) (List.mem_append_right _ (by simp))
        unfold WAt at this ⊢
        dsimp only at this ⊢
        rw [hw]
        exact this
    exact ⟨kk.src hy'.1 (fun ad e hp hf => (hy'.2 ad e hp).2.2.2 (by simp [Value.ownBlock, hf])), hy'.2⟩
  · rcases List.mem_append.1 hy with h1 | h1
    · exact hp y (List.mem_append_left _ h1)
    · rw [List.mem_singleton.1 h1]
      have := hp (xv, A, c) (List.mem_append_right _ (by simp))
      dsimp only at this ⊢
      rw [hw]
      exact this
theorem decl_slen {w : World} {B : Nat} {d : SetD} {nm qs vs : Value} {vl : List (VaultD × Option Addr × Nat)} (h : RowsAt w B d nm qs vs vl) : d.vaults.length ≤ 9223372036854775807 := by
  rcases h.n3.2 with ⟨_, h0⟩ | ⟨g, cap, cur, _, _, _, h1, h2, _⟩
  · omega
  · unfold maxLen at h2; omega
theorem decl_wrap {n : Nat} (h : n ≤ 9223372036854775807) : IntKind.i64.wrap ((n : Int) - 1) = (n : Int) - 1 := IntWalk.i64_in _ (by omega)
theorem rkept_puts0 {F : Nat → Prop} {w w' : World} (h : Kept F w w') (n : Nat) (hn : F n) (l : List (Nat × Value)) : Kept F w (l.foldl (fun W p => W.setCell ⟨n, p.1, none⟩ p.2) w') := by
  induction l generalizing w' with
  | nil => exact h
  | cons p l ih => exact ih (h.setCell (p := ⟨n, p.1, none⟩) (.inl hn) p.2)
theorem rblk_puts {w : World} {n : Nat} {t : TypeId} {cs : Array Value} (h : Blk w n t cs) (l : List (Nat × Value)) : Blk (l.foldl (fun W p => W.setCell ⟨n, p.1, none⟩ p.2) w) n t (l.foldl (fun c p => c.setIfInBounds p.1 p.2) cs) := by
  induction l generalizing w cs with
  | nil => exact h
  | cons p l ih => exact ih (h.set_ p.1 p.2)
def rsetList (d : SetD) (nm qs vs : Value) : List (Nat × Value) := [(0, nm), (1, qs), (2, vs), (3, .int .i64 d.quorum), (4, .string (ba d.seed)), (5, .int .i64 d.bits), (6, .int .i64 d.height), (7, .int .i64 d.sectors), (8, .int .i64 d.size), (9, .int .i64 d.day), (10, .int .i64 d.leap), (11, .int .i64 d.agree)]
theorem rsetList_cells (d f : SetD) (nm qs vs nm' qs' vs' : Value) : (rsetList d nm qs vs).foldl (fun c p => c.setIfInBounds p.1 p.2) (f.cells nm' qs' vs') = d.cells nm qs vs := by
  simp only [rsetList, SetD.cells, List.foldl_cons, List.foldl_nil, List.setIfInBounds_toArray, List.set_cons_zero, List.set_cons_succ]
theorem Kept.below_mono {B : Nat} {w W : World} (k : Kept NoF w W) : Kept (fun b => B ≤ b) w W := k.mono (fun _ h => h.elim)

end Go.Proofs.YtfnfjfcncijapaaGreatDoor

