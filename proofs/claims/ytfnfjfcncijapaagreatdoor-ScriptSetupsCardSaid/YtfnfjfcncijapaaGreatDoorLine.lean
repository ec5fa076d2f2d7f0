/- script.parser.line (printed by genline.py). -/
import Derived.Test.YtfnfjfcncijapaaGreatDoorLineA
import Derived.Maps.OwnIn
import Derived.Test.YtfnfjfcncijapaaGreatDoorUntil
namespace Go.Proofs.YtfnfjfcncijapaaGreatDoor
open Go.RowKit Go.Shelf
attribute [local go_sem] Oper.semAt_some

set_option maxHeartbeats 400000 in
theorem needsVault_any (cmd : ByteArray) (A : Option Addr) (n c : Nat) (w : World) :
    Calls Tryz.prog 50 #[.agg #[.string cmd, .slice A n c]] w fun e w' => e = .returned (.bool (needsV cmd.data.toList)) ∧ Below w.heap.size w w' := by
  unfold needsV
  rw [← Lib.toList_data]
  cases h1 : (cmd.toList == ([99, 117, 116, 116, 105, 110, 103] : List UInt8)) <;> cases h2 : (cmd.toList == ([114, 117, 108, 101, 115] : List UInt8))
  all_goals
    go_enter Tryz.func50, Tryz.ntmps50
    go_wp2
    go_ret
    exact ⟨rfl, (Below.refl _ _).alloc (Nat.le_refl _) _⟩

theorem info9 : (Tryz.prog.info? 9).map (fun i => (i.zero, i.size, i.bytes)) = some (some (.string ⟨#[]⟩), 1, 16) := by kernel_rfl
theorem info45 : (Tryz.prog.info? 45).map (fun i => (i.zero, i.size, i.bytes)) = some (some (.agg #[.string ⟨#[]⟩, .slice none 0 0]), 2, 40) := by kernel_rfl

theorem words_length (s : ByteArray) : (wordsOf s.data.toList).length ≤ s.size + 1 := by
  unfold wordsOf
  have h1 := List.length_filter_le (fun p : List UInt8 => !p.isEmpty) (parts 32 s.data.toList)
  have h2 := parts_length 32 s.data.toList
  rw [size_list]
  omega
theorem strs_snoc {l : List (List UInt8)} {i : Nat} (h : i < l.length) : strs (l.take (i + 1)) = strs (l.take i) ++ [.string (ba l[i])] := by
  unfold strs; rw [List.take_succ_eq_append_getElem h, List.map_append]; rfl

/-- Behind 'list[1:]'. -/
def RestCut (W : World) (sb : Nat) (r : List (List UInt8)) (s33 s34 s35 : Value) (wx : World) : Prop :=
  ∃ X cx, s33 = .slice X r.length cx ∧ StrsAt W X r ∧ (∀ ad, X = some ad → 0 < r.length → ad.block ≠ sb) ∧ s34 = .int .i64 (r.length : Int) ∧ s35 = .int .i64 0 ∧ W = wx
theorem rest_at {W : World} {ab ao cp sb : Nat} {c : List UInt8} {r : List (List UInt8)} (h : StrsAt W (some ⟨ab, ao, none⟩) (c :: r)) (_hc : r.length + 1 ≤ cp) (hne : ab ≠ sb) :
    (StrsAt W (some ⟨ab, ao + 1, none⟩) r) ∧ (∀ ad, some (⟨ab, ao + 1, none⟩ : Addr) = some ad → 0 < r.length → ad.block ≠ sb) := by
  refine ⟨⟨by rw [strs_length]; omega, fun hp => ⟨_, rfl, ?_, fun j u hu => ?_⟩⟩, fun ad e _ => by injection e with e; subst e; exact hne⟩
  · obtain ⟨ad, e, hb, _⟩ := h.2 (by simp)
    injection e with e
    subst e
    exact hb
  · obtain ⟨ad, e, _, hcell⟩ := h.2 (by simp)
    injection e with e
    subst e
    have := hcell (j + 1) u (by simpa [strs] using hu)
    rw [Addr.add_lit] at this ⊢
    rw [Nat.add_assoc, Nat.add_comm 1 j]
    exact this

def LinePost (F : Nat → Prop) (lo pb : Nat) (r : PD × Int) (w : World) (e : Ending) (w' : World) : Prop :=
  e = .returned (.int .i64 r.2) ∧ (∃ G : Nat → Prop, PAt w' G lo pb r.1 ∧ ∀ k, G k → F k ∨ w.heap.size ≤ k) ∧ Kept F w w'
theorem grownBy_setCell1 (W : World) (b i : Nat) (v : Value) : W.grownBy (W.setCell ⟨b, i, none⟩ v) (some b) :=
  ⟨rfl, rfl, rfl, by simp [World.setCell], fun k _ hk => Below.heap_setCell _ _ _ k (fun e => hk (by rw [e]))⟩
/-- The arguments read so far. -/
def ArgsRel (W3 : World) (sb : Nat) (c : List UInt8) (r : List (List UInt8)) (i : Value) (wr : World) : Prop :=
  ∃ (j : Nat) (acc : List (List UInt8)) (av : Value), j ≤ r.length ∧ i = .int .i64 (j : Int) ∧ argsOf (r.take j) = some acc ∧ (∀ a ∈ acc, a.length ≤ 65536) ∧ Blk wr sb 45 #[.string (ba c), av] ∧ wr.ownsRow 0 9 1 av acc.length (strs acc) ∧ (∀ g, av.ownBlock = some g → W3.heap.size ≤ g) ∧ Kept (fun k => k = sb) W3 wr

theorem add_steps (P : PD) (c : List UInt8) (args : List (List UInt8)) : (P.add c args).steps = P.steps ++ [⟨c, args⟩] := by unfold PD.add; split <;> rfl
theorem add_decl {P : PD} {c : List UInt8} {args : List (List UInt8)} (h : kindS c args = 1) : (P.add c args).vaults = (if isVault c = true then P.vaults + 1 else P.vaults) ∧ (P.add c args).begun = P.begun := by unfold PD.add; rw [if_pos h]; exact ⟨rfl, rfl⟩
theorem add_other {P : PD} {c : List UInt8} {args : List (List UInt8)} (h : kindS c args ≠ 1) : (P.add c args).vaults = P.vaults ∧ (P.add c args).begun = true := by unfold PD.add; rw [if_neg h]; exact ⟨rfl, rfl⟩

/-- Behind the switch over the kind. -/
def SwCut (wk : World) (pb : Nat) (v : Value) (P1 : PD) (G : Unit → Prop) (_s4 : Value) (wx : World) : Prop :=
  G () ∧ Blk wx pb 73 #[v, .int .i64 (P1.vaults : Int), .bool P1.begun] ∧ Kept (fun k => k = pb) wk wx

/-- A way out that leaves what was read as it was. -/
theorem line_end {F : Nat → Prop} {lo pb D : Nat} {P : PD} {s : List UInt8} {w W : World} {k : Int} {e : Ending} (hP : PAt w F lo pb P) (hw : Below w.heap.size w W) (hl : lineS P s = (P, k)) (hD : w.heap.size ≤ D) (he : e = .returned (.int .i64 k)) :
    LinePost F lo pb (lineS P s) w e (W.putObj D (.deferred none)) := by
  have b : Below w.heap.size w (W.putObj D (.deferred none)) := Below.after hw (Kept.putObj (S := fun x => x = D) _ rfl) (fun x hx => by omega) (Nat.le_refl _)
  have h := hP.later b
  rw [hl]
  exact ⟨he, ⟨F, h.1, fun _ h => .inl h⟩, h.2⟩

/-- The list of words collected so far. -/
def Coll (w : World) (ws : List (List UInt8)) (S : Nat → Prop) (i : Nat) (W : World) : Prop :=
  ∃ v, Blk W w.heap.size 37 #[v] ∧ W.ownsRow w.heap.size 9 1 v i (strs (ws.take i)) ∧ (∀ g, v.ownBlock = some g → ¬ S g) ∧ Below w.heap.size w W

theorem words_le (s : ByteArray) : ∀ x ∈ wordsOf s.data.toList, x.length ≤ s.size := fun x hx => by
  rw [size_list]
  exact parts_mem_le (List.mem_filter.1 hx).1

set_option maxHeartbeats 4000000 in
set_option maxRecDepth 100000 in
theorem line_any {F : Nat → Prop} {lo pb : Nat} {P : PD} (s : ByteArray) (w : World) (hE : Env w) (hs : s.size ≤ 65536) (hP : PAt w F lo pb P) (hn1 : P.steps.length ≤ 100000) (hn2 : P.vaults ≤ 100000) (hlo : lo ≤ w.heap.size) :
    Calls Tryz.prog 30 #[.pointer (some ⟨pb, 0, none⟩), .string s] w (LinePost F lo pb (lineS P s.data.toList) w) := by
  refine calls_marks Tryz.func30 rfl ?_
  simp only [Tryz.ntmps30, List.size_toArray, List.length_cons, List.length_nil, Nat.reduceAdd, Nat.reduceSub, Array.replicate_succ, Array.replicate_zero, List.push_toArray, List.append_toArray, List.nil_append, List.cons_append]
  go_wp2_with fail
  refine (words_call s _).mono ?_
  rintro e w2 ⟨rfl, hw2⟩
  go_wp2_with fail
  have bl : Blk w2 w.heap.size 37 #[.slice none 0 0] := by rw [← hw2]; exact (Blk.new w 37 _).alloc _
  have bs : Blk w2 (w.heap.size + 1) 9 #[.string s] := by
    rw [← hw2]
    have := Blk.new (w.alloc (.cells #[.slice none 0 0] 37)) 9 #[.string s]
    rwa [World.size_alloc] at this
  have k2 : Kept NoF w w2 := by rw [← hw2]; exact ((Kept.refl _ _).alloc _).alloc _
  have hsz : w2.heap.size = w.heap.size + 2 := by rw [← hw2]; simp
  have b2 : Below w.heap.size w w2 := k2.below (Nat.le_refl _) (fun _ h => h.elim)
  have HSZ := Lib.hid hsz
  clear hsz hw2
  have hpr : ∀ k, Priv w2.heap.size (WordB (w2.heap.size + 2)) k → w.heap.size + 1 < k := fun k hk => by
    have := HSZ.out
    rcases hk with h | h | h
    · omega
    · omega
    · unfold WordB at h; omega
  have hwl := words_length s
  refine wp_rangeP (gf := 88) (lb := #[.pointer (some ⟨w.heap.size + 1, 0, none⟩)]) (vs := (wordsOf s.data.toList).map (fun p => #[.string (ba p)])) (S := WordB (w2.heap.size + 2)) rfl (enters_of Tryz.func88 (by kernel_rfl) rfl)
    (fun r => by
      have := words_iter (w.heap.size + 1) s ((w2.alloc (.deferred (some []))).alloc (.loop r)) ((bs.alloc _).alloc _) (by omega)
      rwa [World.size_alloc, World.size_alloc] at this) ?hS ?hps
    (Coll w (wordsOf s.data.toList) (Priv w2.heap.size (WordB (w2.heap.size + 2)))) (fun _ _ _ => False) ?hI ?hIx ?h0
    (fun i => { tmps := #[.pointer (some ⟨pb, 0, none⟩), .string s, undef, undef, .int .i64 0, .pointer (some ⟨w.heap.size, 0, none⟩), .string (ba ((wordsOf s.data.toList).getD i [])), undef, undef, undef, undef, undef, .string s, .func (.func 88) #[] #[.pointer (some ⟨w.heap.size + 1, 0, none⟩)], .string (ba ((wordsOf s.data.toList).getD i [])), undef, undef, undef, undef, undef, undef, undef, undef, undef, undef, undef, undef, undef, undef, undef, undef, undef, undef, undef, undef, undef, undef, undef, undef, undef, undef, undef, undef, undef, undef, undef, undef, undef, undef, undef, undef, undef, undef, undef, undef, undef, undef, undef, undef, undef, undef, undef, undef, undef, undef, undef, undef, undef, undef, undef, undef, undef, undef, undef, undef, undef, undef, undef, undef, undef, undef, undef, undef, undef, undef, undef, undef, undef, undef, undef, undef, undef, undef, undef, undef, undef, undef], defers := [] }) ?hassign ?hbody ?hdone ?hstop
  case hS =>
    intro k hk
    unfold WordB at hk
    omega
  case hps =>
    intro v hv
    obtain ⟨p, _, rfl⟩ := List.mem_map.1 hv
    rfl
  case hI =>
    rintro i X Y ⟨v, hb, ho, hg, hw⟩ hk
    exact ⟨v, hk.blk hb (fun h => by have := hpr _ h; omega), hk.own ho hg, hg, Below.after hw hk (fun x hx => by have := hpr _ hx; omega) (Nat.le_refl _)⟩
  case hIx => intro c i X Y h _; exact h
  case h0 => exact ⟨_, bl, World.ownsRow_nil _ _ _ _, fun g hg => by simp [Value.ownBlock] at hg, b2⟩
  case hassign =>
    intro l' i h Wc K hK
    have hlen : i < (wordsOf s.data.toList).length := by simpa using h
    have hg : (wordsOf s.data.toList).getD i [] = (wordsOf s.data.toList)[i] := by simp [hlen]
    rw [hg] at hK
    simp only [List.getElem_map]
    generalize (wordsOf s.data.toList)[i] = p at hK ⊢
    gi_wp2
    exact hK
  case hbody =>
    rintro l' i h Wc ⟨v, hb, ho, hg, hw⟩ hlt
    have hlen : i < (wordsOf s.data.toList).length := by simpa using h
    have hgd : (wordsOf s.data.toList).getD i [] = (wordsOf s.data.toList)[i] := by simp [hlen]
    have hfn' : ∀ f, (Fence.wide.inRound l').fn f := fun _ => trivial
    have hdp' : (Fence.wide.inRound l').depth = none := rfl
    have HST := Lib.hid (strs_snoc hlen)
    rw [hgd]
    clear hgd
    generalize (wordsOf s.data.toList)[i] = p at HST ⊢
    have hc : Wc.cell? ⟨w.heap.size, 0, none⟩ = some v := (hb.cell 0).trans rfl
    have hws : w.heap.size ≤ Wc.heap.size := hw.size
    obtain ⟨i0, hi, hz0, hz1, hz2⟩ := info_parts info9
    gi_wp2_with (gi_at_builtin; go_must (refine wpListIn_append_own_at _ rfl _ _ 37 rfl w.heap.size 9 i0 (.string ⟨#[]⟩) 1 16 Tryz.underlying37 hi hz0 hz1 hz2 rfl (by decide) _ _ _ rfl (ho.alloc _) ⟨Wc.heap.size, 0, none⟩ 1 1 [.string (ba p)] rfl rfl ?c1 ?c2 ?c3 ?c4 ?c5 ?_))
    case c1 => exact cell_one_new _ _ _
    case c2 => intro u hu; simp at hu; subst hu; rfl
    case c3 => unfold maxLen; omega
    case c4 => omega
    case c5 => simp; omega
    intro v' w1 hown' hgrow _ hat
    obtain ⟨g', cap', rfl⟩ := ownsRow_succ hown'
    have hbn := hb.alloc (.cells #[.string (ba p)] 9)
    have hne : v.ownBlock ≠ some w.heap.size := own_blk_ne ho hb (by decide)
    have hb1 := hbn.grown hgrow (Ne.symm hne)
    have c1 : w1.cell? ⟨w.heap.size, 0, none⟩ = some v := (hb1.cell 0).trans rfl
    have f1 := hb1.frozen 0
    have s1 : Same (Priv w2.heap.size (WordB (w2.heap.size + 2))) Wc w1 := ⟨Nat.le_trans (by simp) hgrow.size, fun k hk => (hgrow.block k (by have := hlt k hk; simp; omega) (fun e => hg k e.symm hk)).trans (Below.heap_alloc _ _ _ (hlt k hk))⟩
    have bw1 : Below w.heap.size w w1 := (hw.alloc hws _).grown hgrow (by simp; omega) (fun k hk => (ho.lt k hk).1)
    gi_wp2
    refine ⟨s1.trans ⟨by simp [World.setCell], fun k hk => Below.heap_setCell _ _ _ k (by have := hpr _ hk; simp; omega)⟩, _, hb1.set_ 0 _, ?_, ?_, bw1.setCell (p := ⟨w.heap.size, 0, none⟩) (Nat.le_refl _) _⟩
    · rw [HST.out]
      exact hown'.kept (grownBy_setCell' _ _ _) (.inr (own_blk_ne hown' hb1 (by decide)))
    · intro g hgg
      rcases hat with h | h
      · rw [hgg] at h; exact hg g h.symm
      · rw [hgg] at h
        injection h with h
        intro hp
        have := hlt g hp
        have := World.size_alloc Wc (.cells #[.string (ba p)] 9)
        omega
  case hdone =>
    rintro W ⟨v, hb, ho, hg, hw⟩ hD
    have hpbD : w.heap.size ≤ w2.heap.size := by have := HSZ.out; omega
    rw [List.length_map] at ho
    rw [List.take_length] at ho
    have hc : W.cell? ⟨w.heap.size, 0, none⟩ = some v := (hb.cell 0).trans rfl
    obtain ⟨A, cp, rfl, hcp, hof⟩ := own_form ho
    clear hof
    have hA : StrsAt W A (wordsOf s.data.toList) := Reads.of_own ho
    have hEW := hE.later hw
    generalize hws : wordsOf s.data.toList = ws at hwl hA ho hc hb hcp ⊢
    have HWS := Lib.hid hws
    clear hws bl bs k2 b2
    rcases ws with _ | ⟨c, r⟩
    · go_wp2_with fail
      refine ⟨by simp, .inl ⟨_, _, rfl, run_takeDeferred hD, ?_⟩⟩
      exact ⟨_, results_tmp rfl _ _ _, line_end hP hw (lineS_nil HWS.out) hpbD rfl⟩
    · obtain ⟨ab, ao, rfl, hab, hc0⟩ := hA.at_ (k := 0) (by simp)
      simp only [List.length_cons] at hc hwl hcp
      have i1 : (0 : Int) < (r.length : Int) + 1 := by omega
      have i2 : 0 < r.length + 1 := by omega
      have hl1 : (((r.length : Int) + 1) == 0) = false := by simp; omega
      simp only [Nat.add_zero, List.getElem_cons_zero] at hc0
      have CH := Tryz.strings_HasPrefix (ba c) ⟨#[35]⟩ W
      rw [ba_toList] at CH
      have HCH := Lib.hid CH
      clear CH
      generalize hhp : Lib.hasPrefix c (⟨#[35]⟩ : ByteArray).data.toList = hp at HCH
      have HHP := Lib.hid hhp
      clear hhp
      go_wp2_with fail
      refine HCH.out.mono ?_
      clear HCH
      rintro e W' ⟨rfl, rfl⟩
      cases hp
      · go_upto_region 8 with fail
        have bsb := Blk.new W' 45 #[.string (ba c), .slice none 0 0]
        have k3 := (Kept.refl NoF W').alloc (.cells #[.string (ba c), .slice none 0 0] 45)
        generalize W'.alloc (.cells #[.string (ba c), .slice none 0 0] 45) = W3 at bsb k3 ⊢
        have hc3 := k3.cell hc (fun h => h)
        have hA3 : StrsAt W3 (some ⟨ab, ao, none⟩) (c :: r) := k3.src hA (fun _ _ _ h => h)
        have hab' : ab ≠ W'.heap.size := by omega
        generalize hsb : W'.heap.size = sb at bsb hab' ⊢
        have HSB := Lib.hid hsb
        clear hsb
        have hrest := Reads.cut (k := 1) (cap := cp) hA3 (by simp) (by simpa using hcp)
        have hX0 := rest_at hA3 hcp hab'
        go_cut [33, 34, 35] from 32 to 35 (RestCut W3 sb r)
        case first =>
          clear hrest
          by_cases hcp1 : cp = 1
          · have hr0 : r = [] := List.eq_nil_of_length_eq_zero (by omega)
            subst hcp1 hr0
            go_wp2_with fail
            go_meet
            exact ⟨_, _, rfl, Reads.none_, fun ad _ h => absurd h (by simp), rfl, rfl, rfl⟩
          · go_wp2_with fail
            go_meet
            exact ⟨_, _, rfl, hX0.1, hX0.2, rfl, rfl, rfl⟩
        case rest =>
          obtain ⟨X, cx, rfl, hX, hXb, rfl, rfl, rfl⟩ := hcut
          clear hrest hX0 hc3 hA3
          have hsbn : w.heap.size ≤ sb := by have := HSB.out; have := hw.size; omega
          have hw3 : Below w.heap.size w W3 := Below.after hw k3 (fun _ h => h.elim) (Nat.le_refl _)
          have hD3 : W3.heap[w2.heap.size]? = some (.deferred (some [])) := (k3.block _ (Array.getElem?_eq_some_iff.1 hD).1 (fun h => h)).trans hD
          have hsD : w2.heap.size ≠ sb := by have := HSB.out; have := (Array.getElem?_eq_some_iff.1 hD).1; omega
          have hwle := words_le s
          rw [HWS.out] at hwle
          have HWL := Lib.hid hwle
          clear hwle hc hA hD k3 hc0 hb ho hg
          go_wp2_with fail
          go_loopw [35] (ArgsRel W3 sb c r) (fun i _ => r.length - (intOf i).toNat)
          case atStart => exact ⟨0, [], _, Nat.zero_le _, rfl, rfl, by simp, bsb, World.ownsRow_nil _ _ _ _, fun g hg => by simp [Value.ownBlock] at hg, Kept.refl _ _⟩
          case round =>
            obtain ⟨j, acc, av, hj, rfl, hacc, hsm, hbs, how, hgt, kr⟩ := hrel
            have hal := argsOf_length hacc
            rw [List.length_take, Nat.min_eq_left hj] at hal
            have hal1 : acc.length ≤ j := by omega
            have hal2 : j ≤ acc.length := by omega
            have HAL := Lib.hid hal
            have HACC := Lib.hid hacc
            clear hal hacc
            have hwr : Below w.heap.size w wr := Below.after hw3 kr (fun x hx => by omega) (Nat.le_refl _)
            have hDr : wr.heap[w2.heap.size]? = some (.deferred (some [])) := (kr.block _ (Array.getElem?_eq_some_iff.1 hD3).1 hsD).trans hD3
            have hEr := hE.later hwr
            have hwz : w.heap.size ≤ wr.heap.size := hwr.size
            by_cases hlt : j < r.length
            · have hXr : StrsAt wr X r := kr.src hX (fun ad e hp h => hXb ad e hp h)
              obtain ⟨xb, xo, rfl, hxb, hcx⟩ := hXr.at_ hlt
              have hjs : r[j].length ≤ s.size := HWL.out _ (List.mem_cons_of_mem _ (List.getElem_mem hlt))
              have CT := text_any (ba r[j]) wr (by rw [ba_size]; omega)
              rw [ba_toList] at CT
              have hn1' := @argsOf_snoc r acc j hlt HACC.out
              have hn2' := @argsOf_none r acc j hlt HACC.out
              have htl := textS_length r[j]
              generalize textS r[j] = tx at CT hn1' hn2' htl
              obtain ⟨o, tk⟩ := tx
              dsimp only at hn1' hn2' htl
              have HCT := Lib.hid CT
              have HN1 := Lib.hid hn1'
              have HN2 := Lib.hid hn2'
              clear CT hn1' hn2'
              go_wp2_with fail
              refine HCT.out.mono ?_
              clear HCT
              rintro e w1 ⟨rfl, b1⟩
              cases tk
              · go_wp2_with fail
                refine ⟨by simp, .inl ⟨_, _, rfl, run_takeDeferred ((b1.block _ (Array.getElem?_eq_some_iff.1 hDr).1).trans hDr), ?_⟩⟩
                exact ⟨_, results_tmp rfl _ _ _, line_end hP (hwr.trans (b1.mono hwr.size)) (lineS_bad HWS.out HHP.out (HN2.out (by trivial))) hpbD rfl⟩
              · have hbs1 := hbs.below b1 hbs.lt
                have how1 := (Kept.of_below (F := NoF) b1).own how (fun _ _ h => h)
                have c1 : w1.cell? ⟨sb, 1, none⟩ = some av := (hbs1.cell 1).trans rfl
                have hws1 : w.heap.size ≤ w1.heap.size := Nat.le_trans hwr.size b1.size
                obtain ⟨i0, hi, hz0, hz1, hz2⟩ := info_parts info9
                dsimp only
                go_wp2_with (at_builtin; refine wpList_append_own_at _ rfl _ _ 37 rfl 0 9 i0 (.string ⟨#[]⟩) 1 16 Tryz.underlying37 hi hz0 hz1 hz2 rfl (by decide) _ _ _ rfl (how1.alloc _) ⟨w1.heap.size, 0, none⟩ 1 1 [.string (ba o)] rfl rfl ?d1 ?d2 ?d3 ?d4 ?d5 ?_)
                case d2 => rfl
                case d3 => first | omega | (unfold maxLen; omega)
                case d4 => omega
                intro v' w4 hown' hgrow _ hat
                obtain ⟨g', cap', rfl⟩ := ownsRow_succ hown'
                have hne : av.ownBlock ≠ some sb := own_blk_ne how1 hbs1 (by decide)
                have hb4 := (hbs1.alloc (.cells #[.string (ba o)] 9)).grown hgrow (Ne.symm hne)
                have d1 : w4.cell? ⟨sb, 1, none⟩ = some av := (hb4.cell 1).trans rfl
                have f1 := hb4.frozen 1
                have k4 : Kept (fun k => k = sb) W3 w4 := ((kr.trans (Kept.of_below (F := NoF) b1) (fun _ h => h.elim)).alloc _).grown hgrow (fun g hg => .inr (hgt g hg))
                go_wp2
                go_roundw
                case rel =>
                  refine ⟨j + 1, acc ++ [o], _, by omega, by go_num, HN1.out (by trivial), ?_, hb4.set_ 1 _, ?_, ?_, k4.setCell (p := ⟨sb, 1, none⟩) (.inl rfl) _⟩
                  · intro a ha
                    rcases List.mem_append.1 ha with h | h
                    · exact hsm a h
                    · simp at h; subst h; omega
                  · have e : strs (acc ++ [o]) = strs acc ++ [.string (ba o)] := by simp [strs]
                    rw [e, List.length_append]
                    exact hown'.kept (grownBy_setCell1 _ _ _ _) (.inr (own_blk_ne hown' hb4 (by decide)))
                  · intro g hgg
                    rcases hat with h | h
                    · rw [hgg] at h; exact hgt g h.symm
                    · rw [hgg] at h
                      injection h with h
                      have := World.size_alloc w1 (.cells #[.string (ba o)] 9)
                      have := kr.size
                      have := b1.size
                      omega
                case measure => simp [intOf]; omega
            · obtain rfl : j = r.length := by omega
              have hacc' : argsOf r = some acc := by have := HACC.out; rwa [List.take_length] at this
              have HAR := Lib.hid hacc'
              clear hacc' HACC
              obtain ⟨Aa, ca, rfl, hca, hof⟩ := own_form how
              clear hof
              have s0 : wr.cell? ⟨sb, 0, none⟩ = some (.string (ba c)) := (hbs.cell 0).trans rfl
              have s1 : wr.cell? ⟨sb, 1, none⟩ = some (.slice Aa acc.length ca) := (hbs.cell 1).trans rfl
              have CK := kind_any (ba c) Aa ca acc wr hEr (Reads.of_own how) (fun a ha => by have := hsm a ha; omega)
              rw [ba_toList] at CK
              have HCK := Lib.hid CK
              clear CK
              go_wp2_with fail
              refine HCK.out.mono ?_
              clear HCK
              rintro e wk ⟨rfl, bk⟩
              have hwk := hwr.trans (bk.mono hwr.size)
              have hDk : wk.heap[w2.heap.size]? = some (.deferred (some [])) := (bk.block _ (Array.getElem?_eq_some_iff.1 hDr).1).trans hDr
              have hbk := hbs.below bk hbs.lt
              have howk := (Kept.of_below (F := NoF) bk).own how (fun _ _ h => h)
              obtain ⟨v, sv, rp⟩ := hP
              have kk : Kept NoF w wk := Kept.of_below hwk
              have bp := kk.blk rp.blk (fun h => h)
              have p0 : wk.cell? ⟨pb, 0, none⟩ = some v := (bp.cell 0).trans rfl
              have p1 : wk.cell? ⟨pb, 1, none⟩ = some (.int .i64 (P.vaults : Int)) := (bp.cell 1).trans rfl
              have p2 : wk.cell? ⟨pb, 2, none⟩ = some (.bool P.begun) := (bp.cell 2).trans rfl
              have q1 := bp.frozen 1
              have q2 := bp.frozen 2
              have g0 : wk.cell? ⟨sb, 0, none⟩ = some (.string (ba c)) := (hbk.cell 0).trans rfl
              have g1 : wk.cell? ⟨sb, 1, none⟩ = some (.slice Aa acc.length ca) := (hbk.cell 1).trans rfl
              have hpbs : pb ≠ sb := by have := rp.lt _ rp.fp; omega
              have HZ := Lib.hid (@lineS_zero P s.data.toList c r acc HWS.out HHP.out HAR.out)
              have HS := Lib.hid (@lineS_state P s.data.toList c r acc HWS.out HHP.out HAR.out)
              have HAD := Lib.hid (@lineS_add P s.data.toList c r acc HWS.out HHP.out HAR.out)
              have HA0 := Lib.hid (add_steps P c acc)
              have HA1 := Lib.hid (@add_decl P c acc)
              have HA2 := Lib.hid (@add_other P c acc)
              clear s0 s1
              generalize hkd : kindS c acc = kd at HZ HS HAD HA1 HA2 ⊢
              clear hkd
              go_upto_block 4 with fail
              go_cut [4] from 55 to 86 (SwCut wk pb v (P.add c acc) (fun _ => kd ≠ 0 ∧ ¬ (kd = 1 ∧ (P.begun || (needsV c && P.vaults == 0)) = true)))
              case first =>
                by_cases h0 : kd = 0
                · subst h0
                  go_wp2_with fail
                  refine ⟨by simp, .inl ⟨_, _, rfl, run_takeDeferred hDk, ?_⟩⟩
                  exact ⟨_, results_tmp rfl _ _ _, line_end ⟨v, sv, rp⟩ hwk (HZ.out (by trivial)) hpbD rfl⟩
                · have z0 : (kd == 0) = false := by simpa using h0
                  by_cases h1 : kd = 1
                  · subst h1
                    cases hbg : P.begun
                    · rw [hbg] at p2
                      have CN := needsVault_any (ba c) Aa acc.length ca wk
                      rw [ba_toList] at CN
                      have HCN := Lib.hid CN
                      clear CN
                      go_wp2_with fail
                      refine HCN.out.mono ?_
                      clear HCN
                      rintro e wn ⟨rfl, bn⟩
                      have kn : Kept (fun k => k = pb) wk wn := Kept.of_below bn
                      have bpn := bp.below bn bp.lt
                      have p1n : wn.cell? ⟨pb, 1, none⟩ = some (.int .i64 (P.vaults : Int)) := (bpn.cell 1).trans rfl
                      have q1n := bpn.frozen 1
                      have g0n : wn.cell? ⟨sb, 0, none⟩ = some (.string (ba c)) := ((hbk.below bn hbk.lt).cell 0).trans rfl
                      cases hnv : needsV c
                      · have HNO := Lib.hid (show ¬ ((1 : Int) = 1 ∧ (P.begun || (needsV c && P.vaults == 0)) = true) by rw [hbg, hnv]; simp)
                        clear hnv hbg
                        cases hv : isVault c
                        · have ht : ((ba c).toList == ([118, 97, 117, 108, 116] : List UInt8)) = false := by rw [Lib.toList_data, ba_toList]; exact hv
                          go_wp2_with fail
                          go_meet
                          refine ⟨⟨by decide, HNO.out⟩, ?_, kn⟩
                          rw [(HA1.out (by trivial)).1, (HA1.out (by trivial)).2, hv]
                          exact bpn
                        · have ht : ((ba c).toList == ([118, 97, 117, 108, 116] : List UInt8)) = true := by rw [Lib.toList_data, ba_toList]; exact hv
                          go_wp2_with fail
                          go_meet
                          refine ⟨⟨by decide, HNO.out⟩, ?_, kn.setCell (p := ⟨pb, 1, none⟩) (.inl rfl) _⟩
                          rw [(HA1.out (by trivial)).1, (HA1.out (by trivial)).2, hv]
                          exact bpn.set_ 1 _
                      · by_cases hv0 : P.vaults = 0
                        · have z2 : ((P.vaults : Int) == 0) = true := by simpa using hv0
                          have hq : (P.begun || (needsV c && P.vaults == 0)) = true := by rw [hbg, hnv]; simpa using hv0
                          have HQ := Lib.hid (HS.out (by trivial) hq)
                          clear hq hbg hnv hv0
                          go_wp2_with fail
                          refine ⟨by simp, .inl ⟨_, _, rfl, run_takeDeferred ((bn.block _ (Array.getElem?_eq_some_iff.1 hDk).1).trans hDk), ?_⟩⟩
                          exact ⟨_, results_tmp rfl _ _ _, line_end ⟨v, sv, rp⟩ (hwk.trans (bn.mono hwk.size)) HQ.out hpbD rfl⟩
                        · have z2 : ((P.vaults : Int) == 0) = false := by simpa using hv0
                          have HNO := Lib.hid (show ¬ ((1 : Int) = 1 ∧ (P.begun || (needsV c && P.vaults == 0)) = true) by rw [hbg, hnv]; simpa using hv0)
                          clear hnv hbg hv0
                          cases hv : isVault c
                          · have ht : ((ba c).toList == ([118, 97, 117, 108, 116] : List UInt8)) = false := by rw [Lib.toList_data, ba_toList]; exact hv
                            go_wp2_with fail
                            go_meet
                            refine ⟨⟨by decide, HNO.out⟩, ?_, kn⟩
                            rw [(HA1.out (by trivial)).1, (HA1.out (by trivial)).2, hv]
                            exact bpn
                          · have ht : ((ba c).toList == ([118, 97, 117, 108, 116] : List UInt8)) = true := by rw [Lib.toList_data, ba_toList]; exact hv
                            go_wp2_with fail
                            go_meet
                            refine ⟨⟨by decide, HNO.out⟩, ?_, kn.setCell (p := ⟨pb, 1, none⟩) (.inl rfl) _⟩
                            rw [(HA1.out (by trivial)).1, (HA1.out (by trivial)).2, hv]
                            exact bpn.set_ 1 _
                    · rw [hbg] at p2
                      have HQ := Lib.hid (HS.out (by trivial) (by rw [hbg]; rfl))
                      clear hbg
                      go_wp2_with fail
                      refine ⟨by simp, .inl ⟨_, _, rfl, run_takeDeferred hDk, ?_⟩⟩
                      exact ⟨_, results_tmp rfl _ _ _, line_end ⟨v, sv, rp⟩ hwk HQ.out hpbD rfl⟩
                  · have z1 : (kd == 1) = false := by simpa using h1
                    go_wp2_with fail
                    go_meet
                    refine ⟨⟨h0, fun h => h1 h.1⟩, ?_, (Kept.refl (fun k => k = pb) wk).setCell (p := ⟨pb, 2, none⟩) (.inl rfl) _⟩
                    rw [(HA2.out h1).1, (HA2.out h1).2]
                    exact bp.set_ 2 _
              case rest =>
                obtain ⟨⟨hk0, hkn⟩, bxc, kxc⟩ := hcut
                have HRES := Lib.hid (HAD.out hk0 hkn)
                have bsc := kxc.blk hbk (fun h => hpbs h.symm)
                have hvp0 : v.ownBlock ≠ some pb := own_blk_ne rp.own rp.blk (by decide)
                have hvsb : v.ownBlock ≠ some sb := fun e => by have := rp.lt _ (rp.fv _ e); omega
                have ownc := kxc.own (kk.own rp.own (fun _ _ h => h)) (fun g hg h => hvp0 (by rw [hg, h]))
                have e0 : wc.cell? ⟨pb, 0, none⟩ = some v := (bxc.cell 0).trans rfl
                have e1 : wc.cell? ⟨sb, 0, none⟩ = some (.string (ba c)) := (bsc.cell 0).trans rfl
                have e2 : wc.cell? ⟨sb, 1, none⟩ = some (.slice Aa acc.length ca) := (bsc.cell 1).trans rfl
                obtain ⟨j0, hj, hy0, hy1, hy2⟩ := info_parts info45
                have hsvl : sv.length ≤ 100000 := by have := congrArg List.length rp.st; simp at this; omega
                clear p0 p1 p2 q1 q2 g0 g1 HZ HS HAD
                go_upto_region 25 with fail
                refine wp_region_noPanic ?_
                refine wp_region_until (by kernel_rfl) 10 (fun w' => w'.cell? ⟨pb, 0, none⟩ = some v ∧ w'.cell? ⟨sb, 0, none⟩ = some (.string (ba c)) ∧ w'.cell? ⟨sb, 1, none⟩ = some (.slice Aa acc.length ca)) ⟨e0, e1, e2⟩ (fun hHeld => ?_)
                generalize hW0 : wc.drew = W0 at hHeld ⊢
                have own0 : W0.ownsRow 0 45 2 v sv.length (svCells sv) := by rw [← hW0]; exact ownc
                have kc0 : Kept NoF wc W0 := by rw [← hW0]; exact (Kept.refl _ _).drew
                clear hW0
                refine wpAnyU_take (i := 0) (v := ?_) rfl (by kernel_rfl) (by kernel_rfl) (by kernel_rfl) (by kernel_rfl) (by kernel_rfl) (fun _ _ _ h => h) (Or.inl ⟨by rfl, ?_⟩) hHeld ?_
                rotate_left
                · (intro w hSw; (try dsimp only at hSw); go_simp; try (with_reducible rfl))
                simp only [Act.put, List.getElem_toArray, List.getElem_cons_zero, List.setIfInBounds_toArray, List.set_cons_zero, List.set_cons_succ]
                refine wpAnyU_take (i := 1) (v := ?_) rfl (by kernel_rfl) (by kernel_rfl) (by kernel_rfl) (by kernel_rfl) (by kernel_rfl) (fun _ _ _ h => h) (Or.inl ⟨by rfl, ?_⟩) hHeld ?_
                rotate_left
                · (intro w hSw; (try dsimp only at hSw); go_simp; try (with_reducible rfl))
                simp only [Act.put, List.getElem_toArray, List.getElem_cons_zero, List.getElem_cons_succ, List.setIfInBounds_toArray, List.set_cons_zero, List.set_cons_succ]
                refine wpAnyU_take (i := 2) (v := ?_) rfl (by kernel_rfl) (by kernel_rfl) (by kernel_rfl) (by kernel_rfl) (by kernel_rfl) (fun _ _ _ h => h) (Or.inl ⟨by rfl, ?_⟩) hHeld ?_
                rotate_left
                · (intro w hSw; (try dsimp only at hSw); go_simp; try (with_reducible rfl))
                simp only [Act.put, List.getElem_toArray, List.getElem_cons_zero, List.getElem_cons_succ, List.setIfInBounds_toArray, List.set_cons_zero, List.set_cons_succ]
                refine wpAnyU_take (i := 3) (v := ?_) rfl (by kernel_rfl) (by kernel_rfl) (by kernel_rfl) (by kernel_rfl) (by kernel_rfl) (fun _ _ _ h => h) (Or.inl ⟨by rfl, ?_⟩) hHeld ?_
                rotate_left
                · (intro w hSw; (try dsimp only at hSw); go_simp; try (with_reducible rfl))
                simp only [Act.put, List.getElem_toArray, List.getElem_cons_zero, List.getElem_cons_succ, List.setIfInBounds_toArray, List.set_cons_zero, List.set_cons_succ]
                refine wpAnyU_take (i := 4) (v := ?_) rfl (by kernel_rfl) (by kernel_rfl) (by kernel_rfl) (by kernel_rfl) (by kernel_rfl) (fun _ _ _ h => h) (Or.inl ⟨by rfl, ?_⟩) hHeld ?_
                rotate_left
                · (intro w hSw; (try dsimp only at hSw); go_simp; try (with_reducible rfl))
                simp only [Act.put, List.getElem_toArray, List.getElem_cons_zero, List.getElem_cons_succ, List.setIfInBounds_toArray, List.set_cons_zero, List.set_cons_succ]
                refine wpAnyU_take (i := 5) (v := ?_) rfl (by kernel_rfl) (by kernel_rfl) (by kernel_rfl) (by kernel_rfl) (by kernel_rfl) (fun _ _ _ h => h) (Or.inl ⟨by rfl, ?_⟩) hHeld ?_
                rotate_left
                · (intro w hSw; (try dsimp only at hSw); go_simp; try (with_reducible rfl))
                simp only [Act.put, List.getElem_toArray, List.getElem_cons_zero, List.getElem_cons_succ, List.setIfInBounds_toArray, List.set_cons_zero, List.set_cons_succ]
                refine wpAnyU_alone (i := 6) (by kernel_rfl) rfl (fun K hK => ?_)
                go_simp
                have bz := Blk.new W0 45 #[.string (ba c), .slice Aa acc.length ca]
                have kz := (Kept.refl NoF W0).alloc (.cells #[.string (ba c), .slice Aa acc.length ca] 45)
                generalize W0.alloc (.cells #[.string (ba c), .slice Aa acc.length ca] 45) = W1 at bz kz ⊢
                have own1 := kz.own own0 (fun _ _ h => h)
                have h1 := (fun (_ : true = true) => (⟨kz.cell hHeld.1 (fun h => h), kz.cell hHeld.2.1 (fun h => h), kz.cell hHeld.2.2 (fun h => h)⟩ : (fun w' => w'.cell? ⟨pb, 0, none⟩ = some v ∧ w'.cell? ⟨sb, 0, none⟩ = some (.string (ba c)) ∧ w'.cell? ⟨sb, 1, none⟩ = some (.slice Aa acc.length ca)) W1)) rfl
                refine hK.out _ _ (fun _ => h1) ?_
                clear hK K
                try simp only [Act.put, List.getElem_toArray, List.getElem_cons_zero, List.getElem_cons_succ, List.setIfInBounds_toArray, List.set_cons_zero, List.set_cons_succ]
                generalize hz0 : W0.heap.size = zb at bz ⊢
                have HZB := Lib.hid hz0
                clear hz0
                refine wpAnyU_alone (i := 7) (by kernel_rfl) rfl (fun K hK => ?_)
                refine step_append_any _ rfl _ _ 23 rfl 0 45 j0 (.agg #[.string ⟨#[]⟩, .slice none 0 0]) 2 40 Tryz.underlying23 hj hy0 hy1 hy2 rfl (by omega) v sv.length (svCells sv) rfl own1 W1.heap.size (some ⟨zb, 0, none⟩) 1 1 [.string (ba c), .slice Aa acc.length ca] rfl ?_ ?_ ?_ ?_ (Nat.zero_le _) ?_
                · refine ⟨by simp, fun _ => ⟨_, rfl, bz.lt, fun j u hu => ?_⟩⟩
                  rw [Addr.add_lit, bz.cell, Nat.zero_add, ← Array.getElem?_toList]
                  exact hu
                · intro u hu
                  simp at hu
                  rcases hu with rfl | rfl <;> rfl
                · unfold maxLen; omega
                · omega
                intro v' W2 own2 grw at2
                have hvp := own_blk_ne own1 (kz.blk (kc0.blk bxc (fun h => h)) (fun h => h)) (by decide)
                have bp2 := (kz.blk (kc0.blk bxc (fun h => h)) (fun h => h)).grown grw (Ne.symm hvp)
                have bs2 := (kz.blk (kc0.blk bsc (fun h => h)) (fun h => h)).grown grw (Ne.symm hvsb)
                obtain ⟨A2, c2, rfl, _, hof⟩ := own_form own2
                clear hof
                have hS2 : (fun w' => w'.cell? ⟨pb, 0, none⟩ = some v ∧ w'.cell? ⟨sb, 0, none⟩ = some (.string (ba c)) ∧ w'.cell? ⟨sb, 1, none⟩ = some (.slice Aa acc.length ca)) W2 := ⟨(bp2.cell 0).trans rfl, (bs2.cell 0).trans rfl, (bs2.cell 1).trans rfl⟩
                refine hK.out _ _ (fun _ => hS2) ?_
                clear hK K
                try simp only [Act.put, List.getElem_toArray, List.getElem_cons_zero, List.getElem_cons_succ, List.setIfInBounds_toArray, List.set_cons_zero, List.set_cons_succ]
                refine wpAnyU_alone (i := 8) (by kernel_rfl) rfl (fun K hK => ?_)
                go_simp
                refine hK.out _ _ (fun _ => hS2) ?_
                clear hK K
                try simp only [Act.put, List.getElem_toArray, List.getElem_cons_zero, List.getElem_cons_succ, List.setIfInBounds_toArray, List.set_cons_zero, List.set_cons_succ]
                refine wpAnyU_alone (i := 9) (by kernel_rfl) rfl (fun K hK => ?_)
                go_simp
                refine hK.out _ _ (fun _ => hS2) ?_
                clear hK K
                try simp only [Act.put, List.getElem_toArray, List.getElem_cons_zero, List.getElem_cons_succ, List.setIfInBounds_toArray, List.set_cons_zero, List.set_cons_succ]
                have x0 : W2.cell? ⟨pb, 0, none⟩ = some v := (bp2.cell 0).trans rfl
                have y0 := bp2.frozen 0
                refine wpAnyU_alone (i := 10) (by kernel_rfl) rfl (fun K hK => ?_)
                go_simp
                refine hK.out _ _ (fun h => by cases h) ?_
                clear hK K
                try simp only [Act.put, List.getElem_toArray, List.getElem_cons_zero, List.getElem_cons_succ, List.setIfInBounds_toArray, List.set_cons_zero, List.set_cons_succ]
                refine wpAnyU_done (by kernel_rfl) ?_ _
                refine NoPanic.normal ?_
                go_wp2_with fail
                have bp3 := bp2.set_ 0 (.slice A2 (sv.length + 1) c2)
                have own3 := own2.kept (grownBy_setCell1 W2 pb 0 (.slice A2 (sv.length + 1) c2)) (.inr (own_blk_ne own2 bp2 (by decide)))
                have kc2 : Kept F w W2 := ((((kk.mono (fun _ h => h.elim)).trans kxc (fun x hx => .inl (hx ▸ rp.fp))).trans kc0 (fun _ h => h.elim)).trans kz (fun _ h => h.elim)).grown grw (fun g hg => .inl (rp.fv g hg))
                have kc3 := kc2.setCell (p := ⟨pb, 0, none⟩) (.inl rp.fp) (.slice A2 (sv.length + 1) c2)
                have kw2 : Kept (fun k => F k ∨ k = w2.heap.size) wk W2 := (((kxc.mono (fun x hx => .inl (hx ▸ rp.fp))).trans kc0 (fun _ h => h.elim)).trans kz (fun _ h => h.elim)).grown grw (fun g hg => .inl (.inl (rp.fv g hg)))
                have kw4 := kw2.setCell (p := ⟨pb, 0, none⟩) (.inl (.inl rp.fp)) (.slice A2 (sv.length + 1) c2)
                have hDn : ∀ k, k = w2.heap.size → ¬ F k := fun k hk hf => by have := rp.lt _ hf; omega
                have hD2 : (W2.setCell ⟨pb, 0, none⟩ (.slice A2 (sv.length + 1) c2)).heap[w2.heap.size]? = some (.deferred (some [])) := by
                  have hpbD' : w2.heap.size ≠ pb := by have := rp.lt _ rp.fp; omega
                  refine (Below.heap_setCell _ _ _ _ (by simpa using hpbD')).trans ?_
                  have l1 := (Array.getElem?_eq_some_iff.1 hDk).1
                  have h1 := (kxc.block _ l1 hpbD').trans hDk
                  have h2 := (kc0.block _ (Array.getElem?_eq_some_iff.1 h1).1 (fun h => h)).trans h1
                  have h3 := (kz.block _ (Array.getElem?_eq_some_iff.1 h2).1 (fun h => h)).trans h2
                  exact (grw.block _ (Array.getElem?_eq_some_iff.1 h3).1 (fun e => hDn _ rfl (rp.fv _ e.symm))).trans h3
                refine ⟨by simp, .inl ⟨_, _, rfl, run_takeDeferred hD2, ?_⟩⟩
                refine ⟨_, results_tmp rfl _ _ _, ?_⟩
                generalize W2.setCell ⟨pb, 0, none⟩ (.slice A2 (sv.length + 1) c2) = W4 at bp3 own3 kc3 hD2 kw4 ⊢
                have kp : Kept (fun k => k = w2.heap.size) W4 (W4.putObj w2.heap.size (.deferred none)) := Kept.putObj _ rfl
                have kf : Kept F w (W4.putObj w2.heap.size (.deferred none)) := kc3.trans kp (fun x hx => .inr (by omega))
                rw [HRES.out]
                have z1 := kr.size
                have z2 := bk.size
                have z3 := kxc.size
                have z4 := kc0.size
                have z5 := kz.size
                have z6 := (Array.getElem?_eq_some_iff.1 hD3).1
                have hrow : ∀ g, (Value.slice A2 (sv.length + 1) c2).ownBlock = some g → F g ∨ wk.heap.size ≤ g := fun g hg => by
                  rcases at2 with h | h
                  · exact .inl (rp.fv g (h.symm.trans hg))
                  · rw [hg] at h
                    injection h with h
                    exact .inr (by omega)
                have hFl : ∀ g, F g → g < w.heap.size := rp.lt
                have hwW : w.heap.size ≤ W3.heap.size := hw3.size
                have hag : ∀ ad, Aa = some ad → W3.heap.size ≤ ad.block ∧ ad.block < wk.heap.size := fun ad e => by
                  subst e
                  exact ⟨hgt _ rfl, (howk.lt _ rfl).2⟩
                have kwf : Kept (fun k => F k ∨ k = w2.heap.size) wk (W4.putObj w2.heap.size (.deferred none)) := by
                  exact kw4.trans (Kept.putObj (S := fun k => k = w2.heap.size) _ rfl) (fun x hx => .inl (.inr hx))
                have hDne : w2.heap.size ≠ pb := by have := hFl _ rp.fp; omega
                refine ⟨rfl, ⟨fun k => F k ∨ (Value.slice A2 (sv.length + 1) c2).ownBlock = some k, ⟨.slice A2 (sv.length + 1) c2, sv ++ [(⟨c, acc⟩, Aa, ca)], ?_, kp.blk bp3 (fun h => hDne h.symm), ?_, .inl rp.fp, fun g hg => .inr hg, ?_, ?_⟩, ?_⟩, kf⟩
                · rw [List.map_append, rp.st, HA0.out]; rfl
                · rw [svCells_snoc, List.length_append]
                  exact kp.own own3 (fun g hg h => by
                    rcases hrow g hg with h' | h'
                    · have := hFl _ h'; omega
                    · omega)
                · intro x hx
                  rcases List.mem_append.1 hx with hx | hx
                  · exact (rp.args x hx).also kf (fun k hk => by
                      rcases hk with hk | hk
                      · exact .inl hk
                      · rcases hrow k hk with h' | h'
                        · exact .inl h'
                        · exact .inr (by omega))
                  · simp only [List.mem_singleton] at hx
                    subst hx
                    refine ⟨kwf.src (Reads.of_own howk) (fun ad e _ h => ?_), fun ad e _ => ⟨fun h => ?_, by have := hag ad e; omega⟩⟩
                    · have := hag ad e
                      rcases h with h | h
                      · have := hFl _ h; omega
                      · omega
                    · have := hag ad e
                      rcases h with h | h
                      · have := hFl _ h; omega
                      · rcases hrow _ h with h' | h'
                        · have := hFl _ h'; omega
                        · omega
                · intro k hk
                  have hzf := kf.size
                  rcases hk with hk | hk
                  · have := hFl _ hk; omega
                  · have := (own3.lt k hk).2
                    rw [World.putObj_size]
                    exact this
                · intro k hk
                  rcases hk with hk | hk
                  · exact .inl hk
                  · rcases hrow k hk with h' | h'
                    · exact .inl h'
                    · exact .inr (by omega)
      · go_wp2_with fail
        refine ⟨by simp, .inl ⟨_, _, rfl, run_takeDeferred hD, ?_⟩⟩
        exact ⟨_, results_tmp rfl _ _ _, line_end hP hw (lineS_hash HWS.out HHP.out) hpbD rfl⟩
  case hstop =>
    intro c i W _ h _
    exact h.elim

end Go.Proofs.YtfnfjfcncijapaaGreatDoor
