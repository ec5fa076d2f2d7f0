/- script.kind: the kind of a step. -/
import Derived.Test.YtfnfjfcncijapaaGreatDoorCmd
import Derived.Test.YtfnfjfcncijapaaGreatDoorForms
import Derived.Deep.RegionHeld3
import Derived.Deep.DeepCutAuto
import Derived.LoopTactic
namespace Go.Proofs.YtfnfjfcncijapaaGreatDoor
open Go.RowKit Go.Shelf

def strs (l : List (List UInt8)) : List Value := l.map (fun a => .string (ba a))
theorem strs_length (l : List (List UInt8)) : (strs l).length = l.length := by simp [strs]
/-- The strings l lie at A. -/
def StrsAt (w : World) (A : Option Addr) (l : List (List UInt8)) : Prop := Reads w w.heap.size 1 A l.length (strs l)

def switchB (l : List UInt8) : Bool := l == [111, 110] || l == [111, 102, 102]
/-- What the function f says of an argument. -/
def fitsFn (f : Nat) (l : List UInt8) : Bool := if f = 93 then true else if f = 94 then numsB l else if f = 95 then flagsB l else if f = 96 then switchB l else isNumB l
def namesOf (c : Int × List UInt8) : List (List UInt8) := Lib.fields c.2
def allFit (names args : List (List UInt8)) : Bool := (names.zip args).all fun p => fitsFn (formFn p.1) p.2
/-- The kind of a step. -/
def kindS (cmd : List UInt8) (args : List (List UInt8)) : Int := match cmdTable.find? (fun p => p.1 == cmd) with
  | none => 0
  | some p => if (namesOf p.2).length = args.length ∧ allFit (namesOf p.2) args = true then p.2.1 else 0

def cmdV (r : Option (List UInt8 × (Int × List UInt8))) : Int × List UInt8 × Bool := match r with
  | some p => (p.2.1, p.2.2, true)
  | none => (0, [], false)
theorem zero100 : (Tryz.prog.info? 100).map (·.zero) = some (some (.agg #[.int .i64 0, .string ⟨#[]⟩])) := by kernel_rfl
theorem zeroCmd (w : World) : (zeroValue 100).run Tryz.prog w = .ok (.agg #[.int .i64 0, .string (ba [])]) w := by
  obtain ⟨i, hi, hz⟩ := Option.map_eq_some_iff.1 zero100
  simp [zeroValue, typeInfo, hi, hz]
  rfl
theorem cmd_lookup (cmd : ByteArray) (w : World) (r : Nat) (h : w.heap[r]? = some cmdMap) :
    (Instr.lookup 101 (.map (some r)) (.string cmd) true).run Tryz.prog w = .ok (.tuple #[.agg #[.int .i64 (cmdV (cmdTable.find? (fun p => p.1 == cmd.data.toList))).1, .string (ba (cmdV (cmdTable.find? (fun p => p.1 == cmd.data.toList))).2.1)], .bool (cmdV (cmdTable.find? (fun p => p.1 == cmd.data.toList))).2.2]) w := by
  cases hq : cmdTable.find? (fun p => p.1 == cmd.data.toList) with
  | none => exact run_lookup_none Tryz.underlying101 Tryz.underlying9 zeroCmd h (findNow_none (f := cmdVal) (n := 0) (i := 0) hq)
  | some p =>
    obtain ⟨j, hj⟩ := findNow_some (f := cmdVal) (n := 0) (i := 0) hq
    exact run_lookup_some Tryz.underlying101 Tryz.underlying9 h hj

theorem cmd_ascii : ∀ p ∈ cmdTable, (p.2.2.all (fun b => decide (b.toNat < 128)) && decide (p.2.2.length < 100) && decide ((Lib.fields p.2.2).length ≤ 8)) = true := by decide +kernel
theorem cmd_row {cmd : ByteArray} {kd : Int} {nm : List UInt8} {ok : Bool} (h : cmdV (cmdTable.find? (fun p => p.1 == cmd.data.toList)) = (kd, nm, ok)) : (nm.all (fun b => decide (b.toNat < 128)) && decide (nm.length < 100) && decide ((Lib.fields nm).length ≤ 8)) = true := by
  cases hq : cmdTable.find? (fun p => p.1 == cmd.data.toList) with
  | none =>
    rw [hq] at h
    simp only [cmdV, Prod.mk.injEq] at h
    rw [← h.2.1]
    decide +kernel
  | some p =>
    rw [hq] at h
    simp only [cmdV, Prod.mk.injEq] at h
    rw [← h.2.1]
    exact cmd_ascii p (List.mem_of_find?_eq_some hq)
theorem cmd_names {cmd : ByteArray} {kd : Int} {nm : List UInt8} {ok : Bool} (h : cmdV (cmdTable.find? (fun p => p.1 == cmd.data.toList)) = (kd, nm, ok)) : nm.length < 100 ∧ ∀ (j : Nat) b, nm[j]? = some b → b.toNat < 128 := by
  have := cmd_row h
  simp only [Bool.and_eq_true, decide_eq_true_eq] at this
  exact ⟨this.1.2, ascii_of_all this.1.1⟩
theorem cmd_fields {cmd : ByteArray} {kd : Int} {nm : List UInt8} {ok : Bool} (h : cmdV (cmdTable.find? (fun p => p.1 == cmd.data.toList)) = (kd, nm, ok)) : (Lib.fields nm).length ≤ 8 := by
  have := cmd_row h
  simp only [Bool.and_eq_true, decide_eq_true_eq] at this
  exact this.2
theorem kindS_eq {cmd : ByteArray} {kd : Int} {nm : List UInt8} {ok : Bool} (h : cmdV (cmdTable.find? (fun p => p.1 == cmd.data.toList)) = (kd, nm, ok)) (args : List (List UInt8)) :
    kindS cmd.data.toList args = if ok = true ∧ (Lib.fields nm).length = args.length ∧ allFit (Lib.fields nm) args = true then kd else 0 := by
  unfold kindS
  cases hq : cmdTable.find? (fun p => p.1 == cmd.data.toList) with
  | none =>
    rw [hq] at h
    simp only [cmdV, Prod.mk.injEq] at h
    simp [← h.2.2]
  | some p =>
    rw [hq] at h
    simp only [cmdV, Prod.mk.injEq] at h
    obtain ⟨h1, h2, h3⟩ := h
    subst h1 h2 h3
    by_cases hc : (Lib.fields p.2.2).length = args.length ∧ allFit (Lib.fields p.2.2) args = true
    · rw [if_pos ⟨rfl, hc⟩]; exact if_pos hc
    · rw [if_neg (fun h => hc h.2)]; exact if_neg hc

def KindRel (w4 : World) (names args : List (List UInt8)) (i : Value) (wr : World) : Prop :=
  ∃ k : Nat, k ≤ names.length ∧ i = .int .i64 (k : Int) ∧ allFit (names.take k) (args.take k) = true ∧ Kept NoF w4 wr

theorem StrsAt.at_ {w : World} {A : Option Addr} {l : List (List UInt8)} {k : Nat} (h : StrsAt w A l) (hk : k < l.length) :
    ∃ b off, A = some ⟨b, off, none⟩ ∧ b < w.heap.size ∧ w.cell? ⟨b, off + k, none⟩ = some (.string (ba l[k])) := by
  obtain ⟨ad, e, hb, hc⟩ := h.2 (by omega)
  have g : ∀ j (hj : j < l.length), w.cell? (ad.add j) = some (.string (ba l[j])) := fun j hj => hc j _ (by simp [strs, hj])
  obtain ⟨b, off, spot⟩ := ad
  have hspot : spot = none := by
    have := World.cell?_spot (g 0 (by omega))
    simpa [Addr.add] using this
  subst hspot
  have := g k hk
  rw [Addr.add_lit] at this
  exact ⟨b, off, e, hb, this⟩
theorem formFn_cases (l : List UInt8) : formFn l = 93 ∨ formFn l = 94 ∨ formFn l = 95 ∨ formFn l = 96 ∨ formFn l = 97 := by
  unfold formFn
  cases h : formTable.find? (fun p => p.1 == l) with
  | none => simp
  | some p =>
    have hm := List.mem_of_find?_eq_some h
    have : ∀ p ∈ formTable, p.2 = 93 ∨ p.2 = 94 ∨ p.2 = 95 ∨ p.2 = 96 ∨ p.2 = 97 := by decide
    exact this p hm
theorem allFit_snoc {names args : List (List UInt8)} {k : Nat} (h1 : k < names.length) (h2 : k < args.length) (h : allFit (names.take k) (args.take k) = true) :
    allFit (names.take (k + 1)) (args.take (k + 1)) = fitsFn (formFn names[k]) args[k] := by
  unfold allFit at h ⊢
  rw [List.take_succ_eq_append_getElem h1, List.take_succ_eq_append_getElem h2, List.zip_append (by simp; omega), List.all_append, h]
  simp

theorem fit_enters {f : Nat} (h : f = 93 ∨ f = 94 ∨ f = 95 ∨ f = 96 ∨ f = 97) : ∀ args w, (callFunc f args).run Tryz.prog w = .ok (.enter f args) w := by
  rcases h with rfl | rfl | rfl | rfl | rfl
  · exact enters_of Tryz.func93 (by kernel_rfl) rfl
  · exact enters_of Tryz.func94 (by kernel_rfl) rfl
  · exact enters_of Tryz.func95 (by kernel_rfl) rfl
  · exact enters_of Tryz.func96 (by kernel_rfl) rfl
  · exact enters_of Tryz.func97 (by kernel_rfl) rfl
set_option maxHeartbeats 400000 in
theorem isAny_any (s : ByteArray) (w : World) : Calls Tryz.prog 93 #[.string s] w fun e w' => e = .returned (.bool true) ∧ Below w.heap.size w w' := by
  go_enter Tryz.func93, Tryz.ntmps93
  go_wp2
  go_ret
  exact ⟨rfl, Below.refl _ _⟩
set_option maxHeartbeats 400000 in
theorem isSwitch_any (s : ByteArray) (w : World) : Calls Tryz.prog 96 #[.string s] w fun e w' => e = .returned (.bool (switchB s.data.toList)) ∧ Below w.heap.size w w' := by
  unfold switchB
  rw [← Lib.toList_data]
  cases h1 : (s.toList == ([111, 110] : List UInt8)) <;> cases h2 : (s.toList == ([111, 102, 102] : List UInt8))
  all_goals
    go_enter Tryz.func96, Tryz.ntmps96
    go_wp2
    go_ret
    exact ⟨rfl, Below.refl _ _⟩
theorem fit_any {f : Nat} (h : f = 93 ∨ f = 94 ∨ f = 95 ∨ f = 96 ∨ f = 97) (s : ByteArray) (w : World) (hE : Env w) (hs : s.size ≤ 140737488355328) :
    Calls Tryz.prog f #[.string s] w fun e w' => e = .returned (.bool (fitsFn f s.data.toList)) ∧ Below w.heap.size w w' := by
  rcases h with rfl | rfl | rfl | rfl | rfl
  · exact isAny_any s w
  · exact isNumbers_any s w hE hs
  · exact isFlags_any s w hs
  · exact isSwitch_any s w
  · exact isNumber_any s w hE hs
theorem allFit_false {names args : List (List UInt8)} (k : Nat) (h : allFit (names.take k) (args.take k) = false) : allFit names args = false := by
  unfold allFit at h ⊢
  rw [List.all_eq_false] at h ⊢
  obtain ⟨p, hp, hq⟩ := h
  rw [show (names.take k).zip (args.take k) = (names.zip args).take k by rw [List.zip_eq_zipWith, List.zip_eq_zipWith, List.take_zipWith]] at hp
  exact ⟨p, List.mem_of_mem_take hp, hq⟩

def CmdCut (w1 : World) (v : Int × List UInt8 × Bool) (s3 s4 : Value) (wx : World) : Prop :=
  ∃ cb, s3 = .pointer (some ⟨cb, 0, none⟩) ∧ s4 = .bool v.2.2 ∧ Blk wx cb 100 #[.int .i64 v.1, .string (ba v.2.1)] ∧ Kept NoF w1 wx

set_option maxHeartbeats 4000000 in
set_option maxRecDepth 100000 in
theorem kind_any (cmd : ByteArray) (A : Option Addr) (c : Nat) (args : List (List UInt8)) (w : World) (hE : Env w) (hA : StrsAt w A args) (hs : ∀ a ∈ args, a.length ≤ 140737488351232) :
    Calls Tryz.prog 42 #[.agg #[.string cmd, .slice A args.length c]] w fun e w' => e = .returned (.int .i64 (kindS cmd.data.toList args)) ∧ Below w.heap.size w w' := by
  have HLK := Lib.hid (cmd_lookup cmd)
  generalize hcv : cmdV (cmdTable.find? (fun p => p.1 == cmd.data.toList)) = cv at HLK
  have HCV := Lib.hid hcv
  clear hcv
  go_enter Tryz.func42, Tryz.ntmps42
  go_upto_region 1 with fail
  have bx := Blk.new w 45 #[.string cmd, .slice A args.length c]
  have kx := (Kept.refl NoF w).alloc (.cells #[.string cmd, .slice A args.length c] 45)
  generalize w.alloc (.cells #[.string cmd, .slice A args.length c] 45) = w1 at bx kx ⊢
  generalize hn : w.heap.size = n at bx ⊢
  have HN := Lib.hid hn
  clear hn
  have hcell : w1.cell? ⟨n, 0, none⟩ = some (.string cmd) := (bx.cell 0).trans rfl
  obtain ⟨kd, nm, ok⟩ := cv
  go_cut [3, 4] (CmdCut w1 (kd, nm, ok))
  case first =>
    refine wp_region_noPanic ?_
    refine wp_region_held_drew (S := (fun w' => Kept NoF w1 w' ∧ w'.cell? ⟨n, 0, none⟩ = some (.string cmd))) (by kernel_rfl) ?_ (fun hHeld => ?_)
    · exact ⟨(Kept.refl NoF w1).drew, hcell⟩
    generalize w1.drew = W0 at hHeld ⊢
    refine wpAnyH_take (i := 1) (v := ?_) rfl (by kernel_rfl) (by kernel_rfl) (by kernel_rfl) (fun _ _ _ h => h) (Or.inl ⟨by rfl, ?_⟩) hHeld ?_
    rotate_left
    · (intro w hSw; (try dsimp only at hSw); go_simp; try (with_reducible rfl))
    simp only [Act.put, List.getElem_toArray, List.getElem_cons_zero, List.getElem_cons_succ, List.setIfInBounds_toArray, List.set_cons_zero, List.set_cons_succ]
    refine wpAnyH_take (i := 2) (v := ?_) rfl (by kernel_rfl) (by kernel_rfl) (by kernel_rfl) (fun _ _ _ h => h) (Or.inl ⟨by rfl, ?_⟩) hHeld ?_
    rotate_left
    · (intro w hSw; (try dsimp only at hSw); go_simp; try (with_reducible rfl))
    simp only [Act.put, List.getElem_toArray, List.getElem_cons_zero, List.getElem_cons_succ, List.setIfInBounds_toArray, List.set_cons_zero, List.set_cons_succ]
    refine wpAnyH_ready (rs := [0, 7]) (by kernel_rfl) (by simp) ?_
    refine AllReadyH.cons rfl (fun K hK => ?_) (AllReadyH.cons rfl (fun K hK => ?_) AllReadyH.nil)
    · skip
      go_simp
      refine (commands_any _).mono ?_
      rintro e wa ⟨rfl, hcall⟩
      have hm : wa.heap[W0.heap.size]? = some cmdMap := by rw [← hcall]; exact World.alloc_heap_new _ _
      have ka : Kept NoF W0 wa := by rw [← hcall]; exact (Kept.refl _ _).alloc _
      have kc := hHeld.1.trans ka (fun _ h => .inl h)
      clear hcall
      go_wp2_with fail
      refine hK.out _ _ ⟨kc, kc.cell hcell (fun h => h)⟩ (fun hHeld => ?_)
      clear hK K
      try simp only [Act.put, List.getElem_toArray, List.getElem_cons_zero, List.getElem_cons_succ, List.setIfInBounds_toArray, List.set_cons_zero, List.set_cons_succ]
      refine wpAnyH_ready (rs := [3, 7]) (by kernel_rfl) (by simp) ?_
      refine AllReadyH.cons rfl (fun K hK => ?_) (AllReadyH.cons rfl (fun K hK => ?_) AllReadyH.nil)
      · skip
        go_simp
        rw [HLK.out wa _ hm]
        simp only [Result.andThen]
        rw [Oper.upon_value]
        refine hK.out _ _ hHeld (fun hHeld => ?_)
        clear hK K
        simp only [Act.put, List.setIfInBounds_toArray, List.set_cons_zero, List.set_cons_succ]
        refine wpAnyH_take (i := 4) (v := ?_) rfl (by kernel_rfl) (by kernel_rfl) (by kernel_rfl) (fun _ _ _ h => h) (Or.inl ⟨by rfl, ?_⟩) hHeld ?_
        rotate_left
        · (intro w hSw; (try dsimp only at hSw); go_simp; try (with_reducible rfl))
        simp only [Act.put, List.getElem_toArray, List.getElem_cons_zero, List.getElem_cons_succ, List.setIfInBounds_toArray, List.set_cons_zero, List.set_cons_succ]
        refine wpAnyH_take (i := 5) (v := ?_) rfl (by kernel_rfl) (by kernel_rfl) (by kernel_rfl) (fun _ _ _ h => h) (Or.inl ⟨by rfl, ?_⟩) hHeld ?_
        rotate_left
        · (intro w hSw; (try dsimp only at hSw); go_simp; try (with_reducible rfl))
        simp only [Act.put, List.getElem_toArray, List.getElem_cons_zero, List.getElem_cons_succ, List.setIfInBounds_toArray, List.set_cons_zero, List.set_cons_succ]
        refine wpAnyH_take (i := 6) (v := ?_) rfl (by kernel_rfl) (by kernel_rfl) (by kernel_rfl) (fun _ _ _ h => h) (Or.inl ⟨by rfl, ?_⟩) hHeld ?_
        rotate_left
        · (intro w hSw; (try dsimp only at hSw); go_simp; try (with_reducible rfl))
        simp only [Act.put, List.getElem_toArray, List.getElem_cons_zero, List.getElem_cons_succ, List.setIfInBounds_toArray, List.set_cons_zero, List.set_cons_succ]
        refine wpAnyH_ready (rs := [7]) (by kernel_rfl) (by simp) ?_
        refine AllReadyH.cons rfl (fun K hK => ?_) AllReadyH.nil
        go_simp
        have hb := Blk.new wa 100 #[.int .i64 0, .string ⟨#[]⟩]
        have kc := hHeld.1.alloc (.cells #[.int .i64 0, .string ⟨#[]⟩] 100)
        have hmm : ∀ r, wa.heap[r]? = some cmdMap → (wa.alloc (.cells #[.int .i64 0, .string ⟨#[]⟩] 100)).heap[r]? = some cmdMap := fun r hr => (Below.heap_alloc wa _ r (Array.getElem?_eq_some_iff.1 hr).1).trans hr
        have hcb : w1.heap.size ≤ wa.heap.size := hHeld.1.size
        generalize wa.alloc (.cells #[.int .i64 0, .string ⟨#[]⟩] 100) = wb at hb kc hmm ⊢
        generalize wa.heap.size = cb at hb hcb ⊢
        refine hK.out _ _ ⟨kc, kc.cell hcell (fun h => h)⟩ (fun hHeld => ?_)
        clear hK K
        try simp only [Act.put, List.getElem_toArray, List.getElem_cons_zero, List.getElem_cons_succ, List.setIfInBounds_toArray, List.set_cons_zero, List.set_cons_succ]
        refine wpAnyH_ready (rs := [8]) (by kernel_rfl) (by simp) ?_
        refine AllReadyH.cons rfl (fun K hK => ?_) AllReadyH.nil
        have hc0 : wb.cell? ⟨cb, 0, none⟩ = some (.int .i64 0) := (hb.cell 0).trans rfl
        have hc1 : wb.cell? ⟨cb, 1, none⟩ = some (.string ⟨#[]⟩) := (hb.cell 1).trans rfl
        have hf0 := hb.frozen 0
        have hf1 := hb.frozen 1
        go_simp
        have hb2 := (hb.set_ 0 (.int .i64 kd)).set_ 1 (.string (ba nm))
        have kc2 := (hHeld.1.setCell (p := ⟨cb, 0, none⟩) (.inr hcb) (.int .i64 kd)).setCell (p := ⟨cb, 1, none⟩) (.inr hcb) (.string (ba nm))
        have hb3 : Blk _ cb 100 #[.int .i64 kd, .string (ba nm)] := hb2
        clear hb2 hc0 hc1 hf0 hf1
        generalize (wb.setCell ⟨cb, 0, none⟩ (.int .i64 kd)).setCell ⟨cb, 1, none⟩ (.string (ba nm)) = wz at hb3 kc2 ⊢
        refine hK.out _ _ ⟨kc2, kc2.cell hcell (fun h => h)⟩ (fun hHeld => ?_)
        clear hK K
        try simp only [Act.put, List.setIfInBounds_toArray, List.set_cons_zero, List.set_cons_succ]
        refine wpAnyH_take (i := 9) (v := ?_) rfl (by kernel_rfl) (by kernel_rfl) (by kernel_rfl) (fun _ _ _ h => h) (Or.inl ⟨by rfl, ?_⟩) hHeld ?_
        rotate_left
        · (intro w hSw; (try dsimp only at hSw); go_simp; try (with_reducible rfl))
        simp only [Act.put, List.getElem_toArray, List.getElem_cons_zero, List.getElem_cons_succ, List.setIfInBounds_toArray, List.set_cons_zero, List.set_cons_succ]
        refine wpAnyH_done (by kernel_rfl) ?_ _
        refine NoPanic.normal ?_
        go_wp2_with fail
        go_meet
        exact ⟨cb, rfl, rfl, hb3, hHeld.1⟩
      · skip
        go_simp
        have hb := Blk.new wa 100 #[.int .i64 0, .string ⟨#[]⟩]
        have kc := hHeld.1.alloc (.cells #[.int .i64 0, .string ⟨#[]⟩] 100)
        have hmm : ∀ r, wa.heap[r]? = some cmdMap → (wa.alloc (.cells #[.int .i64 0, .string ⟨#[]⟩] 100)).heap[r]? = some cmdMap := fun r hr => (Below.heap_alloc wa _ r (Array.getElem?_eq_some_iff.1 hr).1).trans hr
        have hcb : w1.heap.size ≤ wa.heap.size := hHeld.1.size
        generalize wa.alloc (.cells #[.int .i64 0, .string ⟨#[]⟩] 100) = wb at hb kc hmm ⊢
        generalize wa.heap.size = cb at hb hcb ⊢
        refine hK.out _ _ ⟨kc, kc.cell hcell (fun h => h)⟩ (fun hHeld => ?_)
        clear hK K
        try simp only [Act.put, List.getElem_toArray, List.getElem_cons_zero, List.getElem_cons_succ, List.setIfInBounds_toArray, List.set_cons_zero, List.set_cons_succ]
        replace hm := hmm _ hm
        refine wpAnyH_ready (rs := [3]) (by kernel_rfl) (by simp) ?_
        refine AllReadyH.cons rfl (fun K hK => ?_) AllReadyH.nil
        go_simp
        rw [HLK.out wb _ hm]
        simp only [Result.andThen]
        rw [Oper.upon_value]
        refine hK.out _ _ hHeld (fun hHeld => ?_)
        clear hK K
        simp only [Act.put, List.setIfInBounds_toArray, List.set_cons_zero, List.set_cons_succ]
        refine wpAnyH_take (i := 4) (v := ?_) rfl (by kernel_rfl) (by kernel_rfl) (by kernel_rfl) (fun _ _ _ h => h) (Or.inl ⟨by rfl, ?_⟩) hHeld ?_
        rotate_left
        · (intro w hSw; (try dsimp only at hSw); go_simp; try (with_reducible rfl))
        simp only [Act.put, List.getElem_toArray, List.getElem_cons_zero, List.getElem_cons_succ, List.setIfInBounds_toArray, List.set_cons_zero, List.set_cons_succ]
        refine wpAnyH_take (i := 5) (v := ?_) rfl (by kernel_rfl) (by kernel_rfl) (by kernel_rfl) (fun _ _ _ h => h) (Or.inl ⟨by rfl, ?_⟩) hHeld ?_
        rotate_left
        · (intro w hSw; (try dsimp only at hSw); go_simp; try (with_reducible rfl))
        simp only [Act.put, List.getElem_toArray, List.getElem_cons_zero, List.getElem_cons_succ, List.setIfInBounds_toArray, List.set_cons_zero, List.set_cons_succ]
        refine wpAnyH_take (i := 6) (v := ?_) rfl (by kernel_rfl) (by kernel_rfl) (by kernel_rfl) (fun _ _ _ h => h) (Or.inl ⟨by rfl, ?_⟩) hHeld ?_
        rotate_left
        · (intro w hSw; (try dsimp only at hSw); go_simp; try (with_reducible rfl))
        simp only [Act.put, List.getElem_toArray, List.getElem_cons_zero, List.getElem_cons_succ, List.setIfInBounds_toArray, List.set_cons_zero, List.set_cons_succ]
        refine wpAnyH_ready (rs := [8]) (by kernel_rfl) (by simp) ?_
        refine AllReadyH.cons rfl (fun K hK => ?_) AllReadyH.nil
        have hc0 : wb.cell? ⟨cb, 0, none⟩ = some (.int .i64 0) := (hb.cell 0).trans rfl
        have hc1 : wb.cell? ⟨cb, 1, none⟩ = some (.string ⟨#[]⟩) := (hb.cell 1).trans rfl
        have hf0 := hb.frozen 0
        have hf1 := hb.frozen 1
        go_simp
        have hb2 := (hb.set_ 0 (.int .i64 kd)).set_ 1 (.string (ba nm))
        have kc2 := (hHeld.1.setCell (p := ⟨cb, 0, none⟩) (.inr hcb) (.int .i64 kd)).setCell (p := ⟨cb, 1, none⟩) (.inr hcb) (.string (ba nm))
        have hb3 : Blk _ cb 100 #[.int .i64 kd, .string (ba nm)] := hb2
        clear hb2 hc0 hc1 hf0 hf1
        generalize (wb.setCell ⟨cb, 0, none⟩ (.int .i64 kd)).setCell ⟨cb, 1, none⟩ (.string (ba nm)) = wz at hb3 kc2 ⊢
        refine hK.out _ _ ⟨kc2, kc2.cell hcell (fun h => h)⟩ (fun hHeld => ?_)
        clear hK K
        try simp only [Act.put, List.setIfInBounds_toArray, List.set_cons_zero, List.set_cons_succ]
        refine wpAnyH_take (i := 9) (v := ?_) rfl (by kernel_rfl) (by kernel_rfl) (by kernel_rfl) (fun _ _ _ h => h) (Or.inl ⟨by rfl, ?_⟩) hHeld ?_
        rotate_left
        · (intro w hSw; (try dsimp only at hSw); go_simp; try (with_reducible rfl))
        simp only [Act.put, List.getElem_toArray, List.getElem_cons_zero, List.getElem_cons_succ, List.setIfInBounds_toArray, List.set_cons_zero, List.set_cons_succ]
        refine wpAnyH_done (by kernel_rfl) ?_ _
        refine NoPanic.normal ?_
        go_wp2_with fail
        go_meet
        exact ⟨cb, rfl, rfl, hb3, hHeld.1⟩
    · skip
      go_simp
      have hb := Blk.new W0 100 #[.int .i64 0, .string ⟨#[]⟩]
      have kc := hHeld.1.alloc (.cells #[.int .i64 0, .string ⟨#[]⟩] 100)
      have hmm : ∀ r, W0.heap[r]? = some cmdMap → (W0.alloc (.cells #[.int .i64 0, .string ⟨#[]⟩] 100)).heap[r]? = some cmdMap := fun r hr => (Below.heap_alloc W0 _ r (Array.getElem?_eq_some_iff.1 hr).1).trans hr
      have hcb : w1.heap.size ≤ W0.heap.size := hHeld.1.size
      generalize W0.alloc (.cells #[.int .i64 0, .string ⟨#[]⟩] 100) = wa at hb kc hmm ⊢
      generalize W0.heap.size = cb at hb hcb ⊢
      refine hK.out _ _ ⟨kc, kc.cell hcell (fun h => h)⟩ (fun hHeld => ?_)
      clear hK K
      try simp only [Act.put, List.getElem_toArray, List.getElem_cons_zero, List.getElem_cons_succ, List.setIfInBounds_toArray, List.set_cons_zero, List.set_cons_succ]
      refine wpAnyH_ready (rs := [0]) (by kernel_rfl) (by simp) ?_
      refine AllReadyH.cons rfl (fun K hK => ?_) AllReadyH.nil
      go_simp
      refine (commands_any _).mono ?_
      rintro e wb ⟨rfl, hcall⟩
      have hm : wb.heap[wa.heap.size]? = some cmdMap := by rw [← hcall]; exact World.alloc_heap_new _ _
      have ka : Kept NoF wa wb := by rw [← hcall]; exact (Kept.refl _ _).alloc _
      have kd' := hHeld.1.trans ka (fun _ h => .inl h)
      clear hcall
      go_wp2_with fail
      refine hK.out _ _ ⟨kd', kd'.cell hcell (fun h => h)⟩ (fun hHeld => ?_)
      clear hK K
      try simp only [Act.put, List.getElem_toArray, List.getElem_cons_zero, List.getElem_cons_succ, List.setIfInBounds_toArray, List.set_cons_zero, List.set_cons_succ]
      replace hb := ka.blk hb (fun h => h)
      refine wpAnyH_ready (rs := [3]) (by kernel_rfl) (by simp) ?_
      refine AllReadyH.cons rfl (fun K hK => ?_) AllReadyH.nil
      go_simp
      rw [HLK.out wb _ hm]
      simp only [Result.andThen]
      rw [Oper.upon_value]
      refine hK.out _ _ hHeld (fun hHeld => ?_)
      clear hK K
      simp only [Act.put, List.setIfInBounds_toArray, List.set_cons_zero, List.set_cons_succ]
      refine wpAnyH_take (i := 4) (v := ?_) rfl (by kernel_rfl) (by kernel_rfl) (by kernel_rfl) (fun _ _ _ h => h) (Or.inl ⟨by rfl, ?_⟩) hHeld ?_
      rotate_left
      · (intro w hSw; (try dsimp only at hSw); go_simp; try (with_reducible rfl))
      simp only [Act.put, List.getElem_toArray, List.getElem_cons_zero, List.getElem_cons_succ, List.setIfInBounds_toArray, List.set_cons_zero, List.set_cons_succ]
      refine wpAnyH_take (i := 5) (v := ?_) rfl (by kernel_rfl) (by kernel_rfl) (by kernel_rfl) (fun _ _ _ h => h) (Or.inl ⟨by rfl, ?_⟩) hHeld ?_
      rotate_left
      · (intro w hSw; (try dsimp only at hSw); go_simp; try (with_reducible rfl))
      simp only [Act.put, List.getElem_toArray, List.getElem_cons_zero, List.getElem_cons_succ, List.setIfInBounds_toArray, List.set_cons_zero, List.set_cons_succ]
      refine wpAnyH_take (i := 6) (v := ?_) rfl (by kernel_rfl) (by kernel_rfl) (by kernel_rfl) (fun _ _ _ h => h) (Or.inl ⟨by rfl, ?_⟩) hHeld ?_
      rotate_left
      · (intro w hSw; (try dsimp only at hSw); go_simp; try (with_reducible rfl))
      simp only [Act.put, List.getElem_toArray, List.getElem_cons_zero, List.getElem_cons_succ, List.setIfInBounds_toArray, List.set_cons_zero, List.set_cons_succ]
      refine wpAnyH_ready (rs := [8]) (by kernel_rfl) (by simp) ?_
      refine AllReadyH.cons rfl (fun K hK => ?_) AllReadyH.nil
      have hc0 : wb.cell? ⟨cb, 0, none⟩ = some (.int .i64 0) := (hb.cell 0).trans rfl
      have hc1 : wb.cell? ⟨cb, 1, none⟩ = some (.string ⟨#[]⟩) := (hb.cell 1).trans rfl
      have hf0 := hb.frozen 0
      have hf1 := hb.frozen 1
      go_simp
      have hb2 := (hb.set_ 0 (.int .i64 kd)).set_ 1 (.string (ba nm))
      have kc2 := (hHeld.1.setCell (p := ⟨cb, 0, none⟩) (.inr hcb) (.int .i64 kd)).setCell (p := ⟨cb, 1, none⟩) (.inr hcb) (.string (ba nm))
      have hb3 : Blk _ cb 100 #[.int .i64 kd, .string (ba nm)] := hb2
      clear hb2 hc0 hc1 hf0 hf1
      generalize (wb.setCell ⟨cb, 0, none⟩ (.int .i64 kd)).setCell ⟨cb, 1, none⟩ (.string (ba nm)) = wz at hb3 kc2 ⊢
      refine hK.out _ _ ⟨kc2, kc2.cell hcell (fun h => h)⟩ (fun hHeld => ?_)
      clear hK K
      try simp only [Act.put, List.setIfInBounds_toArray, List.set_cons_zero, List.set_cons_succ]
      refine wpAnyH_take (i := 9) (v := ?_) rfl (by kernel_rfl) (by kernel_rfl) (by kernel_rfl) (fun _ _ _ h => h) (Or.inl ⟨by rfl, ?_⟩) hHeld ?_
      rotate_left
      · (intro w hSw; (try dsimp only at hSw); go_simp; try (with_reducible rfl))
      simp only [Act.put, List.getElem_toArray, List.getElem_cons_zero, List.getElem_cons_succ, List.setIfInBounds_toArray, List.set_cons_zero, List.set_cons_succ]
      refine wpAnyH_done (by kernel_rfl) ?_ _
      refine NoPanic.normal ?_
      go_wp2_with fail
      go_meet
      exact ⟨cb, rfl, rfl, hb3, hHeld.1⟩
  case rest =>
    obtain ⟨cb, rfl, rfl, hb, kc⟩ := hcut
    dsimp only at hb
    have hc0 : wc.cell? ⟨cb, 0, none⟩ = some (.int .i64 kd) := (hb.cell 0).trans rfl
    have hc1 : wc.cell? ⟨cb, 1, none⟩ = some (.string (ba nm)) := (hb.cell 1).trans rfl
    have bxc := kc.blk bx (fun h => h)
    have hcA : wc.cell? ⟨n, 1, none⟩ = some (.slice A args.length c) := (bxc.cell 1).trans rfl
    have kw := kx.trans kc (fun _ h => .inl h)
    have bw : Below w.heap.size w wc := kw.below (Nat.le_refl _) (fun _ h => h.elim)
    have hEc := hE.later bw
    have hAc : StrsAt wc A args := kw.src hA (fun _ _ _ h => h)
    have hnm := cmd_names HCV.out
    go_wp2_with fail
    refine (Tryz.strings_Fields_laid (ba nm) _ (by rw [ba_size]; omega) (by rw [ba_toList]; exact hnm.2) hEc.spc).mono ?_
    rw [ba_toList]
    rintro e w4 ⟨rfl, hw4⟩
    have b4 : Blk w4 wc.heap.size 9 (strs (Lib.fields nm)).toArray := by rw [hw4]; exact Blk.new wc 9 _
    have k4 : Kept NoF wc w4 := by rw [hw4]; exact (Kept.refl _ _).alloc _
    clear hw4 HLK
    generalize hnb : wc.heap.size = nb at b4 ⊢
    clear hnb
    generalize hnames : Lib.fields nm = names at b4 ⊢
    have HNM := Lib.hid hnames
    clear hnames
    have hlen37 : names.length ≤ 8 := by rw [← HNM.out]; exact cmd_fields HCV.out
    have hc0' := k4.cell hc0 (fun h => h)
    have hcA' := k4.cell hcA (fun h => h)
    have bw4 : Below w.heap.size w w4 := bw.trans (k4.below bw.size (fun _ h => h.elim))
    have hE4 := hE.later bw4
    have hA4 : StrsAt w4 A args := k4.src hAc (fun _ _ _ h => h)
    have hk := kindS_eq HCV.out args
    rw [HNM.out] at hk
    have HK := Lib.hid hk
    clear hk hc0 hc1 hcA hEc hAc bxc bx kc kw hb
    cases ok
    · go_wp2_with fail
      go_ret
      exact ⟨by rw [HK.out]; rfl, bw4⟩
    · by_cases hln : names.length = args.length
      · have t1 : ((names.length : Int) != (args.length : Int)) = false := by simp; omega
        have HLN := Lib.hid hln
        clear hln
        go_wp2_with fail
        clear t1
        go_loopw [30] (KindRel w4 names args) (fun i _ => names.length - (intOf i).toNat)
        case atStart => exact ⟨0, Nat.zero_le _, rfl, by simp [allFit], Kept.refl _ _⟩
        case round =>
          obtain ⟨k, hk, rfl, hall, kr⟩ := hrel
          have HALL := Lib.hid hall
          clear hall
          by_cases hlt : k < names.length
          · have hka : k < args.length := by have := HLN.out; omega
            have b4r := kr.blk b4 (fun h => h)
            have hnm : wr.cell? ⟨nb, k, none⟩ = some (.string (ba names[k])) := (b4r.cell k).trans (by simp [strs, hlt])
            have hAr : StrsAt wr A args := kr.src hA4 (fun _ _ _ h => h)
            obtain ⟨ab, ao, rfl, hab, hcs⟩ := hAr.at_ hka
            have hcA : wr.cell? ⟨n, 1, none⟩ = some (.slice (some ⟨ab, ao, none⟩) args.length c) := kr.cell hcA' (fun h => h)
            have i1 : (0 : Int) ≤ (k : Int) := by omega
            have i2 : (k : Int) < (args.length : Int) := by omega
            have hfs := formFn_cases names[k]
            have HFm := Lib.hid (form_any (ba names[k]))
            have hEr := hE4.kept kr (fun _ h => h.elim)
            have hsz := hs _ (List.getElem_mem hka)
            have hsn := allFit_snoc hlt hka HALL.out
            have HSN := Lib.hid hsn
            clear hsn
            rw [show (ba names[k]).data.toList = names[k] from ba_toList _] at HFm
            generalize formFn names[k] = fn at HFm hfs HSN
            have hEnt := fit_enters hfs
            have HFit := Lib.hid (fun W hW => fit_any hfs (ba args[k]) W hW (by rw [ba_size]; omega))
            rw [ba_toList] at HFit
            unfold fnVal at HFm
            clear hfs
            go_upto_region 8 with fail
            refine wp_region_noPanic ?_
            refine wp_region_held_drew (S := (fun w' => Kept NoF wr w' ∧ w'.cell? ⟨n, 1, none⟩ = some (.slice (some ⟨ab, ao, none⟩) args.length c) ∧ w'.cell? ⟨ab, ao + k, none⟩ = some (.string (ba args[k])))) (by kernel_rfl) ?_ (fun hHeld => ?_)
            · exact ⟨(Kept.refl NoF wr).drew, hcA, hcs⟩
            generalize wr.drew = W0 at hHeld ⊢
            refine wpAnyH_take (i := 0) (v := ?_) rfl (by kernel_rfl) (by kernel_rfl) (by kernel_rfl) (fun _ _ _ h => h) (Or.inl ⟨by rfl, ?_⟩) hHeld ?_
            rotate_left
            · (intro w hSw; (try dsimp only at hSw); go_simp; try (with_reducible rfl))
            simp only [Act.put, List.getElem_toArray, List.getElem_cons_zero, List.setIfInBounds_toArray, List.set_cons_zero, List.set_cons_succ]
            refine wpAnyH_take (i := 2) (v := ?_) rfl (by kernel_rfl) (by kernel_rfl) (by kernel_rfl) (fun _ _ _ h => h) (Or.inl ⟨by rfl, ?_⟩) hHeld ?_
            rotate_left
            · (intro w hSw; (try dsimp only at hSw); go_simp; try (with_reducible rfl))
            simp only [Act.put, List.getElem_toArray, List.getElem_cons_zero, List.getElem_cons_succ, List.setIfInBounds_toArray, List.set_cons_zero, List.set_cons_succ]
            refine wpAnyH_take (i := 3) (v := ?_) rfl (by kernel_rfl) (by kernel_rfl) (by kernel_rfl) (fun _ _ _ h => h) (Or.inl ⟨by rfl, ?_⟩) hHeld ?_
            rotate_left
            · (intro w hSw; (try dsimp only at hSw); go_simp; try (with_reducible rfl))
            simp only [Act.put, List.getElem_toArray, List.getElem_cons_zero, List.getElem_cons_succ, List.setIfInBounds_toArray, List.set_cons_zero, List.set_cons_succ]
            refine wpAnyH_take (i := 4) (v := ?_) rfl (by kernel_rfl) (by kernel_rfl) (by kernel_rfl) (fun _ _ _ h => h) (Or.inl ⟨by rfl, ?_⟩) hHeld ?_
            rotate_left
            · (intro w hSw; (try dsimp only at hSw); go_simp; try (with_reducible rfl))
            simp only [Act.put, List.getElem_toArray, List.getElem_cons_zero, List.getElem_cons_succ, List.setIfInBounds_toArray, List.set_cons_zero, List.set_cons_succ]
            refine wpAnyH_take (i := 5) (v := ?_) rfl (by kernel_rfl) (by kernel_rfl) (by kernel_rfl) (fun _ _ _ h => h) (Or.inl ⟨by rfl, ?_⟩) hHeld ?_
            rotate_left
            · (intro w hSw; (try dsimp only at hSw); go_simp; try (with_reducible rfl))
            simp only [Act.put, List.getElem_toArray, List.getElem_cons_zero, List.getElem_cons_succ, List.setIfInBounds_toArray, List.set_cons_zero, List.set_cons_succ]
            refine wpAnyH_take (i := 6) (v := ?_) rfl (by kernel_rfl) (by kernel_rfl) (by kernel_rfl) (fun _ _ _ h => h) (Or.inl ⟨by rfl, ?_⟩) hHeld ?_
            rotate_left
            · (intro w hSw; (try dsimp only at hSw); go_simp; try (with_reducible rfl))
            simp only [Act.put, List.getElem_toArray, List.getElem_cons_zero, List.getElem_cons_succ, List.setIfInBounds_toArray, List.set_cons_zero, List.set_cons_succ]
            refine wpAnyH_ready (rs := [1]) (by kernel_rfl) (by simp) ?_
            refine AllReadyH.cons rfl (fun K hK => ?_) AllReadyH.nil
            go_simp
            refine (HFm.out _).mono ?_
            rintro e wa ⟨rfl, ba1⟩
            have ka := hHeld.1.trans (Kept.of_below (F := NoF) ba1) (fun _ h => .inl h)
            go_wp2_with fail
            refine hK.out _ _ ⟨ka, ka.cell hcA (fun h => h), ka.cell hcs (fun h => h)⟩ (fun hHeld => ?_)
            clear hK K
            try simp only [Act.put, List.getElem_toArray, List.getElem_cons_zero, List.getElem_cons_succ, List.setIfInBounds_toArray, List.set_cons_zero, List.set_cons_succ]
            refine wpAnyH_ready (rs := [7]) (by kernel_rfl) (by simp) ?_
            refine AllReadyH.cons rfl (fun K hK => ?_) AllReadyH.nil
            go_simp
            refine (HFit.out _ (hEr.kept hHeld.1 (fun _ h => h.elim))).mono ?_
            rintro e wb ⟨rfl, bb1⟩
            have kb := hHeld.1.trans (Kept.of_below (F := NoF) bb1) (fun _ h => .inl h)
            go_wp2_with fail
            refine hK.out _ _ ⟨kb, kb.cell hcA (fun h => h), kb.cell hcs (fun h => h)⟩ (fun hHeld => ?_)
            clear hK K
            try simp only [Act.put, List.getElem_toArray, List.getElem_cons_zero, List.getElem_cons_succ, List.setIfInBounds_toArray, List.set_cons_zero, List.set_cons_succ]
            refine wpAnyH_take (i := 8) (v := ?_) rfl (by kernel_rfl) (by kernel_rfl) (by kernel_rfl) (fun _ _ _ h => h) (Or.inl ⟨by rfl, ?_⟩) hHeld ?_
            rotate_left
            · (intro w hSw; (try dsimp only at hSw); go_simp; try (with_reducible rfl))
            simp only [Act.put, List.getElem_toArray, List.getElem_cons_zero, List.getElem_cons_succ, List.setIfInBounds_toArray, List.set_cons_zero, List.set_cons_succ]
            refine wpAnyH_done (by kernel_rfl) ?_ _
            refine NoPanic.normal ?_
            clear hEnt HFit HFm hcA hcs
            generalize hft : fitsFn fn args[k] = ft at HSN ⊢
            clear hft
            cases ft
            · go_wp2_with fail
              go_ret
              refine ⟨?_, bw4.trans ((kr.trans hHeld.1 (fun _ h => .inl h)).below bw4.size (fun _ h => h.elim))⟩
              have : allFit names args = false := allFit_false (k + 1) HSN.out
              rw [HK.out]
              simp [this]
            · go_wp2_with fail
              go_roundw
              case rel => exact ⟨k + 1, by omega, by go_num, HSN.out, kr.trans hHeld.1 (fun _ h => .inl h)⟩
              case measure => simp [intOf]; omega
          · have hc0r := kr.cell hc0' (fun h => h)
            go_wp2_with fail
            go_ret
            refine ⟨?_, bw4.trans (kr.below bw4.size (fun _ h => h.elim))⟩
            have hl := HLN.out
            have : allFit names args = true := by
              have := HALL.out
              rw [List.take_of_length_le (by omega), List.take_of_length_le (by omega)] at this
              exact this
            rw [HK.out]
            simp [this, hl]
      · have t1 : ((names.length : Int) != (args.length : Int)) = true := by simp; omega
        go_wp2_with fail
        go_ret
        exact ⟨by rw [HK.out]; simp [hln], bw4⟩

end Go.Proofs.YtfnfjfcncijapaaGreatDoor
