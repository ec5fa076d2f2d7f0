/- script.Event (printed by genEvC.py). -/
import Derived.Test.YtfnfjfcncijapaaGreatDoorEvB
namespace Go.Proofs.YtfnfjfcncijapaaGreatDoor
open Go.RowKit Go.Shelf
attribute [local go_sem] Oper.semAt_some

theorem field100 (kd : Int) (nm : ByteArray) (W : World) : (Instr.field 100 (.agg #[.int .i64 kd, .string nm]) 1).run Tryz.prog W = .ok (.string nm) W := by
  have h9 := Tryz.isAgg9
  have z9 := Tryz.sizeOf9
  simp [Instr.field, run_underlying Tryz.underlying100, part, asAgg, h9, z9]
def FlagRel (w5 : World) (eb : Nat) (ev : EvD) (a : List UInt8) (i : Value) (wr : World) : Prop :=
  ∃ (k : Nat) (v : Value), k ≤ a.length ∧ i = .int .i64 (k : Int) ∧ Blk wr eb 47 (({ ev with data := (a.take k).map (· - 48) } : EvD).cells v) ∧ wr.ownsRow w5.heap.size 5 1 v k (bvs ((a.take k).map (· - 48))) ∧ Kept (fun x => x = eb) w5 wr
/-- The event so far. -/
def EvRel (w1 : World) (eb : Nat) (k : Int) (names args : List (List UInt8)) (i : Value) (wr : World) : Prop :=
  ∃ (j : Nat) (v : Value), j ≤ names.length ∧ i = .int .i64 (j : Int) ∧ Blk wr eb 47 ((evFold k (names.take j) (args.take j)).cells v) ∧ DatAt wr eb v (evFold k (names.take j) (args.take j)).data ∧
    ((names.take j).any isData = false → v = .slice none 0 0 ∧ (evFold k (names.take j) (args.take j)).data = []) ∧ Kept (fun x => x = eb) w1 wr
theorem isData_snoc {names : List (List UInt8)} {j : Nat} (h : j < names.length) : (names.take (j + 1)).any isData = ((names.take j).any isData || isData names[j]) := by
  rw [List.take_succ_eq_append_getElem h, List.any_append]; simp
theorem results_event {tmps : Array Value} {W : World} {n : Nat} {cs : Array Value} (hz : cs.size = 10) (h2 : tmps.getD 2 undef = .pointer (some ⟨n, 0, none⟩)) (hb : Blk W n 47 cs) :
    (results Tryz.f19 tmps).run Tryz.prog W = .ok (.tuple #[.agg cs, tmps.getD 3 undef]) W := by
  rw [results_cell_tmp (p := 2) (u := 3) (ty := 47) rfl, h2]
  have hl := run_loadVar_row (P := Tryz.prog) W n 47 47 cs (0, 0) _ hb Tryz.underlying47 rfl (by rw [hz]; kernel_rfl)
  simp [asAddr, hl, Result.andThen]
theorem below_sets {B : Nat} {w w' : World} (h : Below B w w') (n : Nat) (hn : B ≤ n) (l : List (Nat × Value)) : Below B w (l.foldl (fun W p => W.setCell ⟨n, p.1, none⟩ p.2) w') := by
  induction l generalizing w' with
  | nil => exact h
  | cons p l ih => exact ih (h.setCell (p := ⟨n, p.1, none⟩) hn p.2)
theorem kept_sets {F : Nat → Prop} {w w' : World} (h : Kept F w w') (n : Nat) (hn : F n ∨ w.heap.size ≤ n) (l : List (Nat × Value)) : Kept F w (l.foldl (fun W p => W.setCell ⟨n, p.1, none⟩ p.2) w') := by
  induction l generalizing w' with
  | nil => exact h
  | cons p l ih => exact ih (h.setCell (p := ⟨n, p.1, none⟩) hn p.2)
theorem blk_sets {w : World} {n : Nat} {t : TypeId} {cs : Array Value} (h : Blk w n t cs) (l : List (Nat × Value)) : Blk (l.foldl (fun W p => W.setCell ⟨n, p.1, none⟩ p.2) w) n t (l.foldl (fun c p => c.setIfInBounds p.1 p.2) cs) := by
  induction l generalizing w cs with
  | nil => exact h
  | cons p l ih => exact ih (h.set_ p.1 p.2)
def evList (e : EvD) (v : Value) : List (Nat × Value) := [(0, .int .i64 e.kind), (1, .int .i64 e.dev), (2, .int .i64 e.oth), (3, .int .i64 e.vault), (4, .string (ba e.path)), (5, .string (ba e.dest)), (6, v), (7, .int .i64 e.num), (8, .int .i64 e.cut), (9, .bool e.on)]
theorem evList_cells (e f : EvD) (v u : Value) : (evList e v).foldl (fun c p => c.setIfInBounds p.1 p.2) (f.cells u) = e.cells v := by
  simp only [evList, EvD.cells, List.foldl_cons, List.foldl_nil, List.setIfInBounds_toArray, List.set_cons_zero, List.set_cons_succ]
/-- The event of a step, or the error. -/
def evS (cmd : List UInt8) (args : List (List UInt8)) : EvD × Int :=
  if kindS cmd args = 0 then (ev0 0, 1) else if kindS cmd args = 2 then (evFold (evK cmd) (Lib.fields (cmdV (cmdTable.find? (fun p => p.1 == cmd))).2.1) args, 0) else (ev0 0, 14)
def EvPost (r : EvD × Int) (w : World) (e : Ending) (w' : World) : Prop :=
  ∃ v A c, e = .returned (.tuple #[.agg (r.1.cells v), .int .i64 r.2]) ∧ v = .slice A r.1.data.length c ∧ Reads w' w'.heap.size 1 A r.1.data.length (bvs r.1.data) ∧ Below w.heap.size w w'

set_option maxHeartbeats 8000000 in
set_option maxRecDepth 100000 in
theorem event_any (cmd : ByteArray) (A : Option Addr) (c : Nat) (args : List (List UInt8)) (w : World) (hE : Env w) (hA : StrsAt w A args) (hs : ∀ a ∈ args, a.length ≤ 65536) :
    Calls Tryz.prog 19 #[.agg #[.string cmd, .slice A args.length c]] w (EvPost (evS cmd.data.toList args) w) := by
  have HEV : Hid (evS cmd.data.toList args = if kindS cmd.data.toList args = 0 then (ev0 0, 1) else if kindS cmd.data.toList args = 2 then (evFold (evK cmd.data.toList) (Lib.fields (cmdV (cmdTable.find? (fun p => p.1 == cmd.data.toList))).2.1) args, 0) else (ev0 0, 14)) := Lib.hid rfl
  generalize evS cmd.data.toList args = res at HEV
  have HLK := Lib.hid (cmd_lookup0 cmd)
  generalize hcv : cmdV (cmdTable.find? (fun p => p.1 == cmd.data.toList)) = cv at HLK HEV
  obtain ⟨kd, nm, ok⟩ := cv
  have HKE := Lib.hid (kindS_eq hcv args)
  have HNM := Lib.hid (cmd_names hcv)
  have H100 := Lib.hid (cmd_fields hcv)
  have HRW := Lib.hid (fun (h : (kd, nm, ok) = (2, nm, true)) => row_of (hcv.trans h))
  clear hcv
  dsimp only at HEV HLK
  have bx := Blk.new w 45 #[.string cmd, .slice A args.length c]
  have b0 : Below w.heap.size w (w.alloc (.cells #[.string cmd, .slice A args.length c] 45)) := (Below.refl _ _).alloc (Nat.le_refl _) _
  have HE := Lib.hid hE
  have HS := Lib.hid hs
  have hnl := (cmd_names (cmd := cmd) (kd := kd) (nm := nm) (ok := ok) |> fun _ => HNM.out.1)
  have HAL := Lib.hid (show ∀ ad, A = some ad → 0 < args.length → ad.block < w.heap.size from fun ad e hp => by
    obtain ⟨ad', e', hb, _⟩ := hA.2 hp
    rw [e] at e'
    injection e' with e'
    subst e'
    exact hb)
  clear hE hs
  go_enter Tryz.func19, Tryz.ntmps19
  go_upto_region 1 with fail
  have br0 := Blk.new (w.alloc (.cells #[.string cmd, .slice A args.length c] 45)) 47 ((ev0 0).cells (.slice none 0 0))
  have k1 := (Kept.refl NoF (w.alloc (.cells #[.string cmd, .slice A args.length c] 45))).alloc (.cells ((ev0 0).cells (.slice none 0 0)) 47)
  have b1 := b0.alloc b0.size (.cells ((ev0 0).cells (.slice none 0 0)) 47)
  have hsz : (w.alloc (.cells #[.string cmd, .slice A args.length c] 45)).heap.size = w.heap.size + 1 := by simp
  rw [hsz] at br0
  have bx1 := k1.blk bx (fun h => h)
  have hA1 : StrsAt _ A args := hA.same (Kept.of_below (F := NoF) b1)
  have hww : (w.alloc (.cells #[.string cmd, .slice A args.length c] 45)).alloc (.cells ((ev0 0).cells (.slice none 0 0)) 47) = (w.alloc (.cells #[.string cmd, .slice A args.length c] 45)).alloc (.cells #[.int .i64 0, .int .i64 0, .int .i64 0, .int .i64 0, .string ⟨#[]⟩, .string ⟨#[]⟩, .slice none 0 0, .int .i64 0, .int .i64 0, .bool false] 47) := rfl
  rw [hww] at br0 b1 bx1 hA1
  clear hww bx b0 k1 hA
  generalize (w.alloc (.cells #[.string cmd, .slice A args.length c] 45)).alloc (.cells #[.int .i64 0, .int .i64 0, .int .i64 0, .int .i64 0, .string ⟨#[]⟩, .string ⟨#[]⟩, .slice none 0 0, .int .i64 0, .int .i64 0, .bool false] 47) = w1 at br0 b1 bx1 hA1 ⊢
  have c10 : w1.cell? ⟨w.heap.size, 0, none⟩ = some (.string cmd) := (bx1.cell 0).trans rfl
  have c11 : w1.cell? ⟨w.heap.size, 1, none⟩ = some (.slice A args.length c) := (bx1.cell 1).trans rfl
  have CK := Lib.hid (kind_any cmd A c args w1 (HE.out.later b1) hA1 (fun a ha => by have := HS.out a ha; omega))
  generalize kindS cmd.data.toList args = kk at CK HKE HEV
  go_wp2_with fail
  refine CK.out.mono ?_
  clear CK
  rintro e w2 ⟨rfl, b2⟩
  have k2 : Kept NoF w1 w2 := Kept.of_below b2
  have bx2 := k2.blk bx1 (fun h => h)
  have br2 := k2.blk br0 (fun h => h)
  have bw2 := b1.trans (b2.mono b1.size)
  have hA2 := hA1.same k2
  clear b1 b2 bx1 br0 c10 c11 hA1 k2
  have zr : ∀ i, w2.frozen? ⟨w.heap.size + 1, i, none⟩ = false := fun i => br2.frozen i
  have r0 := (br2.cell 0).trans (show ((ev0 0).cells (.slice none 0 0))[0]? = some (.int .i64 0) from rfl)
  have r1 := (br2.cell 1).trans (show ((ev0 0).cells (.slice none 0 0))[1]? = some (.int .i64 0) from rfl)
  have r2 := (br2.cell 2).trans (show ((ev0 0).cells (.slice none 0 0))[2]? = some (.int .i64 0) from rfl)
  have r3 := (br2.cell 3).trans (show ((ev0 0).cells (.slice none 0 0))[3]? = some (.int .i64 0) from rfl)
  have r4 := (br2.cell 4).trans (show ((ev0 0).cells (.slice none 0 0))[4]? = some (.string (ba [])) from rfl)
  have r5 := (br2.cell 5).trans (show ((ev0 0).cells (.slice none 0 0))[5]? = some (.string (ba [])) from rfl)
  have r6 := (br2.cell 6).trans (show ((ev0 0).cells (.slice none 0 0))[6]? = some (.slice none 0 0) from rfl)
  have r7 := (br2.cell 7).trans (show ((ev0 0).cells (.slice none 0 0))[7]? = some (.int .i64 0) from rfl)
  have r8 := (br2.cell 8).trans (show ((ev0 0).cells (.slice none 0 0))[8]? = some (.int .i64 0) from rfl)
  have r9 := (br2.cell 9).trans (show ((ev0 0).cells (.slice none 0 0))[9]? = some (.bool false) from rfl)
  by_cases hk0 : kk = 0
  · have q0 : (kk == 0) = true := by simpa using hk0
    have HR := Lib.hid (HEV.out.trans (if_pos hk0))
    clear hk0
    go_wp2_with fail
    refine bodyPost_ret (results_event rfl rfl (blk_sets br2 (evList (ev0 0) (.slice none 0 0)))) rfl ?_
    rw [HR.out, evList_cells]
    refine ⟨.slice none 0 0, none, 0, ?_, rfl, Reads.none_, ?_⟩
    · exact rfl
    · exact below_sets bw2 (w.heap.size + 1) (by omega) (evList (ev0 0) (.slice none 0 0))
  · have q0 : (kk == 0) = false := by simpa using hk0
    by_cases hk2 : kk = 2
    · have q2 : (kk == 2) = true := by simpa using hk2
      have HR := Lib.hid ((HEV.out.trans (if_neg hk0)).trans (if_pos hk2))
      have hke := HKE.out
      have hcond : ok = true ∧ (Lib.fields nm).length = args.length ∧ allFit (Lib.fields nm) args = true := Decidable.by_contra (fun hc => by rw [if_neg hc] at hke; omega)
      rw [if_pos hcond] at hke
      obtain ⟨rfl, hlen, hfit⟩ := hcond
      obtain rfl : kd = 2 := by omega
      have hrow := HRW.out rfl
      clear hke HKE HRW HEV hk0 hk2
      have HFIT := Lib.hid hfit
      have HROW := Lib.hid hrow
      clear hfit hrow
      clear r0 r1 r2 r3 r4 r5 r6 r7 r8 r9 zr
      have c20 : w2.cell? ⟨w.heap.size, 0, none⟩ = some (.string cmd) := (bx2.cell 0).trans rfl
      go_wp2_with fail
      refine (eventKind_any cmd w2).mono ?_
      rintro e w3 ⟨rfl, b3⟩
      have k3 : Kept NoF w2 w3 := Kept.of_below b3
      have bx3 := k3.blk bx2 (fun h => h)
      have br3 := k3.blk br2 (fun h => h)
      have bw3 := bw2.trans (b3.mono bw2.size)
      have hA3 := hA2.same k3
      clear b3 k3 bx2 br2 bw2 hA2 c20
      generalize evK cmd.data.toList = ek at HR ⊢
      have bq := Blk.new w3 47 ((ev0 ek).cells (.slice none 0 0))
      have k4 := (Kept.refl NoF w3).alloc (.cells ((ev0 ek).cells (.slice none 0 0)) 47)
      have bw5 := bw3.alloc bw3.size (.cells ((ev0 ek).cells (.slice none 0 0)) 47)
      have hww : w3.alloc (.cells ((ev0 ek).cells (.slice none 0 0)) 47) = w3.alloc (.cells #[.int .i64 ek, .int .i64 0, .int .i64 0, .int .i64 0, .string ⟨#[]⟩, .string ⟨#[]⟩, .slice none 0 0, .int .i64 0, .int .i64 0, .bool false] 47) := rfl
      rw [hww] at bq k4 bw5
      clear hww
      go_upto_region 7 with fail
      generalize w3.alloc (.cells #[.int .i64 ek, .int .i64 0, .int .i64 0, .int .i64 0, .string ⟨#[]⟩, .string ⟨#[]⟩, .slice none 0 0, .int .i64 0, .int .i64 0, .bool false] 47) = w5 at bq k4 bw5 ⊢
      have heb := br3.lt
      have bx5 := k4.blk bx3 (fun h => h)
      have br5 := k4.blk br3 (fun h => h)
      have hA5 := hA3.same k4
      clear k4 bx3 br3 hA3 bw3
      generalize w3.heap.size = eb at bq heb ⊢
      have c50 : w5.cell? ⟨w.heap.size, 0, none⟩ = some (.string cmd) := (bx5.cell 0).trans rfl
      refine wp_region_noPanic ?_
      refine wp_region_held_drew (S := (fun w' => Kept NoF w5 w' ∧ w'.cell? ⟨w.heap.size, 0, none⟩ = some (.string cmd))) (by kernel_rfl) ?_ (fun hHeld => ?_)
      · exact ⟨(Kept.refl NoF w5).drew, c50⟩
      generalize w5.drew = W0 at hHeld ⊢
      refine wpAnyH_take (i := 1) (v := ?_) rfl (by kernel_rfl) (by kernel_rfl) (by kernel_rfl) (fun _ _ _ h => h) (Or.inl ⟨by rfl, ?_⟩) hHeld ?_
      rotate_left
      · (intro w hSw; (try dsimp only at hSw); go_simp; try (with_reducible rfl))
      simp only [Act.put, List.getElem_toArray, List.getElem_cons_zero, List.getElem_cons_succ, List.setIfInBounds_toArray, List.set_cons_zero, List.set_cons_succ]
      refine wpAnyH_take (i := 2) (v := ?_) rfl (by kernel_rfl) (by kernel_rfl) (by kernel_rfl) (fun _ _ _ h => h) (Or.inl ⟨by rfl, ?_⟩) hHeld ?_
      rotate_left
      · (intro w hSw; (try dsimp only at hSw); go_simp; try (with_reducible rfl))
      simp only [Act.put, List.getElem_toArray, List.getElem_cons_zero, List.getElem_cons_succ, List.setIfInBounds_toArray, List.set_cons_zero, List.set_cons_succ]
      refine wpAnyH_take (i := 7) (v := ?_) rfl (by kernel_rfl) (by kernel_rfl) (by kernel_rfl) (fun _ _ _ h => h) (Or.inl ⟨by rfl, ?_⟩) hHeld ?_
      rotate_left
      · (intro w hSw; (try dsimp only at hSw); go_simp; try (with_reducible rfl))
      simp only [Act.put, List.getElem_toArray, List.getElem_cons_zero, List.getElem_cons_succ, List.setIfInBounds_toArray, List.set_cons_zero, List.set_cons_succ]
      refine wpAnyH_ready (rs := [0]) (by kernel_rfl) (by simp) ?_
      refine AllReadyH.cons rfl (fun K hK => ?_) AllReadyH.nil
      go_simp
      refine (commands_any _).mono ?_
      rintro e wa ⟨rfl, hcall⟩
      have hm : wa.heap[W0.heap.size]? = some cmdMap := by rw [← hcall]; exact World.alloc_heap_new _ _
      have kc := hHeld.1.trans (show Kept NoF W0 wa by rw [← hcall]; exact (Kept.refl _ _).alloc _) (fun _ h => .inl h)
      clear hcall
      go_wp2_with fail
      refine hK.out _ _ ⟨kc, kc.cell c50 (fun h => h)⟩ (fun hHeld => ?_)
      clear hK K
      try simp only [Act.put, List.getElem_toArray, List.getElem_cons_zero, List.getElem_cons_succ, List.setIfInBounds_toArray, List.set_cons_zero, List.set_cons_succ]
      refine wpAnyH_ready (rs := [3]) (by kernel_rfl) (by simp) ?_
      refine AllReadyH.cons rfl (fun K hK => ?_) AllReadyH.nil
      go_simp
      rw [HLK.out wa _ hm]
      simp only [Result.andThen]
      rw [Oper.upon_value]
      refine hK.out _ _ hHeld (fun hHeld => ?_)
      clear hK K
      simp only [Act.put, List.setIfInBounds_toArray, List.set_cons_zero, List.set_cons_succ]
      have hfd := fun W => field100 2 (ba nm) W
      refine wpAnyH_take (i := 4) (v := ?_) rfl (by kernel_rfl) (by kernel_rfl) (by kernel_rfl) (fun _ _ _ h => h) (Or.inl ⟨by rfl, ?_⟩) hHeld ?_
      rotate_left
      · (intro w hSw; (try dsimp only at hSw); go_simp; try (with_reducible rfl))
      simp only [Act.put, List.getElem_toArray, List.getElem_cons_zero, List.getElem_cons_succ, List.setIfInBounds_toArray, List.set_cons_zero, List.set_cons_succ]
      clear hfd
      refine wpAnyH_ready (rs := [5]) (by kernel_rfl) (by simp) ?_
      refine AllReadyH.cons rfl (fun K hK => ?_) AllReadyH.nil
      go_simp
      refine (Tryz.strings_Fields_laid (ba nm) _ (by rw [ba_size]; omega) (by rw [ba_toList]; exact HNM.out.2) (HE.out.later (bw5.trans (hHeld.1.below (Nat.le_refl _) (fun _ h => h.elim) |>.mono bw5.size))).spc).mono ?_
      rw [ba_toList]
      rintro e wf ⟨rfl, hw4⟩
      have bn : Blk wf wa.heap.size 9 (strs (Lib.fields nm)).toArray := by rw [hw4]; exact Blk.new wa 9 _
      have kf : Kept NoF w5 wf := hHeld.1.trans (show Kept NoF wa wf by rw [hw4]; exact (Kept.refl _ _).alloc _) (fun _ h => .inl h)
      clear hw4
      go_wp2_with fail
      refine hK.out _ _ ⟨kf, kf.cell c50 (fun h => h)⟩ (fun hHeld => ?_)
      clear hK K
      try simp only [Act.put, List.getElem_toArray, List.getElem_cons_zero, List.getElem_cons_succ, List.setIfInBounds_toArray, List.set_cons_zero, List.set_cons_succ]
      refine wpAnyH_take (i := 6) (v := ?_) rfl (by kernel_rfl) (by kernel_rfl) (by kernel_rfl) (fun _ _ _ h => h) (Or.inl ⟨by rfl, ?_⟩) hHeld ?_
      rotate_left
      · (intro w hSw; (try dsimp only at hSw); go_simp; try (with_reducible rfl))
      simp only [Act.put, List.getElem_toArray, List.getElem_cons_zero, List.getElem_cons_succ, List.setIfInBounds_toArray, List.set_cons_zero, List.set_cons_succ]
      refine wpAnyH_done (by kernel_rfl) ?_ _
      refine NoPanic.normal ?_
      have hnb : eb < wa.heap.size := Nat.lt_of_lt_of_le bq.lt kc.size
      generalize wa.heap.size = nb at bn hnb ⊢
      have bxf := kf.blk bx5 (fun h => h)
      have brf := kf.blk br5 (fun h => h)
      have bqf := kf.blk bq (fun h => h)
      have hAf := hA5.same kf
      have bwf : Below w.heap.size w wf := bw5.trans (kf.below (Nat.le_refl _) (fun _ h => h.elim) |>.mono bw5.size)
      clear bx5 br5 bq hA5 bw5 kf kc hm c50 hHeld HLK
      generalize Lib.fields nm = names at bn HR HFIT HROW hlen H100 ⊢
      have hl8 : names.length ≤ 8 := H100.out
      go_wp2_with fail
      go_loopw [29] (EvRel wf eb ek names args) (fun i _ => names.length - (intOf i).toNat)
      case atStart => exact ⟨0, .slice none 0 0, Nat.zero_le _, rfl, bqf, DatAt.nil _ _, fun _ => ⟨rfl, rfl⟩, Kept.refl _ _⟩
      case round =>
        clear bqf
        obtain ⟨j, v, hj, rfl, hbk, hdat, hnil, kr⟩ := hrel
        have HNL := Lib.hid hnil
        clear hnil
        by_cases hlt : j < names.length
        · have hlt' : j < args.length := by omega
          have HSN := Lib.hid (evFold_snoc ek hlt hlt')
          have HDS := Lib.hid (isData_snoc hlt)
          obtain ⟨hmem, hfl⟩ := row_mem HROW.out hlt
          have HFL := Lib.hid hfl
          have HFT := Lib.hid (fit_at HFIT.out hlt hlt')
          have cn : wr.cell? ⟨nb, j, none⟩ = some (.string (ba names[j])) := kr.cell ((bn.cell j).trans (by simp [strs, hlt])) (Nat.ne_of_gt hnb)
          have cA : wr.cell? ⟨w.heap.size, 1, none⟩ = some (.slice A args.length c) := kr.cell ((bxf.cell 1).trans rfl) (by show ¬ w.heap.size = eb; omega)
          have hAr : StrsAt wr A args := kr.src hAf (fun ad e hp => by have := HAL.out ad e hp; show ¬ ad.block = eb; omega)
          obtain ⟨xb, xo, rfl, hxb, cx⟩ := hAr.at_ hlt'
          have i1 : (j : Int) < (names.length : Int) := by omega
          have i2 : (j : Int) < (args.length : Int) := by omega
          have hal := HS.out _ (List.getElem_mem hlt')
          clear hfl hAr hAf
          generalize evFold ek (names.take j) (args.take j) = ev at hbk hdat HNL HSN
          generalize names[j] = n at cn hmem HSN HDS HFL HFT
          generalize args[j] = a at cx HSN HFT hal
          simp only [evNames, List.mem_cons, List.not_mem_nil, or_false] at hmem
          rcases hmem with rfl | rfl | rfl | rfl | rfl | rfl | rfl | rfl | rfl | rfl | rfl | rfl | rfl | rfl
          · skip
            have q0 : ((ba [68]).toList == [68]) = true := by rw [cmp_ba]; decide
            have hnum : isNumB a = true := by
              have := HFT.out
              rw [show formFn [68] = 97 by decide] at this
              exact this
            have CN := number46_any (ba a) wr (by rw [ba_size]; omega) (by rw [ba_toList]; exact hnum)
            rw [ba_toList] at CN
            have HCN := Lib.hid CN
            clear CN hnum
            go_wp2_with fail
            refine HCN.out.mono ?_
            clear HCN
            rintro e w5 ⟨rfl, b5⟩
            have k5 : Kept NoF wr w5 := Kept.of_below b5
            have hbk5 := k5.blk hbk (fun h => h)
            have fz := hbk5.frozen 1
            have cc := (hbk5.cell 1).trans (show (ev.cells v)[1]? = some _ from rfl)
            go_wp2_with fail
            have hb' := hbk5.set_ 1 (.int .i64 (numR a).1)
            have kd' := ((k5.mono (G := fun x => x = eb) (fun _ h => h.elim))).setCell (p := ⟨eb, 1, none⟩) (.inl rfl) (.int .i64 (numR a).1)
            have k' := kr.trans kd' (fun _ h => .inl h)
            go_roundw
            case rel => exact ⟨j + 1, _, hlt, by go_num, by rw [HSN.out]; exact hb', by rw [HSN.out]; exact hdat.kept kd', fun h => by rw [HDS.out] at h; rw [HSN.out]; exact HNL.out (by simp only [Bool.or_eq_false_iff] at h; exact h.1), k'⟩
            case measure => simp [intOf]; omega
          · skip
            have q0 : ((ba [79, 84, 72, 69, 82]).toList == [68]) = false := by rw [cmp_ba]; decide
            have q1 : ((ba [79, 84, 72, 69, 82]).toList == [79, 84, 72, 69, 82]) = true := by rw [cmp_ba]; decide
            have hnum : isNumB a = true := by
              have := HFT.out
              rw [show formFn [79, 84, 72, 69, 82] = 97 by decide] at this
              exact this
            have CN := number46_any (ba a) wr (by rw [ba_size]; omega) (by rw [ba_toList]; exact hnum)
            rw [ba_toList] at CN
            have HCN := Lib.hid CN
            clear CN hnum
            go_wp2_with fail
            refine HCN.out.mono ?_
            clear HCN
            rintro e w5 ⟨rfl, b5⟩
            have k5 : Kept NoF wr w5 := Kept.of_below b5
            have hbk5 := k5.blk hbk (fun h => h)
            have fz := hbk5.frozen 2
            have cc := (hbk5.cell 2).trans (show (ev.cells v)[2]? = some _ from rfl)
            go_wp2_with fail
            have hb' := hbk5.set_ 2 (.int .i64 (numR a).1)
            have kd' := ((k5.mono (G := fun x => x = eb) (fun _ h => h.elim))).setCell (p := ⟨eb, 2, none⟩) (.inl rfl) (.int .i64 (numR a).1)
            have k' := kr.trans kd' (fun _ h => .inl h)
            go_roundw
            case rel => exact ⟨j + 1, _, hlt, by go_num, by rw [HSN.out]; exact hb', by rw [HSN.out]; exact hdat.kept kd', fun h => by rw [HDS.out] at h; rw [HSN.out]; exact HNL.out (by simp only [Bool.or_eq_false_iff] at h; exact h.1), k'⟩
            case measure => simp [intOf]; omega
          · skip
            have q0 : ((ba [86, 65, 85, 76, 84]).toList == [68]) = false := by rw [cmp_ba]; decide
            have q1 : ((ba [86, 65, 85, 76, 84]).toList == [79, 84, 72, 69, 82]) = false := by rw [cmp_ba]; decide
            have q2 : ((ba [86, 65, 85, 76, 84]).toList == [86, 65, 85, 76, 84]) = true := by rw [cmp_ba]; decide
            have hnum : isNumB a = true := by
              have := HFT.out
              rw [show formFn [86, 65, 85, 76, 84] = 97 by decide] at this
              exact this
            have CN := number46_any (ba a) wr (by rw [ba_size]; omega) (by rw [ba_toList]; exact hnum)
            rw [ba_toList] at CN
            have HCN := Lib.hid CN
            clear CN hnum
            go_wp2_with fail
            refine HCN.out.mono ?_
            clear HCN
            rintro e w5 ⟨rfl, b5⟩
            have k5 : Kept NoF wr w5 := Kept.of_below b5
            have hbk5 := k5.blk hbk (fun h => h)
            have fz := hbk5.frozen 3
            have cc := (hbk5.cell 3).trans (show (ev.cells v)[3]? = some _ from rfl)
            go_wp2_with fail
            have hb' := hbk5.set_ 3 (.int .i64 (numR a).1)
            have kd' := ((k5.mono (G := fun x => x = eb) (fun _ h => h.elim))).setCell (p := ⟨eb, 3, none⟩) (.inl rfl) (.int .i64 (numR a).1)
            have k' := kr.trans kd' (fun _ h => .inl h)
            go_roundw
            case rel => exact ⟨j + 1, _, hlt, by go_num, by rw [HSN.out]; exact hb', by rw [HSN.out]; exact hdat.kept kd', fun h => by rw [HDS.out] at h; rw [HSN.out]; exact HNL.out (by simp only [Bool.or_eq_false_iff] at h; exact h.1), k'⟩
            case measure => simp [intOf]; omega
          · skip
            have q0 : ((ba [80, 65, 84, 72]).toList == [68]) = false := by rw [cmp_ba]; decide
            have q1 : ((ba [80, 65, 84, 72]).toList == [79, 84, 72, 69, 82]) = false := by rw [cmp_ba]; decide
            have q2 : ((ba [80, 65, 84, 72]).toList == [86, 65, 85, 76, 84]) = false := by rw [cmp_ba]; decide
            have q3 : ((ba [80, 65, 84, 72]).toList == [80, 65, 84, 72]) = true := by rw [cmp_ba]; decide
            have fz := hbk.frozen 4
            have cc := (hbk.cell 4).trans (show (ev.cells v)[4]? = some _ from rfl)
            go_wp2_with fail
            have hb' := hbk.set_ 4 (.string (ba a))
            have k' := kr.setCell (p := ⟨eb, 4, none⟩) (.inl rfl) (.string (ba a))
            have kd' := (Kept.refl (fun x => x = eb) wr).setCell (p := ⟨eb, 4, none⟩) (.inl rfl) (.string (ba a))
            go_roundw
            case rel => exact ⟨j + 1, _, hlt, by go_num, by rw [HSN.out]; exact hb', by rw [HSN.out]; exact hdat.kept kd', fun h => by rw [HDS.out] at h; rw [HSN.out]; exact HNL.out (by simp only [Bool.or_eq_false_iff] at h; exact h.1), k'⟩
            case measure => simp [intOf]; omega
          · skip
            have q0 : ((ba [84, 79]).toList == [68]) = false := by rw [cmp_ba]; decide
            have q1 : ((ba [84, 79]).toList == [79, 84, 72, 69, 82]) = false := by rw [cmp_ba]; decide
            have q2 : ((ba [84, 79]).toList == [86, 65, 85, 76, 84]) = false := by rw [cmp_ba]; decide
            have q3 : ((ba [84, 79]).toList == [80, 65, 84, 72]) = false := by rw [cmp_ba]; decide
            have q4 : ((ba [84, 79]).toList == [84, 79]) = true := by rw [cmp_ba]; decide
            have fz := hbk.frozen 5
            have cc := (hbk.cell 5).trans (show (ev.cells v)[5]? = some _ from rfl)
            go_wp2_with fail
            have hb' := hbk.set_ 5 (.string (ba a))
            have k' := kr.setCell (p := ⟨eb, 5, none⟩) (.inl rfl) (.string (ba a))
            have kd' := (Kept.refl (fun x => x = eb) wr).setCell (p := ⟨eb, 5, none⟩) (.inl rfl) (.string (ba a))
            go_roundw
            case rel => exact ⟨j + 1, _, hlt, by go_num, by rw [HSN.out]; exact hb', by rw [HSN.out]; exact hdat.kept kd', fun h => by rw [HDS.out] at h; rw [HSN.out]; exact HNL.out (by simp only [Bool.or_eq_false_iff] at h; exact h.1), k'⟩
            case measure => simp [intOf]; omega
          · skip
            have q0 : ((ba [84, 69, 88, 84]).toList == [68]) = false := by rw [cmp_ba]; decide
            have q1 : ((ba [84, 69, 88, 84]).toList == [79, 84, 72, 69, 82]) = false := by rw [cmp_ba]; decide
            have q2 : ((ba [84, 69, 88, 84]).toList == [86, 65, 85, 76, 84]) = false := by rw [cmp_ba]; decide
            have q3 : ((ba [84, 69, 88, 84]).toList == [80, 65, 84, 72]) = false := by rw [cmp_ba]; decide
            have q4 : ((ba [84, 69, 88, 84]).toList == [84, 79]) = false := by rw [cmp_ba]; decide
            have q5 : ((ba [84, 69, 88, 84]).toList == [84, 69, 88, 84]) = true := by rw [cmp_ba]; decide
            have hcv : ∀ W : World, (convert 9 43 (.string (ba a))).run Tryz.prog W = .ok (.slice (some ⟨W.heap.size, 0, none⟩) (ba a).size (grownCap W (ba a).size 0 5)) (Lib.bytesWorld W 5 (ba a)) := fun W => Lib.run_convert_string_bytes W 9 43 5 (ba a) Tryz.underlying9 Tryz.underlying43 Tryz.underlying5
            have bz : Below wr.heap.size wr (Lib.bytesWorld wr 5 (ba a)) := below_bytes _ _ _
            have hd5 := conv_dat wr eb a hbk.lt
            have hbk5 := (Kept.of_below (F := NoF) bz).blk hbk (fun h => h)
            have fz := hbk5.frozen 6
            have cc := (hbk5.cell 6).trans (show (ev.cells v)[6]? = some _ from rfl)
            have hcv' := hcv wr
            clear hcv
            rw [ba_size] at hcv' hd5
            generalize grownCap wr a.length 0 5 = gc at hcv' hd5
            have hyb := hbk.lt
            clear cc fz
            generalize Lib.bytesWorld wr 5 (ba a) = w5 at hcv' hd5 hbk5 bz
            have fz := hbk5.frozen 6
            have cc := (hbk5.cell 6).trans (show (ev.cells v)[6]? = some _ from rfl)
            go_wp2_with fail
            have hb' := hbk5.set_ 6 (.slice (some ⟨wr.heap.size, 0, none⟩) a.length gc)
            have k' := (kr.trans (Kept.of_below (F := NoF) bz) (fun _ h => h.elim)).setCell (p := ⟨eb, 6, none⟩) (.inl rfl) (.slice (some ⟨wr.heap.size, 0, none⟩) a.length gc)
            have kd' := (Kept.refl (fun x => x = eb) w5).setCell (p := ⟨eb, 6, none⟩) (.inl rfl) (.slice (some ⟨wr.heap.size, 0, none⟩) a.length gc)
            go_roundw
            case rel => exact ⟨j + 1, _, hlt, by go_num, by rw [HSN.out]; exact hb', by rw [HSN.out]; exact hd5.kept kd', fun h => by rw [HDS.out] at h; simp [isData] at h, k'⟩
            case measure => simp [intOf]; omega
          · skip
            have q0 : ((ba [78]).toList == [68]) = false := by rw [cmp_ba]; decide
            have q1 : ((ba [78]).toList == [79, 84, 72, 69, 82]) = false := by rw [cmp_ba]; decide
            have q2 : ((ba [78]).toList == [86, 65, 85, 76, 84]) = false := by rw [cmp_ba]; decide
            have q3 : ((ba [78]).toList == [80, 65, 84, 72]) = false := by rw [cmp_ba]; decide
            have q4 : ((ba [78]).toList == [84, 79]) = false := by rw [cmp_ba]; decide
            have q5 : ((ba [78]).toList == [84, 69, 88, 84]) = false := by rw [cmp_ba]; decide
            have q6 : ((ba [78]).toList == [78]) = true := by rw [cmp_ba]; decide
            have hnum : isNumB a = true := by
              have := HFT.out
              rw [show formFn [78] = 97 by decide] at this
              exact this
            have CN := number46_any (ba a) wr (by rw [ba_size]; omega) (by rw [ba_toList]; exact hnum)
            rw [ba_toList] at CN
            have HCN := Lib.hid CN
            clear CN hnum
            go_wp2_with fail
            refine HCN.out.mono ?_
            clear HCN
            rintro e w5 ⟨rfl, b5⟩
            have k5 : Kept NoF wr w5 := Kept.of_below b5
            have hbk5 := k5.blk hbk (fun h => h)
            have fz := hbk5.frozen 7
            have cc := (hbk5.cell 7).trans (show (ev.cells v)[7]? = some _ from rfl)
            go_wp2_with fail
            have hb' := hbk5.set_ 7 (.int .i64 (numR a).1)
            have kd' := ((k5.mono (G := fun x => x = eb) (fun _ h => h.elim))).setCell (p := ⟨eb, 7, none⟩) (.inl rfl) (.int .i64 (numR a).1)
            have k' := kr.trans kd' (fun _ h => .inl h)
            go_roundw
            case rel => exact ⟨j + 1, _, hlt, by go_num, by rw [HSN.out]; exact hb', by rw [HSN.out]; exact hdat.kept kd', fun h => by rw [HDS.out] at h; rw [HSN.out]; exact HNL.out (by simp only [Bool.or_eq_false_iff] at h; exact h.1), k'⟩
            case measure => simp [intOf]; omega
          · skip
            have q0 : ((ba [68, 65, 89]).toList == [68]) = false := by rw [cmp_ba]; decide
            have q1 : ((ba [68, 65, 89]).toList == [79, 84, 72, 69, 82]) = false := by rw [cmp_ba]; decide
            have q2 : ((ba [68, 65, 89]).toList == [86, 65, 85, 76, 84]) = false := by rw [cmp_ba]; decide
            have q3 : ((ba [68, 65, 89]).toList == [80, 65, 84, 72]) = false := by rw [cmp_ba]; decide
            have q4 : ((ba [68, 65, 89]).toList == [84, 79]) = false := by rw [cmp_ba]; decide
            have q5 : ((ba [68, 65, 89]).toList == [84, 69, 88, 84]) = false := by rw [cmp_ba]; decide
            have q6 : ((ba [68, 65, 89]).toList == [78]) = false := by rw [cmp_ba]; decide
            have q7 : ((ba [68, 65, 89]).toList == [68, 65, 89]) = true := by rw [cmp_ba]; decide
            have hnum : isNumB a = true := by
              have := HFT.out
              rw [show formFn [68, 65, 89] = 97 by decide] at this
              exact this
            have CN := number46_any (ba a) wr (by rw [ba_size]; omega) (by rw [ba_toList]; exact hnum)
            rw [ba_toList] at CN
            have HCN := Lib.hid CN
            clear CN hnum
            go_wp2_with fail
            refine HCN.out.mono ?_
            clear HCN
            rintro e w5 ⟨rfl, b5⟩
            have k5 : Kept NoF wr w5 := Kept.of_below b5
            have hbk5 := k5.blk hbk (fun h => h)
            have fz := hbk5.frozen 7
            have cc := (hbk5.cell 7).trans (show (ev.cells v)[7]? = some _ from rfl)
            go_wp2_with fail
            have hb' := hbk5.set_ 7 (.int .i64 (numR a).1)
            have kd' := ((k5.mono (G := fun x => x = eb) (fun _ h => h.elim))).setCell (p := ⟨eb, 7, none⟩) (.inl rfl) (.int .i64 (numR a).1)
            have k' := kr.trans kd' (fun _ h => .inl h)
            go_roundw
            case rel => exact ⟨j + 1, _, hlt, by go_num, by rw [HSN.out]; exact hb', by rw [HSN.out]; exact hdat.kept kd', fun h => by rw [HDS.out] at h; rw [HSN.out]; exact HNL.out (by simp only [Bool.or_eq_false_iff] at h; exact h.1), k'⟩
            case measure => simp [intOf]; omega
          · skip
            have q0 : ((ba [66, 85, 68, 71, 69, 84]).toList == [68]) = false := by rw [cmp_ba]; decide
            have q1 : ((ba [66, 85, 68, 71, 69, 84]).toList == [79, 84, 72, 69, 82]) = false := by rw [cmp_ba]; decide
            have q2 : ((ba [66, 85, 68, 71, 69, 84]).toList == [86, 65, 85, 76, 84]) = false := by rw [cmp_ba]; decide
            have q3 : ((ba [66, 85, 68, 71, 69, 84]).toList == [80, 65, 84, 72]) = false := by rw [cmp_ba]; decide
            have q4 : ((ba [66, 85, 68, 71, 69, 84]).toList == [84, 79]) = false := by rw [cmp_ba]; decide
            have q5 : ((ba [66, 85, 68, 71, 69, 84]).toList == [84, 69, 88, 84]) = false := by rw [cmp_ba]; decide
            have q6 : ((ba [66, 85, 68, 71, 69, 84]).toList == [78]) = false := by rw [cmp_ba]; decide
            have q7 : ((ba [66, 85, 68, 71, 69, 84]).toList == [68, 65, 89]) = false := by rw [cmp_ba]; decide
            have q8 : ((ba [66, 85, 68, 71, 69, 84]).toList == [66, 85, 68, 71, 69, 84]) = true := by rw [cmp_ba]; decide
            have hnum : isNumB a = true := by
              have := HFT.out
              rw [show formFn [66, 85, 68, 71, 69, 84] = 97 by decide] at this
              exact this
            have CN := number46_any (ba a) wr (by rw [ba_size]; omega) (by rw [ba_toList]; exact hnum)
            rw [ba_toList] at CN
            have HCN := Lib.hid CN
            clear CN hnum
            go_wp2_with fail
            refine HCN.out.mono ?_
            clear HCN
            rintro e w5 ⟨rfl, b5⟩
            have k5 : Kept NoF wr w5 := Kept.of_below b5
            have hbk5 := k5.blk hbk (fun h => h)
            have fz := hbk5.frozen 7
            have cc := (hbk5.cell 7).trans (show (ev.cells v)[7]? = some _ from rfl)
            go_wp2_with fail
            have hb' := hbk5.set_ 7 (.int .i64 (numR a).1)
            have kd' := ((k5.mono (G := fun x => x = eb) (fun _ h => h.elim))).setCell (p := ⟨eb, 7, none⟩) (.inl rfl) (.int .i64 (numR a).1)
            have k' := kr.trans kd' (fun _ h => .inl h)
            go_roundw
            case rel => exact ⟨j + 1, _, hlt, by go_num, by rw [HSN.out]; exact hb', by rw [HSN.out]; exact hdat.kept kd', fun h => by rw [HDS.out] at h; rw [HSN.out]; exact HNL.out (by simp only [Bool.or_eq_false_iff] at h; exact h.1), k'⟩
            case measure => simp [intOf]; omega
          · skip
            have q0 : ((ba [65, 70, 84, 69, 82]).toList == [68]) = false := by rw [cmp_ba]; decide
            have q1 : ((ba [65, 70, 84, 69, 82]).toList == [79, 84, 72, 69, 82]) = false := by rw [cmp_ba]; decide
            have q2 : ((ba [65, 70, 84, 69, 82]).toList == [86, 65, 85, 76, 84]) = false := by rw [cmp_ba]; decide
            have q3 : ((ba [65, 70, 84, 69, 82]).toList == [80, 65, 84, 72]) = false := by rw [cmp_ba]; decide
            have q4 : ((ba [65, 70, 84, 69, 82]).toList == [84, 79]) = false := by rw [cmp_ba]; decide
            have q5 : ((ba [65, 70, 84, 69, 82]).toList == [84, 69, 88, 84]) = false := by rw [cmp_ba]; decide
            have q6 : ((ba [65, 70, 84, 69, 82]).toList == [78]) = false := by rw [cmp_ba]; decide
            have q7 : ((ba [65, 70, 84, 69, 82]).toList == [68, 65, 89]) = false := by rw [cmp_ba]; decide
            have q8 : ((ba [65, 70, 84, 69, 82]).toList == [66, 85, 68, 71, 69, 84]) = false := by rw [cmp_ba]; decide
            have q9 : ((ba [65, 70, 84, 69, 82]).toList == [65, 70, 84, 69, 82]) = true := by rw [cmp_ba]; decide
            have hnum : isNumB a = true := by
              have := HFT.out
              rw [show formFn [65, 70, 84, 69, 82] = 97 by decide] at this
              exact this
            have CN := number46_any (ba a) wr (by rw [ba_size]; omega) (by rw [ba_toList]; exact hnum)
            rw [ba_toList] at CN
            have HCN := Lib.hid CN
            clear CN hnum
            go_wp2_with fail
            refine HCN.out.mono ?_
            clear HCN
            rintro e w5 ⟨rfl, b5⟩
            have k5 : Kept NoF wr w5 := Kept.of_below b5
            have hbk5 := k5.blk hbk (fun h => h)
            have fz := hbk5.frozen 7
            have cc := (hbk5.cell 7).trans (show (ev.cells v)[7]? = some _ from rfl)
            go_wp2_with fail
            have hb' := hbk5.set_ 7 (.int .i64 (numR a).1)
            have kd' := ((k5.mono (G := fun x => x = eb) (fun _ h => h.elim))).setCell (p := ⟨eb, 7, none⟩) (.inl rfl) (.int .i64 (numR a).1)
            have k' := kr.trans kd' (fun _ h => .inl h)
            go_roundw
            case rel => exact ⟨j + 1, _, hlt, by go_num, by rw [HSN.out]; exact hb', by rw [HSN.out]; exact hdat.kept kd', fun h => by rw [HDS.out] at h; rw [HSN.out]; exact HNL.out (by simp only [Bool.or_eq_false_iff] at h; exact h.1), k'⟩
            case measure => simp [intOf]; omega
          · skip
            have q0 : ((ba [67, 85, 84]).toList == [68]) = false := by rw [cmp_ba]; decide
            have q1 : ((ba [67, 85, 84]).toList == [79, 84, 72, 69, 82]) = false := by rw [cmp_ba]; decide
            have q2 : ((ba [67, 85, 84]).toList == [86, 65, 85, 76, 84]) = false := by rw [cmp_ba]; decide
            have q3 : ((ba [67, 85, 84]).toList == [80, 65, 84, 72]) = false := by rw [cmp_ba]; decide
            have q4 : ((ba [67, 85, 84]).toList == [84, 79]) = false := by rw [cmp_ba]; decide
            have q5 : ((ba [67, 85, 84]).toList == [84, 69, 88, 84]) = false := by rw [cmp_ba]; decide
            have q6 : ((ba [67, 85, 84]).toList == [78]) = false := by rw [cmp_ba]; decide
            have q7 : ((ba [67, 85, 84]).toList == [68, 65, 89]) = false := by rw [cmp_ba]; decide
            have q8 : ((ba [67, 85, 84]).toList == [66, 85, 68, 71, 69, 84]) = false := by rw [cmp_ba]; decide
            have q9 : ((ba [67, 85, 84]).toList == [65, 70, 84, 69, 82]) = false := by rw [cmp_ba]; decide
            have q10 : ((ba [67, 85, 84]).toList == [67, 85, 84]) = true := by rw [cmp_ba]; decide
            have hnum : isNumB a = true := by
              have := HFT.out
              rw [show formFn [67, 85, 84] = 97 by decide] at this
              exact this
            have CN := number46_any (ba a) wr (by rw [ba_size]; omega) (by rw [ba_toList]; exact hnum)
            rw [ba_toList] at CN
            have HCN := Lib.hid CN
            clear CN hnum
            go_wp2_with fail
            refine HCN.out.mono ?_
            clear HCN
            rintro e w5 ⟨rfl, b5⟩
            have k5 : Kept NoF wr w5 := Kept.of_below b5
            have hbk5 := k5.blk hbk (fun h => h)
            have fz := hbk5.frozen 8
            have cc := (hbk5.cell 8).trans (show (ev.cells v)[8]? = some _ from rfl)
            go_wp2_with fail
            have hb' := hbk5.set_ 8 (.int .i64 (numR a).1)
            have kd' := ((k5.mono (G := fun x => x = eb) (fun _ h => h.elim))).setCell (p := ⟨eb, 8, none⟩) (.inl rfl) (.int .i64 (numR a).1)
            have k' := kr.trans kd' (fun _ h => .inl h)
            go_roundw
            case rel => exact ⟨j + 1, _, hlt, by go_num, by rw [HSN.out]; exact hb', by rw [HSN.out]; exact hdat.kept kd', fun h => by rw [HDS.out] at h; rw [HSN.out]; exact HNL.out (by simp only [Bool.or_eq_false_iff] at h; exact h.1), k'⟩
            case measure => simp [intOf]; omega
          · skip
            have q0 : ((ba [84, 79, 82, 78]).toList == [68]) = false := by rw [cmp_ba]; decide
            have q1 : ((ba [84, 79, 82, 78]).toList == [79, 84, 72, 69, 82]) = false := by rw [cmp_ba]; decide
            have q2 : ((ba [84, 79, 82, 78]).toList == [86, 65, 85, 76, 84]) = false := by rw [cmp_ba]; decide
            have q3 : ((ba [84, 79, 82, 78]).toList == [80, 65, 84, 72]) = false := by rw [cmp_ba]; decide
            have q4 : ((ba [84, 79, 82, 78]).toList == [84, 79]) = false := by rw [cmp_ba]; decide
            have q5 : ((ba [84, 79, 82, 78]).toList == [84, 69, 88, 84]) = false := by rw [cmp_ba]; decide
            have q6 : ((ba [84, 79, 82, 78]).toList == [78]) = false := by rw [cmp_ba]; decide
            have q7 : ((ba [84, 79, 82, 78]).toList == [68, 65, 89]) = false := by rw [cmp_ba]; decide
            have q8 : ((ba [84, 79, 82, 78]).toList == [66, 85, 68, 71, 69, 84]) = false := by rw [cmp_ba]; decide
            have q9 : ((ba [84, 79, 82, 78]).toList == [65, 70, 84, 69, 82]) = false := by rw [cmp_ba]; decide
            have q10 : ((ba [84, 79, 82, 78]).toList == [67, 85, 84]) = false := by rw [cmp_ba]; decide
            have q11 : ((ba [84, 79, 82, 78]).toList == [84, 79, 82, 78]) = true := by rw [cmp_ba]; decide
            have hnum : isNumB a = true := by
              have := HFT.out
              rw [show formFn [84, 79, 82, 78] = 97 by decide] at this
              exact this
            have CN := number46_any (ba a) wr (by rw [ba_size]; omega) (by rw [ba_toList]; exact hnum)
            rw [ba_toList] at CN
            have HCN := Lib.hid CN
            clear CN hnum
            go_wp2_with fail
            refine HCN.out.mono ?_
            clear HCN
            rintro e w5 ⟨rfl, b5⟩
            have k5 : Kept NoF wr w5 := Kept.of_below b5
            have hbk5 := k5.blk hbk (fun h => h)
            have fz := hbk5.frozen 8
            have cc := (hbk5.cell 8).trans (show (ev.cells v)[8]? = some _ from rfl)
            go_wp2_with fail
            have hb' := hbk5.set_ 8 (.int .i64 (numR a).1)
            have kd' := ((k5.mono (G := fun x => x = eb) (fun _ h => h.elim))).setCell (p := ⟨eb, 8, none⟩) (.inl rfl) (.int .i64 (numR a).1)
            have k' := kr.trans kd' (fun _ h => .inl h)
            go_roundw
            case rel => exact ⟨j + 1, _, hlt, by go_num, by rw [HSN.out]; exact hb', by rw [HSN.out]; exact hdat.kept kd', fun h => by rw [HDS.out] at h; rw [HSN.out]; exact HNL.out (by simp only [Bool.or_eq_false_iff] at h; exact h.1), k'⟩
            case measure => simp [intOf]; omega
          · skip
            have q0 : ((ba [70, 76, 65, 71, 83]).toList == [68]) = false := by rw [cmp_ba]; decide
            have q1 : ((ba [70, 76, 65, 71, 83]).toList == [79, 84, 72, 69, 82]) = false := by rw [cmp_ba]; decide
            have q2 : ((ba [70, 76, 65, 71, 83]).toList == [86, 65, 85, 76, 84]) = false := by rw [cmp_ba]; decide
            have q3 : ((ba [70, 76, 65, 71, 83]).toList == [80, 65, 84, 72]) = false := by rw [cmp_ba]; decide
            have q4 : ((ba [70, 76, 65, 71, 83]).toList == [84, 79]) = false := by rw [cmp_ba]; decide
            have q5 : ((ba [70, 76, 65, 71, 83]).toList == [84, 69, 88, 84]) = false := by rw [cmp_ba]; decide
            have q6 : ((ba [70, 76, 65, 71, 83]).toList == [78]) = false := by rw [cmp_ba]; decide
            have q7 : ((ba [70, 76, 65, 71, 83]).toList == [68, 65, 89]) = false := by rw [cmp_ba]; decide
            have q8 : ((ba [70, 76, 65, 71, 83]).toList == [66, 85, 68, 71, 69, 84]) = false := by rw [cmp_ba]; decide
            have q9 : ((ba [70, 76, 65, 71, 83]).toList == [65, 70, 84, 69, 82]) = false := by rw [cmp_ba]; decide
            have q10 : ((ba [70, 76, 65, 71, 83]).toList == [67, 85, 84]) = false := by rw [cmp_ba]; decide
            have q11 : ((ba [70, 76, 65, 71, 83]).toList == [84, 79, 82, 78]) = false := by rw [cmp_ba]; decide
            have q12 : ((ba [70, 76, 65, 71, 83]).toList == [70, 76, 65, 71, 83]) = true := by rw [cmp_ba]; decide
            obtain ⟨rfl, hdz⟩ := HNL.out (HFL.out rfl)
            have HDZ := Lib.hid hdz
            have hbits : bitsR a = true := by
              have := HFT.out
              rw [show formFn [70, 76, 65, 71, 83] = 95 by decide] at this
              rw [← flagsB_bits]
              exact this
            have HBITS := Lib.hid hbits
            clear hbits hdz hdat
            have hcv : (convert 9 43 (.string (ba a))).run Tryz.prog wr = .ok (.slice (some ⟨wr.heap.size, 0, none⟩) (ba a).size (grownCap wr (ba a).size 0 5)) (Lib.bytesWorld wr 5 (ba a)) := Lib.run_convert_string_bytes wr 9 43 5 (ba a) Tryz.underlying9 Tryz.underlying43 Tryz.underlying5
            have bz : Below wr.heap.size wr (Lib.bytesWorld wr 5 (ba a)) := below_bytes _ _ _
            have hbk5 := (Kept.of_below (F := NoF) bz).blk hbk (fun h => h)
            have hcell : ∀ i (hi : i < a.length), (Lib.bytesWorld wr 5 (ba a)).cell? ⟨wr.heap.size, i, none⟩ = some (.int .u8 (a[i].toNat : Int)) := fun i hi => by
              rw [Lib.bytesWorld_cell _ _ _ _ (by rw [ba_size]; exact hi), ba_toList]
              simp [List.getD, hi]
            have HCELL := Lib.hid hcell
            have hzb : wr.heap.size < (Lib.bytesWorld wr 5 (ba a)).heap.size := by rw [Lib.bytesWorld_size]; exact Nat.lt_succ_self _
            have hew := hbk.lt
            clear hcell
            rw [ba_size] at hcv
            generalize grownCap wr a.length 0 5 = gc at hcv
            generalize Lib.bytesWorld wr 5 (ba a) = w5 at hcv bz hbk5 HCELL hzb
            have k5 := kr.trans (Kept.of_below (F := NoF) bz) (fun _ h => h.elim)
            generalize wr.heap.size = yb at hcv HCELL hzb hew
            go_wp2_with fail
            obtain ⟨i0, hi0, hz0, hz1, hz2⟩ := info_parts info5
            clear hbk kr bz cn cA cx hcv
            go_loopw [87] (FlagRel w5 eb ev a) (fun i _ => a.length - (intOf i).toNat)
            case atStart => exact ⟨0, .slice none 0 0, Nat.zero_le _, rfl, hbk5, ⟨rfl, .inl ⟨rfl, rfl⟩⟩, Kept.refl _ _⟩
            case round =>
              clear hbk5
              obtain ⟨i, u, hi', rfl, hbx, hown, kx⟩ := hrel
              have hxz := kx.size
              by_cases hil : i < a.length
              · have hci : wr.cell? ⟨yb, i, none⟩ = some (.int .u8 (a[i].toNat : Int)) := kx.cell (HCELL.out i hil) (by show ¬ yb = eb; omega)
                have i3 : (i : Int) < (a.length : Int) := by omega
                have hbit : a[i] = 48 ∨ a[i] = 49 := by
                  have := List.all_eq_true.1 HBITS.out _ (List.getElem_mem hil)
                  simpa using this
                have hwv : IntKind.u8.wrap ((a[i].toNat : Int) - 48) = ((a[i] - 48).toNat : Int) := by rcases hbit with h | h <;> rw [h] <;> decide
                have HTS := Lib.hid (show (a.take (i + 1)).map (· - 48) = (a.take i).map (· - 48) ++ [a[i] - 48] by rw [List.take_succ_eq_append_getElem hil, List.map_append]; rfl)
                have hc256 : (a[i] - 48).toNat < 256 := (a[i] - 48).toNat_lt
                have hc255 : a[i].toNat < 256 := a[i].toNat_lt
                clear hbit
                generalize (a.take i).map (· - 48) = dd at hbx hown HTS
                generalize (a[i] - 48) = bb at hwv HTS hc256
                generalize a[i].toNat = cc at hci hwv hc255
                obtain ⟨U, cu, rfl, _, _⟩ := own_form hown
                have c6 : wr.cell? ⟨eb, 6, none⟩ = some (.slice U i cu) := (hbx.cell 6).trans rfl
                go_wp2_with (at_builtin; refine wpList_append_own_at _ rfl _ _ 43 rfl w5.heap.size 5 i0 (.int .u8 0) 1 1 Tryz.underlying43 hi0 hz0 hz1 hz2 rfl (by decide) _ _ _ rfl (hown.alloc _) ⟨wr.heap.size, 0, none⟩ 1 1 [.int .u8 (bb.toNat : Int)] rfl rfl ?d1 ?d2 ?d3 ?d4 ?d5 ?_)
                case d1 => exact cell_one_new _ _ _
                case d2 => intro u hu; simp at hu; subst hu; rfl
                case d3 => unfold maxLen; omega
                case d4 => omega
                case d5 => simp; omega
                intro v' w9 hown' hgrow _ hat
                have hbx1 := hbx.alloc (.cells #[.int .u8 (bb.toNat : Int)] 5)
                have hbx9 := hbx1.grown hgrow (fun e => own_blk_ne (hown.alloc _) hbx1 (by decide) e.symm)
                have k9 : Kept (fun x => x = eb) w5 w9 := (kx.alloc (.cells #[.int .u8 (bb.toNat : Int)] 5)).grown hgrow (fun g hg => .inr (hown.lt g hg).1)
                obtain ⟨g', cap', rfl⟩ := ownsRow_succ hown'
                have fz := hbx9.frozen 6
                have cc6 := (hbx9.cell 6).trans (show (({ ev with data := dd } : EvD).cells (.slice U i cu))[6]? = some (.slice U i cu) from rfl)
                have hne9 : g' ≠ eb := fun e => own_blk_ne hown' hbx9 (by decide) (by rw [e]; rfl)
                go_wp2_with fail
                have hb' := hbx9.set_ 6 (.slice (some ⟨g', 0, none⟩) (i + 1) cap')
                have k' := k9.setCell (p := ⟨eb, 6, none⟩) (.inl rfl) (.slice (some ⟨g', 0, none⟩) (i + 1) cap')
                have kd' := (Kept.refl (fun x => x = eb) w9).setCell (p := ⟨eb, 6, none⟩) (.inl rfl) (.slice (some ⟨g', 0, none⟩) (i + 1) cap')
                go_roundw
                case rel => exact ⟨i + 1, .slice (some ⟨g', 0, none⟩) (i + 1) cap', hil, by go_num, hb', by rw [HTS.out, bvs_append]; exact kd'.own hown' (fun g hg => by simp only [Value.ownBlock, Option.some.injEq] at hg; omega), k'⟩
                case measure => simp [intOf]; omega
              · obtain rfl : i = a.length := by omega
                rw [List.take_length] at hbx hown
                have hdz := HDZ.out
                have HF := Lib.hid (show setEv ev [70, 76, 65, 71, 83] a = { ev with data := a.map (· - 48) } by simp [setEv, hdz])
                have hdt : DatAt wr eb u (a.map (· - 48)) := DatAt.own (by rw [List.length_map]; exact hown) (by omega)
                have k' := k5.trans kx (fun _ h => .inl h)
                clear hdz
                go_wp2_with fail
                go_roundw
                case rel => exact ⟨j + 1, u, hlt, by go_num, by rw [HSN.out, HF.out]; exact hbx, by rw [HSN.out, HF.out]; exact hdt, fun h => by rw [HDS.out] at h; simp [isData] at h, k'⟩
                case measure => simp [intOf]; omega
          · skip
            have q0 : ((ba [83, 87, 73, 84, 67, 72]).toList == [68]) = false := by rw [cmp_ba]; decide
            have q1 : ((ba [83, 87, 73, 84, 67, 72]).toList == [79, 84, 72, 69, 82]) = false := by rw [cmp_ba]; decide
            have q2 : ((ba [83, 87, 73, 84, 67, 72]).toList == [86, 65, 85, 76, 84]) = false := by rw [cmp_ba]; decide
            have q3 : ((ba [83, 87, 73, 84, 67, 72]).toList == [80, 65, 84, 72]) = false := by rw [cmp_ba]; decide
            have q4 : ((ba [83, 87, 73, 84, 67, 72]).toList == [84, 79]) = false := by rw [cmp_ba]; decide
            have q5 : ((ba [83, 87, 73, 84, 67, 72]).toList == [84, 69, 88, 84]) = false := by rw [cmp_ba]; decide
            have q6 : ((ba [83, 87, 73, 84, 67, 72]).toList == [78]) = false := by rw [cmp_ba]; decide
            have q7 : ((ba [83, 87, 73, 84, 67, 72]).toList == [68, 65, 89]) = false := by rw [cmp_ba]; decide
            have q8 : ((ba [83, 87, 73, 84, 67, 72]).toList == [66, 85, 68, 71, 69, 84]) = false := by rw [cmp_ba]; decide
            have q9 : ((ba [83, 87, 73, 84, 67, 72]).toList == [65, 70, 84, 69, 82]) = false := by rw [cmp_ba]; decide
            have q10 : ((ba [83, 87, 73, 84, 67, 72]).toList == [67, 85, 84]) = false := by rw [cmp_ba]; decide
            have q11 : ((ba [83, 87, 73, 84, 67, 72]).toList == [84, 79, 82, 78]) = false := by rw [cmp_ba]; decide
            have q12 : ((ba [83, 87, 73, 84, 67, 72]).toList == [70, 76, 65, 71, 83]) = false := by rw [cmp_ba]; decide
            have q13 : ((ba [83, 87, 73, 84, 67, 72]).toList == [83, 87, 73, 84, 67, 72]) = true := by rw [cmp_ba]; decide
            have qq : ((ba a).toList == ([111, 110] : List UInt8)) = (a == [111, 110]) := cmp_ba _ _
            have fz := hbk.frozen 9
            have cc := (hbk.cell 9).trans (show (ev.cells v)[9]? = some _ from rfl)
            go_wp2_with fail
            have hb' := hbk.set_ 9 (.bool (a == [111, 110]))
            have k' := kr.setCell (p := ⟨eb, 9, none⟩) (.inl rfl) (.bool (a == [111, 110]))
            have kd' := (Kept.refl (fun x => x = eb) wr).setCell (p := ⟨eb, 9, none⟩) (.inl rfl) (.bool (a == [111, 110]))
            go_roundw
            case rel => exact ⟨j + 1, _, hlt, by go_num, by rw [HSN.out]; exact hb', by rw [HSN.out]; exact hdat.kept kd', fun h => by rw [HDS.out] at h; rw [HSN.out]; exact HNL.out (by simp only [Bool.or_eq_false_iff] at h; exact h.1), k'⟩
            case measure => simp [intOf]; omega
        · obtain rfl : j = names.length := by omega
          have i1 : decide ((names.length : Int) < (names.length : Int)) = false := by simp
          rw [List.take_length, hlen, List.take_length] at hbk hdat
          generalize evFold ek names args = ev at hbk hdat HR
          obtain ⟨D, cd, rfl, hrd, hdn⟩ := hdat
          have brr := kr.blk brf (by show ¬ w.heap.size + 1 = eb; omega)
          have zr : ∀ i, wr.frozen? ⟨w.heap.size + 1, i, none⟩ = false := fun i => brr.frozen i
          have e0 := (hbk.cell 0).trans (show (ev.cells (.slice D ev.data.length cd))[0]? = some (.int .i64 ev.kind) from rfl)
          have e1 := (hbk.cell 1).trans (show (ev.cells (.slice D ev.data.length cd))[1]? = some (.int .i64 ev.dev) from rfl)
          have e2 := (hbk.cell 2).trans (show (ev.cells (.slice D ev.data.length cd))[2]? = some (.int .i64 ev.oth) from rfl)
          have e3 := (hbk.cell 3).trans (show (ev.cells (.slice D ev.data.length cd))[3]? = some (.int .i64 ev.vault) from rfl)
          have e4 := (hbk.cell 4).trans (show (ev.cells (.slice D ev.data.length cd))[4]? = some (.string (ba ev.path)) from rfl)
          have e5 := (hbk.cell 5).trans (show (ev.cells (.slice D ev.data.length cd))[5]? = some (.string (ba ev.dest)) from rfl)
          have e6 := (hbk.cell 6).trans (show (ev.cells (.slice D ev.data.length cd))[6]? = some (.slice D ev.data.length cd) from rfl)
          have e7 := (hbk.cell 7).trans (show (ev.cells (.slice D ev.data.length cd))[7]? = some (.int .i64 ev.num) from rfl)
          have e8 := (hbk.cell 8).trans (show (ev.cells (.slice D ev.data.length cd))[8]? = some (.int .i64 ev.cut) from rfl)
          have e9 := (hbk.cell 9).trans (show (ev.cells (.slice D ev.data.length cd))[9]? = some (.bool ev.on) from rfl)
          have r0 := (brr.cell 0).trans (show ((ev0 0).cells (.slice none 0 0))[0]? = some (.int .i64 0) from rfl)
          have r1 := (brr.cell 1).trans (show ((ev0 0).cells (.slice none 0 0))[1]? = some (.int .i64 0) from rfl)
          have r2 := (brr.cell 2).trans (show ((ev0 0).cells (.slice none 0 0))[2]? = some (.int .i64 0) from rfl)
          have r3 := (brr.cell 3).trans (show ((ev0 0).cells (.slice none 0 0))[3]? = some (.int .i64 0) from rfl)
          have r4 := (brr.cell 4).trans (show ((ev0 0).cells (.slice none 0 0))[4]? = some (.string (ba [])) from rfl)
          have r5 := (brr.cell 5).trans (show ((ev0 0).cells (.slice none 0 0))[5]? = some (.string (ba [])) from rfl)
          have r6 := (brr.cell 6).trans (show ((ev0 0).cells (.slice none 0 0))[6]? = some (.slice none 0 0) from rfl)
          have r7 := (brr.cell 7).trans (show ((ev0 0).cells (.slice none 0 0))[7]? = some (.int .i64 0) from rfl)
          have r8 := (brr.cell 8).trans (show ((ev0 0).cells (.slice none 0 0))[8]? = some (.int .i64 0) from rfl)
          have r9 := (brr.cell 9).trans (show ((ev0 0).cells (.slice none 0 0))[9]? = some (.bool false) from rfl)
          have HRD := Lib.hid hrd
          have HDN := Lib.hid hdn
          have HKR := Lib.hid kr
          have HBW := Lib.hid bwf
          have HBR := Lib.hid brr
          clear hrd hdn kr bwf brr HNL bn bxf brf hAf hbk HROW HFIT
          go_wp2_with fail
          have hbz := blk_sets HBR.out (evList ev (.slice D ev.data.length cd))
          rw [evList_cells] at hbz
          refine bodyPost_ret (results_event (cs := ev.cells (.slice D ev.data.length cd)) rfl rfl hbz) rfl ?_
          rw [HR.out]
          refine ⟨.slice D ev.data.length cd, D, cd, ?_, rfl, ?_, ?_⟩
          · exact rfl
          · exact (kept_sets (F := fun x => x = w.heap.size + 1) (Kept.refl _ wr) (w.heap.size + 1) (.inl rfl) (evList ev (.slice D ev.data.length cd))).src HRD.out (fun ad e _ => by have := HDN.out ad e; show ¬ ad.block = w.heap.size + 1; omega)
          · exact below_sets (HBW.out.trans (HKR.out.below (B := w.heap.size) HBW.out.size (fun x h => by subst h; omega))) (w.heap.size + 1) (by omega) (evList ev (.slice D ev.data.length cd))
    · have q2 : (kk == 2) = false := by simpa using hk2
      have HR := Lib.hid ((HEV.out.trans (if_neg hk0)).trans (if_neg hk2))
      clear hk0 hk2
      go_wp2_with fail
      refine bodyPost_ret (results_event rfl rfl (blk_sets br2 (evList (ev0 0) (.slice none 0 0)))) rfl ?_
      rw [HR.out, evList_cells]
      refine ⟨.slice none 0 0, none, 0, ?_, rfl, Reads.none_, ?_⟩
      · exact rfl
      · exact below_sets bw2 (w.heap.size + 1) (by omega) (evList (ev0 0) (.slice none 0 0))

end Go.Proofs.YtfnfjfcncijapaaGreatDoor
