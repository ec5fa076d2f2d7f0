/- kinkeepref56.step (printed by genstep.py). -/
import Derived.Test.YtfnfjfcncijapaaGreatDoorOrder
import Derived.Test.YtfnfjfcncijapaaGreatDoorStands
namespace Go.Proofs.YtfnfjfcncijapaaGreatDoor
open Go.RowKit Go.Shelf
attribute [local go_sem] Oper.semAt_some

/-- The strings that words stand for, as the reference reads them. -/
def argsR : List (List UInt8) → Option (List (List UInt8))
  | [] => some []
  | w :: r => if (standsR w).2 = true then (argsR r).map ((standsR w).1 :: ·) else none
theorem argsR_eq : ∀ {r : List (List UInt8)}, (∀ w ∈ r, w ≠ []) → argsR r = argsOf r
  | [], _ => rfl
  | w :: r, h => by
    have hw : (standsR w).2 = (textS w).2 := by
      unfold standsR
      have : w.isEmpty = false := by simpa using h w (by simp)
      simp [this]
    unfold argsR argsOf
    rw [hw, argsR_eq (fun x hx => h x (by simp [hx]))]
    rfl
theorem argsR_append : ∀ (r q : List (List UInt8)), argsR (r ++ q) = match argsR r with | some a => (argsR q).map (a ++ ·) | none => none
  | [], q => by simp [argsR]
  | w :: r, q => by
    have ih := argsR_append r q
    simp only [List.cons_append, argsR]
    split
    · rw [ih]
      cases argsR r with
      | none => rfl
      | some a =>
        simp only [Option.map_some]
        rw [Option.map_map]
        congr 1
    · rfl
theorem argsR_snoc {r : List (List UInt8)} {acc : List (List UInt8)} {j : Nat} (h : j < r.length) (ha : argsR (r.take j) = some acc) (ht : (standsR r[j]).2 = true) : argsR (r.take (j + 1)) = some (acc ++ [(standsR r[j]).1]) := by
  rw [List.take_succ_eq_append_getElem h, argsR_append, ha]
  simp [argsR, ht]
theorem argsR_none {r : List (List UInt8)} {acc : List (List UInt8)} {j : Nat} (h : j < r.length) (ha : argsR (r.take j) = some acc) (ht : (standsR r[j]).2 = false) : argsR r = none := by
  rw [← List.take_append_drop j r, argsR_append, ha, List.drop_eq_getElem_cons h]
  simp [argsR, ht]

def StepPost (c : List UInt8) (r : Option (List (List UInt8))) (w : World) (e : Ending) (w' : World) : Prop :=
  (match r with
    | none => e = .returned (.tuple #[.agg #[.string ⟨#[]⟩, .slice none 0 0], .bool false])
    | some args => ∃ X cx, e = .returned (.tuple #[.agg #[.string (ba c), .slice X args.length cx], .bool (validR c args)]) ∧ StrsAt w' X args ∧ (∀ ad, X = some ad → 0 < args.length → w.heap.size ≤ ad.block)) ∧ Below w.heap.size w w'
def StepRel (w : World) (c : List UInt8) (r : List (List UInt8)) (i : Value) (wr : World) : Prop :=
  ∃ (j : Nat) (acc : List (List UInt8)) (av : Value), j ≤ r.length ∧ i = .int .i64 ((j : Int) + 1) ∧ argsR (r.take j) = some acc ∧ acc.length ≤ j ∧ (∀ a ∈ acc, a.length ≤ 65536) ∧ Blk wr w.heap.size 39 #[.string ⟨#[]⟩, .slice none 0 0] ∧ Blk wr (w.heap.size + 1) 39 #[.string (ba c), av] ∧ wr.ownsRow w.heap.size 9 1 av acc.length (strs acc) ∧ Below w.heap.size w wr
theorem results_step {tmps : Array Value} {W : World} {n : Nat} {a b : Value} (h2 : tmps.getD 2 undef = .pointer (some ⟨n, 0, none⟩)) (hb : Blk W n 39 #[a, b]) :
    (results Tryz.f33 tmps).run Tryz.prog W = .ok (.tuple #[.agg #[a, b], tmps.getD 3 undef]) W := by
  rw [results_cell_tmp (p := 2) (u := 3) (ty := 39) rfl, h2]
  have hl := run_loadVar_row (P := Tryz.prog) W n 39 39 #[a, b] (0, 0) _ hb Tryz.underlying39 rfl (by kernel_rfl)
  simp [asAddr, hl, Result.andThen]
theorem standsR_length (l : List UInt8) : (standsR l).1.length ≤ l.length := textS_length l

set_option maxHeartbeats 4000000 in
set_option maxRecDepth 100000 in
theorem step_any {A : Option Addr} (c : List UInt8) {r : List (List UInt8)} (ca : Nat) (w : World) (hA : StrsAt w A (c :: r)) (hl : r.length ≤ 65536) (hs : ∀ a ∈ r, a.length ≤ 65536) :
    Calls Tryz.prog 33 #[.slice A (r.length + 1) ca] w (StepPost c (argsR r) w) := by
  obtain ⟨i0, hi, hz0, hz1, hz2⟩ := info_parts info9
  obtain ⟨ab, ao, rfl, hab, hc0⟩ := hA.at_ (k := 0) (by simp)
  simp only [Nat.add_zero, List.getElem_cons_zero] at hc0
  have i0' : (0 : Int) < (r.length : Int) + 1 := by omega
  go_enter Tryz.func33, Tryz.ntmps33
  go_upto_region 2 with fail
  have bs0 : Blk ((w.alloc (.cells #[.string ⟨#[]⟩, .slice none 0 0] 39)).alloc (.cells #[.string (ba c), .slice none 0 0] 39)) (w.heap.size + 1) 39 #[.string (ba c), .slice none 0 0] := at_size (by simp) (Blk.new _ 39 _)
  have br0 : Blk ((w.alloc (.cells #[.string ⟨#[]⟩, .slice none 0 0] 39)).alloc (.cells #[.string (ba c), .slice none 0 0] 39)) w.heap.size 39 #[.string ⟨#[]⟩, .slice none 0 0] := (Blk.new w 39 _).alloc _
  have k0 : Below w.heap.size w ((w.alloc (.cells #[.string ⟨#[]⟩, .slice none 0 0] 39)).alloc (.cells #[.string (ba c), .slice none 0 0] 39)) := ((Below.refl _ _).alloc (Nat.le_refl _) _).alloc (by simp) _
  generalize (w.alloc (.cells #[.string ⟨#[]⟩, .slice none 0 0] 39)).alloc (.cells #[.string (ba c), .slice none 0 0] 39) = w0 at bs0 br0 k0 ⊢
  go_wp2_with fail
  go_loopw [5] (StepRel w c r) (fun i _ => r.length + 1 - (intOf i).toNat)
  case atStart => exact ⟨0, [], _, Nat.zero_le _, rfl, rfl, Nat.le_refl _, fun a ha => by simp at ha, br0, bs0, World.ownsRow_nil _ _ _ _, k0⟩
  case round =>
    clear bs0 br0 k0
    obtain ⟨j, acc, av, hj, rfl, hacc, hal, hsm, br, bs, how, hb⟩ := hrel
    have HACC := Lib.hid hacc
    clear hacc
    have hwz := hb.size
    have kr : Kept NoF w wr := Kept.of_below hb
    by_cases hlt : j < r.length
    · have hAr : StrsAt wr (some ⟨ab, ao, none⟩) (c :: r) := kr.src hA (fun _ _ _ h => h)
      obtain ⟨xb, xo, e, hxb, hcx⟩ := hAr.at_ (k := j + 1) (by simp; omega)
      injection e with e
      injection e with e1 e2
      subst e1 e2
      simp only [List.getElem_cons_succ] at hcx
      have i1 : (j : Int) + 1 < (r.length : Int) + 1 := by omega
      have hjs : r[j].length ≤ 65536 := hs _ (List.getElem_mem hlt)
      have CT := rstands_any (ba r[j]) wr (by rw [ba_size]; omega)
      rw [ba_toList] at CT
      have hn1 := @argsR_snoc r acc j hlt HACC.out
      have hn2 := @argsR_none r acc j hlt HACC.out
      have htl := standsR_length r[j]
      generalize standsR r[j] = tx at CT hn1 hn2 htl
      obtain ⟨o, tk⟩ := tx
      dsimp only at hn1 hn2 htl
      have HCT := Lib.hid CT
      have HN1 := Lib.hid hn1
      have HN2 := Lib.hid hn2
      clear CT hn1 hn2 hs
      have ji : ((j : Int) + 1).toNat = j + 1 := by omega
      go_wp2_with fail
      refine HCT.out.mono ?_
      clear HCT
      rintro e w1 ⟨rfl, b1⟩
      have k1 : Kept NoF wr w1 := Kept.of_below b1
      have bs1 := k1.blk bs (fun h => h)
      have br1 := k1.blk br (fun h => h)
      have how1 := k1.own how (fun _ _ h => h)
      have hb1 := hb.trans (b1.mono hwz)
      have hwz1 := hb1.size
      cases tk
      · have r0 : w1.cell? ⟨w.heap.size, 0, none⟩ = some (.string ⟨#[]⟩) := (br1.cell 0).trans rfl
        have r1 : w1.cell? ⟨w.heap.size, 1, none⟩ = some (.slice none 0 0) := (br1.cell 1).trans rfl
        have z0 := br1.frozen 0
        have z1 := br1.frozen 1
        go_wp2_with fail
        refine bodyPost_ret (results_step rfl ((br1.set_ 0 _).set_ 1 _)) rfl ?_
        rw [HN2.out (by trivial)]
        exact ⟨rfl, (hb1.setCell (p := ⟨w.heap.size, 0, none⟩) (Nat.le_refl _) _).setCell (p := ⟨w.heap.size, 1, none⟩) (Nat.le_refl _) _⟩
      · have c1 : w1.cell? ⟨w.heap.size + 1, 1, none⟩ = some av := (bs1.cell 1).trans rfl
        obtain ⟨Aa, caa, rfl, _, _⟩ := own_form how1
        go_wp2_with (at_builtin; refine wpList_append_own_at _ rfl _ _ 37 rfl w.heap.size 9 i0 (.string ⟨#[]⟩) 1 16 Tryz.underlying37 hi hz0 hz1 hz2 rfl (by decide) _ _ _ rfl (how1.alloc _) ⟨w1.heap.size, 0, none⟩ 1 1 [.string (ba o)] rfl rfl ?d1 ?d2 ?d3 ?d4 ?d5 ?_)
        case d1 => exact cell_one_new _ _ _
        case d2 => intro u hu; simp at hu; subst hu; rfl
        case d3 => unfold maxLen; omega
        case d4 => omega
        case d5 => simp; omega
        intro v' w4 hown' hgrow _ hat
        obtain ⟨g', cap', rfl⟩ := ownsRow_succ hown'
        have hne := own_blk_ne how1 bs1 (by decide)
        have hne2 := own_blk_ne how1 br1 (by decide)
        have hb4 := (bs1.alloc (.cells #[.string (ba o)] 9)).grown hgrow (Ne.symm hne)
        have hr4 := (br1.alloc (.cells #[.string (ba o)] 9)).grown hgrow (Ne.symm hne2)
        have d1 : w4.cell? ⟨w.heap.size + 1, 1, none⟩ = some (.slice Aa acc.length caa) := (hb4.cell 1).trans rfl
        have f1 := hb4.frozen 1
        have bw4 : Below w.heap.size w w4 := (hb1.alloc hwz1 _).grown hgrow (by simp; omega) (fun k hk => (how1.lt k hk).1)
        go_wp2_with fail
        go_roundw
        case rel =>
          refine ⟨j + 1, acc ++ [o], _, by omega, by go_num, HN1.out (by trivial), by simp; omega, ?_, (kept_set _ _ _ _).blk hr4 (by omega), hb4.set_ 1 _, ?_, bw4.setCell (p := ⟨w.heap.size + 1, 1, none⟩) (by simp) _⟩
          · intro a ha
            rcases List.mem_append.1 ha with h | h
            · exact hsm a h
            · simp at h; subst h; omega
          · rw [strs_append, List.length_append]
            exact hown'.kept (grownBy_setCell1 _ _ _ _) (.inr (own_blk_ne hown' hb4 (by decide)))
        case measure => simp [intOf]; omega
    · obtain rfl : j = r.length := by omega
      have har : argsR r = some acc := by have := HACC.out; rwa [List.take_length] at this
      have HAR := Lib.hid har
      obtain ⟨X, cx, rfl, _, _⟩ := own_form how
      have hX : StrsAt wr X acc := Reads.of_own how
      have HCV := Lib.hid (fun W (k : Kept NoF wr W) => (show Calls Tryz.prog 16 #[.agg #[.string (ba c), .slice X acc.length cx]] W _ from by
        have := rvalid_any (ba c) cx W (hX.same k) (by omega) hsm
        rw [ba_toList] at this
        exact this))
      clear har HACC hs
      go_upto_region 9 with fail
      refine wp_region_noPanic ?_
      refine wp_region_held_drew (S := (fun w' => w'.cell? ⟨w.heap.size + 1, 0, none⟩ = some (.string (ba c)) ∧ w'.cell? ⟨w.heap.size + 1, 1, none⟩ = some (.slice X acc.length cx))) (by kernel_rfl) ?_ (fun hHeld => ?_)
      · exact ⟨(bs.cell 0).trans rfl, (bs.cell 1).trans rfl⟩
      refine wpAnyH_take (i := 0) (v := ?_) rfl (by kernel_rfl) (by kernel_rfl) (by kernel_rfl) (fun _ _ _ h => h) (Or.inl ⟨by rfl, ?_⟩) hHeld ?_
      rotate_left
      · (intro w hSw; (try dsimp only at hSw); go_simp; try (with_reducible rfl))
      simp only [Act.put, List.getElem_toArray, List.getElem_cons_zero, List.setIfInBounds_toArray, List.set_cons_zero, List.set_cons_succ]
      refine wpAnyH_take (i := 1) (v := ?_) rfl (by kernel_rfl) (by kernel_rfl) (by kernel_rfl) (fun _ _ _ h => h) (Or.inl ⟨by rfl, ?_⟩) hHeld ?_
      rotate_left
      · (intro w hSw; (try dsimp only at hSw); go_simp; try (with_reducible rfl))
      simp only [Act.put, List.getElem_toArray, List.getElem_cons_zero, List.getElem_cons_succ, List.setIfInBounds_toArray, List.set_cons_zero, List.set_cons_succ]
      refine wpAnyH_ready (rs := [2]) (by kernel_rfl) (by simp) ?_
      refine AllReadyH.cons rfl (fun K hK => ?_) AllReadyH.nil
      go_simp
      refine (HCV.out _ (Kept.refl NoF wr).drew).mono ?_
      rintro e wa ⟨rfl, bwa⟩
      have ka : Kept NoF wr wa := (Kept.refl NoF wr).drew.trans (Kept.of_below (F := NoF) bwa) (fun _ h => .inl h)
      have bsa := ka.blk bs (fun h => h)
      have bra := ka.blk br (fun h => h)
      have r0 : wa.cell? ⟨w.heap.size, 0, none⟩ = some (.string ⟨#[]⟩) := (bra.cell 0).trans rfl
      have r1 : wa.cell? ⟨w.heap.size, 1, none⟩ = some (.slice none 0 0) := (bra.cell 1).trans rfl
      have z0 := bra.frozen 0
      have z1 := bra.frozen 1
      go_wp2_with fail
      refine hK.out _ _ ⟨(bsa.cell 0).trans rfl, (bsa.cell 1).trans rfl⟩ (fun hHeld => ?_)
      clear hK K
      try simp only [Act.put, List.getElem_toArray, List.getElem_cons_zero, List.getElem_cons_succ, List.setIfInBounds_toArray, List.set_cons_zero, List.set_cons_succ]
      refine wpAnyH_ready (rs := [3]) (by kernel_rfl) (by simp) ?_
      refine AllReadyH.cons rfl (fun K hK => ?_) AllReadyH.nil
      go_simp
      have q0 := ((bra.set_ 0 (.string (ba c))).set_ 1 (.slice X acc.length cx))
      have ks : Kept (fun k => k = w.heap.size) wa ((wa.setCell ⟨w.heap.size, 0, none⟩ (.string (ba c))).setCell ⟨w.heap.size, 1, none⟩ (.slice X acc.length cx)) := (kept_set _ _ _ _).trans (kept_set _ _ _ _) (fun x hx => .inl hx)
      have bsb := ks.blk bsa (by omega)
      refine hK.out _ _ ⟨(bsb.cell 0).trans rfl, (bsb.cell 1).trans rfl⟩ (fun hHeld => ?_)
      clear hK K
      try simp only [Act.put, List.getElem_toArray, List.getElem_cons_zero, List.getElem_cons_succ, List.setIfInBounds_toArray, List.set_cons_zero, List.set_cons_succ]
      refine wpAnyH_ready (rs := [4]) (by kernel_rfl) (by simp) ?_
      refine AllReadyH.cons rfl (fun K hK => ?_) AllReadyH.nil
      go_simp
      refine hK.out _ _ ⟨(bsb.cell 0).trans rfl, (bsb.cell 1).trans rfl⟩ (fun hHeld => ?_)
      clear hK K
      try simp only [Act.put, List.getElem_toArray, List.getElem_cons_zero, List.getElem_cons_succ, List.setIfInBounds_toArray, List.set_cons_zero, List.set_cons_succ]
      refine wpAnyH_done (by kernel_rfl) ?_ _
      refine NoPanic.normal ?_
      go_wp2_with fail
      refine bodyPost_ret (results_step rfl q0) rfl ?_
      rw [HAR.out]
      have kz : Kept (fun k => k = w.heap.size) wr _ := (ka.mono (fun _ h => h.elim)).trans ks (fun x hx => .inl hx)
      refine ⟨⟨X, cx, rfl, ?_, fun ad e _ => (how.lt ad.block (by rw [e]; rfl)).1⟩, Below.after hb kz (fun x hx => by omega) (Nat.le_refl _)⟩
      exact Reads.of_own (kz.own how (fun g hg h => by rw [h] at hg; exact own_blk_ne how br (by decide) hg))

end Go.Proofs.YtfnfjfcncijapaaGreatDoor
