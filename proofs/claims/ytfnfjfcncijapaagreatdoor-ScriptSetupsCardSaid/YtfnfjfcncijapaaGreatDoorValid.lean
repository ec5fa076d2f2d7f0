/- kinkeepref56.Valid (printed by genvalid.py). -/
import Derived.Test.YtfnfjfcncijapaaGreatDoorFind
import Derived.Test.YtfnfjfcncijapaaGreatDoorFits
namespace Go.Proofs.YtfnfjfcncijapaaGreatDoor
open Go.RowKit Go.Shelf
attribute [local go_sem] Oper.semAt_some

def allFitR (form : List UInt8) (args : List (List UInt8)) : Bool := (args.zip form).all fun p => fitsR p.2 p.1
/-- Whether the reference takes a step for a valid one. -/
def validR (cmd : List UInt8) (args : List (List UInt8)) : Bool := (findR cmd).2 && decide (args.length = (findR cmd).1.2.1.length) && allFitR (findR cmd).1.2.1 args

theorem allFitR_snoc {form : List UInt8} {args : List (List UInt8)} {j : Nat} (h : j < args.length) (h' : j < form.length) : allFitR (form.take (j + 1)) (args.take (j + 1)) = (allFitR (form.take j) (args.take j) && fitsR form[j] args[j]) := by
  unfold allFitR
  rw [List.take_succ_eq_append_getElem h, List.take_succ_eq_append_getElem h', List.zip_append (by simp; omega), List.all_append]
  simp
theorem allFitR_bad {form : List UInt8} {args : List (List UInt8)} {j : Nat} (h : j < args.length) (h' : j < form.length) (hb : fitsR form[j] args[j] = false) : allFitR form args = false := by
  unfold allFitR
  rw [List.all_eq_false]
  exact ⟨(args[j], form[j]), List.mem_iff_getElem.2 ⟨j, by simp; omega, by simp⟩, by simp [hb]⟩
def ValRel (w2 : World) (form : List UInt8) (args : List (List UInt8)) (i : Value) (wr : World) : Prop := ∃ j : Nat, j ≤ args.length ∧ i = .int .i64 (j : Int) ∧ allFitR (form.take j) (args.take j) = true ∧ Below w2.heap.size w2 wr
theorem ba_get {l : List UInt8} {j : Nat} (h : j < l.length) : (ba l)[j]'(by rw [ba_size]; exact h) = l[j] := by unfold ba; rfl

set_option maxHeartbeats 4000000 in
set_option maxRecDepth 100000 in
theorem rvalid_any (cmd : ByteArray) {A : Option Addr} {args : List (List UInt8)} (ca : Nat) (w : World) (hA : StrsAt w A args) (hl : args.length ≤ 100000) (hs : ∀ a ∈ args, a.length ≤ 65536) :
    Calls Tryz.prog 16 #[.agg #[.string cmd, .slice A args.length ca]] w fun e w' => e = .returned (.bool (validR cmd.data.toList args)) ∧ Below w.heap.size w w' := by
  unfold validR
  have CF := find_any cmd (w.alloc (.cells #[.string cmd, .slice A args.length ca] 39))
  generalize findR cmd.data.toList = fr at CF ⊢
  obtain ⟨⟨f0, f1, f2⟩, ok⟩ := fr
  have HCF := Lib.hid CF
  clear CF
  dsimp only
  go_enter Tryz.func16, Tryz.ntmps16
  go_wp2_with fail
  refine HCF.out.mono ?_
  clear HCF
  rintro e w1 ⟨rfl, b1⟩
  have bx : Blk w1 w.heap.size 39 #[.string cmd, .slice A args.length ca] := (Blk.new w 39 _).below b1 (by simp)
  have bw1 : Below w.heap.size w w1 := ((Below.refl _ _).alloc (Nat.le_refl _) _).trans (b1.mono (by simp))
  have hA1 : StrsAt w1 A args := (Kept.of_below (F := NoF) bw1).src hA (fun _ _ _ h => h)
  clear b1 hA
  go_upto_region 2 with fail
  have bf := Blk.new w1 71 #[.string (ba f0), .string (ba f1), .int .i64 f2]
  have k2 := (Kept.refl NoF w1).alloc (.cells #[.string (ba f0), .string (ba f1), .int .i64 f2] 71)
  have bw2 := bw1.alloc bw1.size (.cells #[.string (ba f0), .string (ba f1), .int .i64 f2] 71)
  generalize w1.alloc (.cells #[.string (ba f0), .string (ba f1), .int .i64 f2] 71) = w2 at bf k2 bw2 ⊢
  have bx2 := k2.blk bx (fun h => h)
  have hA2 : StrsAt w2 A args := k2.src hA1 (fun _ _ _ h => h)
  clear bx hA1 k2 bw1
  generalize w1.heap.size = wb at bf ⊢
  have g1 : w2.cell? ⟨w.heap.size, 1, none⟩ = some (.slice A args.length ca) := (bx2.cell 1).trans rfl
  have g2 : w2.cell? ⟨wb, 1, none⟩ = some (.string (ba f1)) := (bf.cell 1).trans rfl
  have hsz := ba_size f1
  cases ok
  · go_wp2_with fail
    go_ret
    exact ⟨rfl, bw2⟩
  · by_cases hle : args.length = f1.length
    · have t0 : ((args.length : Int) != ((ba f1).size : Int)) = false := by rw [hsz]; simp; omega
      have HLE := Lib.hid hle
      have HSZ := Lib.hid hsz
      clear hle hsz
      go_wp2_with fail
      go_loopw [5] (ValRel w2 f1 args) (fun i _ => args.length - (intOf i).toNat)
      case atStart => exact ⟨0, Nat.zero_le _, rfl, rfl, Below.refl _ _⟩
      case round =>
        clear g1 g2
        obtain ⟨j, hj, rfl, hfit, br⟩ := hrel
        have kr : Kept NoF w2 wr := Kept.of_below br
        have g1 : wr.cell? ⟨w.heap.size, 1, none⟩ = some (.slice A args.length ca) := kr.cell ((bx2.cell 1).trans rfl) (fun h => h)
        have g2 : wr.cell? ⟨wb, 1, none⟩ = some (.string (ba f1)) := kr.cell ((bf.cell 1).trans rfl) (fun h => h)
        have bwr : Below w.heap.size w wr := bw2.trans (br.mono bw2.size)
        have HFIT := Lib.hid hfit
        clear hfit
        by_cases hlt : j < args.length
        · have hlt2 : j < f1.length := by rw [← HLE.out]; exact hlt
          have hlt3 : j < (ba f1).size := by rw [HSZ.out]; exact hlt2
          have hAr : StrsAt wr A args := kr.src hA2 (fun _ _ _ h => h)
          obtain ⟨xb, xo, rfl, hxb, cx⟩ := hAr.at_ hlt
          have i1 : (j : Int) < (args.length : Int) := by omega
          have i2 : (j : Int) < ((ba f1).size : Int) := by omega
          have hby : (ba f1)[j] = f1[j] := ba_get hlt2
          have CFT := Lib.hid (fun W => (show Calls Tryz.prog 40 #[.string (ba args[j]), .int .u8 ((ba f1)[j].toNat : Int)] W _ from by
            have := fits_any (ba args[j]) f1[j] W (by rw [ba_size]; exact hs _ (List.getElem_mem hlt))
            rw [ba_toList] at this
            rw [hby]
            exact this))
          have SA := Lib.hid (fun W (k : Kept NoF wr W) => (⟨k, k.cell g1 (fun h => h), k.cell cx (fun h => h), k.cell g2 (fun h => h)⟩ : (fun w' => Kept NoF wr w' ∧ w'.cell? ⟨w.heap.size, 1, none⟩ = some (.slice (some ⟨xb, xo, none⟩) args.length ca) ∧ w'.cell? ⟨xb, xo + j, none⟩ = some (.string (ba args[j])) ∧ w'.cell? ⟨wb, 1, none⟩ = some (.string (ba f1))) W))
          have hsn := allFitR_snoc hlt hlt2
          rw [HFIT.out, Bool.true_and] at hsn
          have hbd := @allFitR_bad f1 args j hlt hlt2
          clear hby
          generalize fitsR f1[j] args[j] = fb at CFT hsn hbd
          have HSN := Lib.hid hsn
          have HBD := Lib.hid hbd
          clear hsn hbd hs HFIT
          go_upto_region 7 with fail
          refine wp_region_noPanic ?_
          refine wp_region_held_drew (S := (fun w' => Kept NoF wr w' ∧ w'.cell? ⟨w.heap.size, 1, none⟩ = some (.slice (some ⟨xb, xo, none⟩) args.length ca) ∧ w'.cell? ⟨xb, xo + j, none⟩ = some (.string (ba args[j])) ∧ w'.cell? ⟨wb, 1, none⟩ = some (.string (ba f1)))) (by kernel_rfl) ?_ (fun hHeld => ?_)
          · exact SA.out _ (Kept.refl NoF wr).drew
          refine wpAnyH_take (i := 0) (v := ?_) rfl (by kernel_rfl) (by kernel_rfl) (by kernel_rfl) (fun _ _ _ h => h) (Or.inl ⟨by rfl, ?_⟩) hHeld ?_
          rotate_left
          · (intro w hSw; (try dsimp only at hSw); go_simp; try (with_reducible rfl))
          simp only [Act.put, List.getElem_toArray, List.getElem_cons_zero, List.setIfInBounds_toArray, List.set_cons_zero, List.set_cons_succ]
          refine wpAnyH_take (i := 1) (v := ?_) rfl (by kernel_rfl) (by kernel_rfl) (by kernel_rfl) (fun _ _ _ h => h) (Or.inl ⟨by rfl, ?_⟩) hHeld ?_
          rotate_left
          · (intro w hSw; (try dsimp only at hSw); go_simp; try (with_reducible rfl))
          simp only [Act.put, List.getElem_toArray, List.getElem_cons_zero, List.getElem_cons_succ, List.setIfInBounds_toArray, List.set_cons_zero, List.set_cons_succ]
          refine wpAnyH_take (i := 2) (v := ?_) rfl (by kernel_rfl) (by kernel_rfl) (by kernel_rfl) (fun _ _ _ h => h) (Or.inl ⟨by rfl, ?_⟩) hHeld ?_
          rotate_left
          · (intro w hSw; (try dsimp only at hSw); go_simp; try (with_reducible rfl))
          simp only [Act.put, List.getElem_toArray, List.getElem_cons_zero, List.getElem_cons_succ, List.setIfInBounds_toArray, List.set_cons_zero, List.set_cons_succ]
          refine wpAnyH_take (i := 3) (v := ?_) rfl (by kernel_rfl) (by kernel_rfl) (by kernel_rfl) (fun _ _ _ h => h) (Or.inl ⟨by rfl, ?_⟩) hHeld ?_
          rotate_left
          · (intro w hSw; (try dsimp only at hSw); go_simp; try (with_reducible rfl))
          simp only [Act.put, List.getElem_toArray, List.getElem_cons_zero, List.getElem_cons_succ, List.setIfInBounds_toArray, List.set_cons_zero, List.set_cons_succ]
          refine wpAnyH_take (i := 4) (v := ?_) rfl (by kernel_rfl) (by kernel_rfl) (by kernel_rfl) (fun _ _ _ h => h) (Or.inl ⟨by rfl, ?_⟩) hHeld ?_
          rotate_left
          · (intro w hSw; (try dsimp only at hSw); go_simp; try (with_reducible rfl))
          simp only [Act.put, List.getElem_toArray, List.getElem_cons_zero, List.getElem_cons_succ, List.setIfInBounds_toArray, List.set_cons_zero, List.set_cons_succ]
          refine wpAnyH_take (i := 5) (v := ?_) rfl (by kernel_rfl) (by kernel_rfl) (by kernel_rfl) (fun _ _ _ h => h) (Or.inl ⟨by rfl, ?_⟩) hHeld ?_
          rotate_left
          · (intro w hSw; (try dsimp only at hSw); go_simp; try (with_reducible rfl))
          simp only [Act.put, List.getElem_toArray, List.getElem_cons_zero, List.getElem_cons_succ, List.setIfInBounds_toArray, List.set_cons_zero, List.set_cons_succ]
          refine wpAnyH_take (i := 6) (v := ?_) rfl (by kernel_rfl) (by kernel_rfl) (by kernel_rfl) (fun _ _ _ h => h) (Or.inl ⟨by rfl, ?_⟩) hHeld ?_
          rotate_left
          · (intro w hSw; (try dsimp only at hSw); go_simp; try (with_reducible rfl))
          simp only [Act.put, List.getElem_toArray, List.getElem_cons_zero, List.getElem_cons_succ, List.setIfInBounds_toArray, List.set_cons_zero, List.set_cons_succ]
          refine wpAnyH_take (i := 7) (v := ?_) rfl (by kernel_rfl) (by kernel_rfl) (by kernel_rfl) (fun _ _ _ h => h) (Or.inl ⟨by rfl, ?_⟩) hHeld ?_
          rotate_left
          · (intro w hSw; (try dsimp only at hSw); go_simp; try (with_reducible rfl))
          simp only [Act.put, List.getElem_toArray, List.getElem_cons_zero, List.getElem_cons_succ, List.setIfInBounds_toArray, List.set_cons_zero, List.set_cons_succ]
          refine wpAnyH_take (i := 8) (v := ?_) rfl (by kernel_rfl) (by kernel_rfl) (by kernel_rfl) (fun _ _ _ h => h) (Or.inl ⟨by rfl, ?_⟩) hHeld ?_
          rotate_left
          · (intro w hSw; (try dsimp only at hSw); go_simp; try (with_reducible rfl))
          simp only [Act.put, List.getElem_toArray, List.getElem_cons_zero, List.getElem_cons_succ, List.setIfInBounds_toArray, List.set_cons_zero, List.set_cons_succ]
          refine wpAnyH_ready (rs := [9]) (by kernel_rfl) (by simp) ?_
          refine AllReadyH.cons rfl (fun K hK => ?_) AllReadyH.nil
          go_simp
          refine (CFT.out _).mono ?_
          rintro e wa ⟨rfl, ba1⟩
          have hHa : Kept NoF wr wa := hHeld.1.trans (Kept.of_below (F := NoF) ba1) (fun _ h => .inl h)
          go_wp2_with fail
          refine hK.out _ _ (SA.out _ hHa) (fun hHeld => ?_)
          clear hK K
          try simp only [Act.put, List.getElem_toArray, List.getElem_cons_zero, List.getElem_cons_succ, List.setIfInBounds_toArray, List.set_cons_zero, List.set_cons_succ]
          refine wpAnyH_take (i := 10) (v := ?_) rfl (by kernel_rfl) (by kernel_rfl) (by kernel_rfl) (fun _ _ _ h => h) (Or.inl ⟨by rfl, ?_⟩) hHeld ?_
          rotate_left
          · (intro w hSw; (try dsimp only at hSw); go_simp; try (with_reducible rfl))
          simp only [Act.put, List.getElem_toArray, List.getElem_cons_zero, List.getElem_cons_succ, List.setIfInBounds_toArray, List.set_cons_zero, List.set_cons_succ]
          refine wpAnyH_done (by kernel_rfl) ?_ _
          refine NoPanic.normal ?_
          cases fb
          · go_wp2_with fail
            go_ret
            exact ⟨by rw [HBD.out (by trivial)]; simp, bwr.trans (hHa.below (Nat.le_refl _) (fun _ h => h.elim) |>.mono bwr.size)⟩
          · go_wp2_with fail
            go_roundw
            case rel => exact ⟨j + 1, hlt, by go_num, HSN.out, br.trans (hHa.below (Nat.le_refl _) (fun _ h => h.elim) |>.mono br.size)⟩
            case measure => simp [intOf]; omega
        · have hj' : j = args.length := by omega
          have hfit := HFIT.out
          rw [hj', List.take_length, HLE.out, List.take_length] at hfit
          have HF := Lib.hid hfit
          clear hfit HFIT
          subst hj'
          go_wp2_with fail
          go_ret
          refine ⟨?_, bwr⟩
          rw [HF.out, decide_eq_true HLE.out]
          rfl
    · have t0 : ((args.length : Int) != ((ba f1).size : Int)) = true := by rw [hsz]; simp; omega
      have HLE := Lib.hid hle
      clear hle
      go_wp2_with fail
      go_ret
      refine ⟨?_, bw2⟩
      rw [decide_eq_false HLE.out]
      rfl

end Go.Proofs.YtfnfjfcncijapaaGreatDoor
