/- law.ScriptPrints (printed by genprints.py). -/
import Derived.Test.YtfnfjfcncijapaaGreatDoorRLine
import Derived.Test.YtfnfjfcncijapaaGreatDoorFew
namespace Go.Proofs.YtfnfjfcncijapaaGreatDoor
open Go.RowKit Go.Shelf
attribute [local go_sem] Oper.semAt_some

theorem svCells_prefix {sv : List (StepD × Option Addr × Nat)} {j i : Nat} {u : Value} (h : (svCells (sv.take j))[i]? = some u) : (svCells sv)[i]? = some u := by
  have e : svCells sv = svCells (sv.take j) ++ svCells (sv.drop j) := by
    unfold svCells
    rw [← List.flatMap_append, List.take_append_drop]
  rw [e, List.getElem?_append_left (List.getElem?_eq_some_iff.1 h).1]
  exact h
theorem StepsAt.take_ {w : World} {A : Option Addr} {l : List StepD} (h : StepsAt w A l) {j : Nat} (hj : j ≤ l.length) : StepsAt w A (l.take j) := by
  obtain ⟨sv, rfl, hr, hs⟩ := h
  refine ⟨sv.take j, by rw [List.map_take], ⟨by rw [svCells_length, List.length_take, List.length_take, List.length_map], fun hp => ?_⟩, fun x hx => hs x (List.mem_of_mem_take hx)⟩
  obtain ⟨ad, e, hb, hc⟩ := hr.2 (by rw [List.length_take] at hp; omega)
  exact ⟨ad, e, hb, fun i u hu => hc i u (svCells_prefix hu)⟩

theorem tot_mem {l : List StepD} {s : StepD} (h : s ∈ l) : lenS s.args ≤ totS l := le_sum_of_mem (List.mem_map.2 ⟨s, h, rfl⟩)
theorem len_mem {l : List (List UInt8)} {a : List UInt8} (h : a ∈ l) : a.length ≤ lenS l := le_sum_of_mem (List.mem_map.2 ⟨a, h, rfl⟩)
theorem lineP_args : ∀ (args : List (List UInt8)), (args.flatMap (fun a => 32 :: wordS a)).length ≤ 2 * args.length + 3 * lenS args
  | [] => by simp
  | a :: r => by
    have ih := lineP_args r
    have := wordS_length a
    simp only [List.flatMap_cons, List.length_append, List.length_cons, lenS, List.map_cons, List.sum_cons] at ih ⊢
    omega
theorem printP_len : ∀ (l : List StepD), l.all stepOk = true → (printP l).length ≤ 27 * l.length + 3 * totS l
  | [], _ => by simp [printP]
  | s :: l, h => by
    simp only [List.all_cons, Bool.and_eq_true] at h
    have ih := printP_len l h.2
    have h1 := lineP_args s.args
    have h2 := stepOk_args h.1
    simp only [printP, lineP, List.flatMap_cons, List.length_append, List.length_cons, List.length_nil, totS, List.map_cons, List.sum_cons] at ih ⊢
    omega
theorem stepOk_valid (s : StepD) : validR s.cmd s.args = stepOk s := kind_valid _ _
theorem printL_P (l : List StepD) : printL l = printP l := by
  unfold printL printP
  congr 1
  funext s
  rw [printS_lineP]
theorem prints_bad {l : List StepD} (h : l.all stepOk = false) : printAllS l = ([], 1) := by unfold printAllS; rw [if_neg (by rw [h]; simp)]
theorem prints_good {l : List StepD} (h : l.all stepOk = true) : printAllS l = (printP l, 0) := by unfold printAllS; rw [if_pos h, printL_P]
theorem firstE_take {l : List StepD} {j : Nat} (h : j < l.length) : firstE [] (l.take (j + 1)) = if firstE [] (l.take j) = 0 then orderR (l.take j) l[j].cmd else firstE [] (l.take j) := by
  rw [List.take_succ_eq_append_getElem h, firstE_snoc, List.nil_append]
theorem printP_take {l : List StepD} {j : Nat} (h : j < l.length) : printP (l.take (j + 1)) = printP (l.take j) ++ lineP l[j] ++ [10] := by
  rw [List.take_succ_eq_append_getElem h, printP_snoc, List.append_assoc]

def PrRel (w1 : World) (l : List StepD) (v f i : Value) (wr : World) : Prop :=
  ∃ j : Nat, j ≤ l.length ∧ i = .int .i64 (j : Int) ∧ v = .string (ba (printP (l.take j))) ∧ f = .int .i64 (firstE [] (l.take j)) ∧ (l.take j).all stepOk = true ∧ Below w1.heap.size w1 wr

set_option maxHeartbeats 8000000 in
set_option maxRecDepth 100000 in
theorem prints_any {A : Option Addr} {l : List StepD} (ca : Nat) (w : World) (hE : Env w) (ha : StepsAt w A l) (hl : l.length ≤ 140737488351232) (hin : ∀ s ∈ l, ArgsIn s) :
    Calls Tryz.prog 4 #[.slice A l.length ca] w fun e w' => e = .returned (.bool true) ∧ Below w.heap.size w w' := by
  have CF := Lib.hid (few_any ca w ha hl hin)
  have HE := Lib.hid hE
  clear hl hin hE
  go_enter Tryz.func4, Tryz.ntmps4
  go_wp2_with fail
  refine CF.out.mono ?_
  clear CF
  rintro e w0 ⟨⟨b, rfl, hfew⟩, rfl⟩
  cases b
  · clear hfew
    go_wp2_with fail
    refine (awake_any w0 HE.out).mono ?_
    rintro e w1 ⟨rfl, b1⟩
    go_wp2_with fail
    go_ret
    exact ⟨rfl, b1⟩
  · obtain ⟨h40, h2k, h8⟩ := hfew rfl
    have H8 := Lib.hid h8
    have HA2 := Lib.hid (show ∀ s ∈ l, ∀ a ∈ s.args, a.length ≤ 65536 from fun s hs a ha => by have := tot_mem hs; have := len_mem ha; omega)
    clear h8 hfew
    have CP := Lib.hid (printAll_any ca w0 HE.out ha (by omega) HA2.out)
    generalize hpr : printAllS l = pr at CP
    obtain ⟨txt, er⟩ := pr
    have HPR := Lib.hid hpr
    clear hpr
    dsimp only at CP
    go_wp2_with fail
    refine CP.out.mono ?_
    clear CP
    rintro e w1 ⟨rfl, b1⟩
    have HA1 := Lib.hid (ha.same (Kept.of_below b1))
    clear ha
    go_wp2_with fail
    refine (plain_cap ca w1 HA1.out (by omega)).mono ?_
    rintro e w2 ⟨B, cb, rfl, hcb, hB, b2⟩
    have bw2 := b1.trans (b2.mono b1.size)
    have HB := Lib.hid hB
    clear b1 b2 HA1 hB
    go_wp2_with fail
    go_loopw [6, 7, 8] (PrRel w2 l) (fun _ _ i _ => l.length - (intOf i).toNat)
    case atStart => exact ⟨0, Nat.zero_le _, rfl, rfl, rfl, rfl, Below.refl _ _⟩
    case round =>
      obtain ⟨j, hj, rfl, rfl, rfl, hok, br⟩ := hrel
      have bwr := bw2.trans (br.mono bw2.size)
      have hBr := HB.out.same (Kept.of_below br)
      have HOK := Lib.hid hok
      have HBR := Lib.hid br
      clear hok br bw2
      by_cases hlt : j < l.length
      · have i1 : decide ((j : Int) < (l.length : Int)) = true := by simp; omega
        have i2 : (j : Int) < (l.length : Int) := by omega
        have HS := Lib.hid hBr
        obtain ⟨xb, xo, X, cx, rfl, hxb, c0, c1, hX⟩ := hBr.at_ hlt
        have hlj := List.getElem_mem hlt
        have CV := rvalid_any (ba l[j].cmd) cx wr hX (by have := H8.out _ hlj; omega) (HA2.out _ hlj)
        rw [ba_toList, stepOk_valid] at CV
        have HCV := Lib.hid CV
        clear CV
        go_wp2_with fail
        refine HCV.out.mono ?_
        clear HCV
        rintro e wv ⟨rfl, bv⟩
        have kv : Kept NoF wr wv := Kept.of_below bv
        have bwv := bwr.trans (bv.mono bwr.size)
        have c0v := kv.cell c0 (fun h => h)
        have c1v := kv.cell c1 (fun h => h)
        have hXv := hX.same kv
        have HSv := Lib.hid (HS.out.same kv)
        have HBRV := Lib.hid (HBR.out.trans (bv.mono HBR.out.size))
        clear c0 c1 hX HS HBR bv kv bwr
        cases hst : stepOk l[j]
        · have hb := HPR.out.symm.trans (prints_bad (allOk_bad hlt hst))
          injection hb with hb1 hb2
          subst hb1 hb2
          clear hst
          have hq : (ba []).toList.isEmpty = true := ba_empty
          go_wp2_with fail
          refine (awake_any wv (HE.out.later bwv)).mono ?_
          rintro e wz ⟨rfl, bz⟩
          go_wp2_with fail
          go_ret
          exact ⟨rfl, bwv.trans (bz.mono bwv.size)⟩
        · obtain ⟨s1, s2⟩ := stepOk_args hst
          have CL := rline_any (ba l[j].cmd) X cx l[j].args wv hXv (by omega) (by rw [ba_size]; omega) (HA2.out _ hlj)
          rw [ba_toList, show (⟨l[j].cmd, l[j].args⟩ : StepD) = l[j] from rfl] at CL
          have HCL := Lib.hid CL
          have HOK' := Lib.hid (allOk_snoc hlt HOK.out hst)
          have hpl := printP_len (l.take (j + 1)) HOK'.out
          have htt : totS (l.take (j + 1)) ≤ totS l := by
            conv => rhs; rw [← List.take_append_drop (j + 1) l]
            simp only [totS, List.map_append, List.sum_append]
            omega
          rw [printP_take hlt, List.length_append, List.length_append, List.length_take] at hpl
          have hpl' : (printP (l.take j)).length + (lineP l[j]).length + 1 ≤ 100000 := by simp only [List.length_cons, List.length_nil] at hpl; omega
          have HPT := Lib.hid (printP_take hlt)
          have HFT := Lib.hid (firstE_take hlt)
          clear CL hpl htt hst HOK
          generalize printP (l.take j) = out at HPT hpl' ⊢
          generalize lineP l[j] = ln at HCL HPT hpl'
          go_wp2_with fail
          refine HCL.out.mono ?_
          clear HCL
          rintro e wf ⟨rfl, bf⟩
          have kf : Kept NoF wv wf := Kept.of_below bf
          have bwf := bwv.trans (bf.mono bwv.size)
          have c0f := kf.cell c0v (fun h => h)
          have c1f := kf.cell c1v (fun h => h)
          have HSf := Lib.hid (HSv.out.same kf)
          have HBRF := Lib.hid (HBRV.out.trans (bf.mono HBRV.out.size))
          have cc1 := cat_ba out ln wf (by omega)
          have cc2 : (Op.stringOp .add (ba (out ++ ln)) ⟨#[10]⟩).run Tryz.prog wf = .ok (.string (ba (out ++ ln ++ [10]))) wf := cat_ba _ [10] wf (by simp; omega)
          clear c0v c1v hXv HSv HBRV bf kf bwv
          by_cases h0 : firstE [] (l.take j) = 0
          · have HFE := Lib.hid (HFT.out.trans (if_pos h0))
            have q0 : (firstE [] (l.take j) == 0) = true := by simpa using h0
            have hlen : (l.take j).length = j := by rw [List.length_take]; omega
            have CO := Lib.hid (fun W (k : Kept NoF wf W) => (show Calls Tryz.prog 18 #[.slice (some ⟨xb, xo, none⟩) j cb, .agg #[.string (ba l[j].cmd), .slice X l[j].args.length cx]] W (fun e w' => e = .returned (.int .i64 (orderR (l.take j) l[j].cmd)) ∧ Below W.heap.size W w') from by
              have := order_any (ba l[j].cmd) X (some ⟨xb, xo, none⟩) l[j].args.length cx cb W ((HSf.out.same k).take_ hj) (by omega)
              rw [hlen, ba_toList] at this
              exact this))
            have SA := Lib.hid (fun W (k : Kept NoF wf W) => (⟨k, k.cell c0f (fun h => h), k.cell c1f (fun h => h)⟩ : (fun w' => Kept NoF wf w' ∧ w'.cell? ⟨xb, xo + j * 2, none⟩ = some (.string (ba l[j].cmd)) ∧ w'.cell? ⟨xb, xo + j * 2 + 1, none⟩ = some (.slice X l[j].args.length cx)) W))
            have hjc : j ≤ cb := Nat.le_trans hj hcb
            clear HFT h0 hlen
            generalize firstE [] (l.take j) = f0 at q0 ⊢
            go_upto_region 13 with fail
            refine wp_region_noPanic ?_
            refine wp_region_held_drew (S := (fun w' => Kept NoF wf w' ∧ w'.cell? ⟨xb, xo + j * 2, none⟩ = some (.string (ba l[j].cmd)) ∧ w'.cell? ⟨xb, xo + j * 2 + 1, none⟩ = some (.slice X l[j].args.length cx))) (by kernel_rfl) ?_ (fun hHeld => ?_)
            · exact SA.out _ (Kept.refl NoF wf).drew
            refine wpAnyH_take (i := 0) (v := ?_) rfl (by kernel_rfl) (by kernel_rfl) (by kernel_rfl) (fun _ _ _ h => h) (Or.inl ⟨by rfl, ?_⟩) hHeld ?_
            rotate_left
            · (intro w hSw; (try dsimp only at hSw); go_simp; try (with_reducible rfl))
            simp only [Act.put, List.getElem_toArray, List.getElem_cons_zero, List.setIfInBounds_toArray, List.set_cons_zero, List.set_cons_succ]
            refine wpAnyH_take (i := 1) (v := ?_) rfl (by kernel_rfl) (by kernel_rfl) (by kernel_rfl) (fun _ _ _ h => h) (Or.inl ⟨by rfl, ?_⟩) hHeld ?_
            rotate_left
            · (intro w hSw; (try dsimp only at hSw); go_simp; try (with_reducible rfl))
            simp only [Act.put, List.getElem_toArray, List.getElem_cons_zero, List.getElem_cons_succ, List.setIfInBounds_toArray, List.set_cons_zero, List.set_cons_succ]
            refine wpAnyH_take (i := 2) (v := ?_) rfl (by kernel_rfl) (by kernel_rfl) (by kernel_rfl) (fun _ _ _ h => h) (Or.inl ⟨by rfl, ?_⟩) hHeld ?_
            rotate_left
            · (intro w hSw; (try dsimp only at hSw); go_simp; try (with_reducible rfl))
            simp only [Act.put, List.getElem_toArray, List.getElem_cons_zero, List.getElem_cons_succ, List.setIfInBounds_toArray, List.set_cons_zero, List.set_cons_succ]
            refine wpAnyH_take (i := 3) (v := ?_) rfl (by kernel_rfl) (by kernel_rfl) (by kernel_rfl) (fun _ _ _ h => h) (Or.inl ⟨by rfl, ?_⟩) hHeld ?_
            rotate_left
            · (intro w hSw; (try dsimp only at hSw); go_simp; try (with_reducible rfl))
            simp only [Act.put, List.getElem_toArray, List.getElem_cons_zero, List.getElem_cons_succ, List.setIfInBounds_toArray, List.set_cons_zero, List.set_cons_succ]
            refine wpAnyH_take (i := 4) (v := ?_) rfl (by kernel_rfl) (by kernel_rfl) (by kernel_rfl) (fun _ _ _ h => h) (Or.inl ⟨by rfl, ?_⟩) hHeld ?_
            rotate_left
            · (intro w hSw; (try dsimp only at hSw); go_simp; try (with_reducible rfl))
            simp only [Act.put, List.getElem_toArray, List.getElem_cons_zero, List.getElem_cons_succ, List.setIfInBounds_toArray, List.set_cons_zero, List.set_cons_succ]
            refine wpAnyH_take (i := 5) (v := ?_) rfl (by kernel_rfl) (by kernel_rfl) (by kernel_rfl) (fun _ _ _ h => h) (Or.inl ⟨by rfl, ?_⟩) hHeld ?_
            rotate_left
            · (intro w hSw; (try dsimp only at hSw); go_simp; try (with_reducible rfl))
            simp only [Act.put, List.getElem_toArray, List.getElem_cons_zero, List.getElem_cons_succ, List.setIfInBounds_toArray, List.set_cons_zero, List.set_cons_succ]
            refine wpAnyH_take (i := 6) (v := ?_) rfl (by kernel_rfl) (by kernel_rfl) (by kernel_rfl) (fun _ _ _ h => h) (Or.inl ⟨by rfl, ?_⟩) hHeld ?_
            rotate_left
            · (intro w hSw; (try dsimp only at hSw); go_simp; try (with_reducible rfl))
            simp only [Act.put, List.getElem_toArray, List.getElem_cons_zero, List.getElem_cons_succ, List.setIfInBounds_toArray, List.set_cons_zero, List.set_cons_succ]
            refine wpAnyH_ready (rs := [7]) (by kernel_rfl) (by simp) ?_
            refine AllReadyH.cons rfl (fun K hK => ?_) AllReadyH.nil
            go_simp
            refine (CO.out _ hHeld.1).mono ?_
            rintro e wa ⟨rfl, ba1⟩
            have hHa : Kept NoF wf wa := hHeld.1.trans (Kept.of_below (F := NoF) ba1) (fun _ h => .inl h)
            go_wp2_with fail
            refine hK.out _ _ (SA.out _ hHa) (fun hHeld => ?_)
            clear hK K
            try simp only [Act.put, List.getElem_toArray, List.getElem_cons_zero, List.getElem_cons_succ, List.setIfInBounds_toArray, List.set_cons_zero, List.set_cons_succ]
            refine wpAnyH_take (i := 8) (v := ?_) rfl (by kernel_rfl) (by kernel_rfl) (by kernel_rfl) (fun _ _ _ h => h) (Or.inl ⟨by rfl, ?_⟩) hHeld ?_
            rotate_left
            · (intro w hSw; (try dsimp only at hSw); go_simp; try (with_reducible rfl))
            simp only [Act.put, List.getElem_toArray, List.getElem_cons_zero, List.getElem_cons_succ, List.setIfInBounds_toArray, List.set_cons_zero, List.set_cons_succ]
            refine wpAnyH_done (by kernel_rfl) ?_ _
            refine NoPanic.normal ?_
            go_wp2_with fail
            go_roundw
            case rel => exact ⟨j + 1, hlt, by go_num, by rw [HPT.out, List.append_assoc], by rw [HFE.out], HOK'.out, HBRF.out.trans (hHa.below (Nat.le_refl _) (fun _ h => h.elim) |>.mono HBRF.out.size)⟩
            case measure => simp [intOf]; omega
          · have HFE := Lib.hid (HFT.out.trans (if_neg h0))
            have q0 : (firstE [] (l.take j) == 0) = false := by simpa using h0
            clear HFT h0
            go_wp2_with fail
            go_roundw
            case rel => exact ⟨j + 1, hlt, by go_num, by rw [HPT.out, List.append_assoc], by rw [HFE.out], HOK'.out, HBRF.out⟩
            case measure => simp [intOf]; omega
      · obtain rfl : j = l.length := by omega
        have i1 : decide ((l.length : Int) < (l.length : Int)) = false := by simp
        have hok := HOK.out
        rw [List.take_length] at hok ⊢
        have hg := HPR.out.symm.trans (prints_good hok)
        injection hg with hg1 hg2
        subst hg1 hg2
        have hpl := printP_len l hok
        obtain ⟨p1, p2⟩ := print_parse l (fun s hs => by
          have h1 : validR s.cmd s.args = true := by rw [stepOk_valid]; exact List.all_eq_true.1 hok s hs
          exact ⟨valid_cmdOk h1, h1⟩) (by omega)
        have CP := parse_any (ba (printP l)) wr (HE.out.later bwr)
        rw [ba_toList, ← parse_agree] at CP
        have hkk := parseS_ok (printP l)
        rw [← parse_agree] at hkk
        have H1 := Lib.hid hkk.1
        have h2 := hkk.2
        have hq : ((ba (printP l)).toList != (ba (printP l)).toList) = false := by simp
        generalize parseR (printP l) = r at CP p1 p2 H1 h2
        obtain ⟨st, n, er⟩ := r
        dsimp only at p1 p2 h2 H1
        subst p1
        have HCP := Lib.hid CP
        have P2 := Lib.hid p2
        have HSb := Lib.hid hBr
        clear CP p2 hkk hok hpl HOK HPR hBr
        generalize printP l = out at *
        go_wp2_with fail
        refine HCP.out.mono ?_
        clear HCP
        rintro e wp ⟨G, cg, rfl, hcg, hG, bp⟩
        have bwp := bwr.trans (bp.mono bwr.size)
        have HG := Lib.hid hG
        have HSp := Lib.hid (HSb.out.same (Kept.of_below bp))
        clear hG HSb bp bwr
        go_wp2_with fail
        refine (awake_any wp (HE.out.later bwp)).mono ?_
        rintro e wz ⟨rfl, bz⟩
        have bwz := bwp.trans (bz.mono bwp.size)
        have HGz := Lib.hid (HG.out.same (Kept.of_below bz))
        have HSz := Lib.hid (HSp.out.same (Kept.of_below bz))
        clear HG HSp bz bwp
        have q1 : (firstE [] l == firstE [] l) = true := by simp
        by_cases h0 : firstE [] l = 0
        · have q2 : (firstE [] l != 0) = false := by simpa using h0
          obtain rfl := P2.out h0
          clear h0
          go_wp2_with fail
          refine (plain_any cg wz HGz.out (by omega)).mono ?_
          rintro e wq ⟨D, cd, rfl, hD, bq⟩
          have bwq := bwz.trans (bq.mono bwz.size)
          have HD := Lib.hid hD
          have HSq := Lib.hid (HSz.out.same (Kept.of_below bq))
          clear hD bq
          go_wp2_with fail
          refine (same_any cd cb wq HD.out HSq.out (by omega) (by omega) (fun x hx => by have := H8.out x hx; omega) (fun x hx => by have := H8.out x hx; omega)).mono ?_
          rintro e ws ⟨rfl, m, rfl⟩
          simp only [decide_true]
          go_wp2_with fail
          go_ret
          exact ⟨rfl, below_drewN bwq m⟩
        · have q2 : (firstE [] l != 0) = true := by simpa using h0
          clear h0
          go_wp2_with fail
          go_ret
          exact ⟨rfl, bwz⟩

end Go.Proofs.YtfnfjfcncijapaaGreatDoor
