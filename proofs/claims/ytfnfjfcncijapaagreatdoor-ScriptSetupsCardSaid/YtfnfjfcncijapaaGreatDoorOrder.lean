/- kinkeepref56.Order. -/
import Derived.Test.YtfnfjfcncijapaaGreatDoorValid
namespace Go.Proofs.YtfnfjfcncijapaaGreatDoor
open Go.RowKit Go.Shelf
attribute [local go_sem] Oper.semAt_some

def okDecl (b : StepD) : Bool := (findR b.cmd).1.2.2 == 1
def isV (b : StepD) : Bool := (findR b.cmd).1.1 == [118, 97, 117, 108, 116]
/-- The error of a declaration that does not come where it must. -/
def orderR (before : List StepD) (cmd : List UInt8) : Int :=
  if (findR cmd).1.2.2 ≠ 1 then 0 else if before.all okDecl = false then 6 else if (!before.any isV && needsV cmd) = true then 6 else 0
def OrdRel (w2 : World) (before : List StepD) (v i : Value) (wr : World) : Prop :=
  ∃ j : Nat, j ≤ before.length ∧ i = .int .i64 (j : Int) ∧ v = .bool ((before.take j).any isV) ∧ (before.take j).all okDecl = true ∧ Below w2.heap.size w2 wr
theorem any_snoc {before : List StepD} {j : Nat} (h : j < before.length) : (before.take (j + 1)).any isV = ((before.take j).any isV || isV before[j]) := by
  rw [List.take_succ_eq_append_getElem h, List.any_append]; simp
theorem all_snoc {before : List StepD} {j : Nat} (h : j < before.length) (h0 : (before.take j).all okDecl = true) (h1 : okDecl before[j] = true) : (before.take (j + 1)).all okDecl = true := by
  rw [List.take_succ_eq_append_getElem h, List.all_append, h0]; simp [h1]
theorem all_bad {before : List StepD} {j : Nat} (h : j < before.length) (h1 : okDecl before[j] = false) : before.all okDecl = false := by
  rw [List.all_eq_false]; exact ⟨_, List.getElem_mem h, by simp [h1]⟩

set_option maxHeartbeats 4000000 in
set_option maxRecDepth 100000 in
theorem order_any (cmd : ByteArray) (A B : Option Addr) (n ca cb : Nat) {before : List StepD} (w : World) (hB : StepsAt w B before) (hl : before.length ≤ 100000) :
    Calls Tryz.prog 18 #[.slice B before.length cb, .agg #[.string cmd, .slice A n ca]] w fun e w' => e = .returned (.int .i64 (orderR before cmd.data.toList)) ∧ Below w.heap.size w w' := by
  have CF := find_any cmd (w.alloc (.cells #[.string cmd, .slice A n ca] 39))
  have hO : orderR before cmd.data.toList = if (findR cmd.data.toList).1.2.2 ≠ 1 then 0 else if before.all okDecl = false then 6 else if (!before.any isV && needsV cmd.data.toList) = true then 6 else 0 := rfl
  generalize findR cmd.data.toList = fr at CF hO
  obtain ⟨⟨f0, f1, f2⟩, ok⟩ := fr
  dsimp only at hO
  have HO := Lib.hid hO
  have HCF := Lib.hid CF
  clear CF hO
  go_enter Tryz.func18, Tryz.ntmps18
  go_wp2_with fail
  refine HCF.out.mono ?_
  clear HCF
  rintro e w1 ⟨rfl, b1⟩
  have bx : Blk w1 w.heap.size 39 #[.string cmd, .slice A n ca] := (Blk.new w 39 _).below b1 (by simp)
  have bw1 : Below w.heap.size w w1 := ((Below.refl _ _).alloc (Nat.le_refl _) _).trans (b1.mono (by simp))
  clear b1
  go_upto_region 2 with fail
  have bf := Blk.new w1 71 #[.string (ba f0), .string (ba f1), .int .i64 f2]
  have k2 := (Kept.refl NoF w1).alloc (.cells #[.string (ba f0), .string (ba f1), .int .i64 f2] 71)
  have bw2 := bw1.alloc bw1.size (.cells #[.string (ba f0), .string (ba f1), .int .i64 f2] 71)
  generalize w1.alloc (.cells #[.string (ba f0), .string (ba f1), .int .i64 f2] 71) = w2 at bf k2 bw2 ⊢
  have bx2 := k2.blk bx (fun h => h)
  have hB2 : StepsAt w2 B before := hB.same (Kept.of_below bw2)
  clear bx k2 bw1 hB
  generalize w1.heap.size = wb at bf ⊢
  have g1 : w2.cell? ⟨wb, 2, none⟩ = some (.int .i64 f2) := (bf.cell 2).trans rfl
  by_cases hf2 : f2 = 1
  · subst hf2
    go_wp2_with fail
    go_loopw [7, 8] (OrdRel w2 before) (fun _ i _ => before.length - (intOf i).toNat)
    case atStart => exact ⟨0, Nat.zero_le _, rfl, rfl, rfl, Below.refl _ _⟩
    case round =>
      obtain ⟨j, hj, rfl, rfl, hall, br⟩ := hrel
      have kr : Kept NoF w2 wr := Kept.of_below br
      have bwr : Below w.heap.size w wr := bw2.trans (br.mono bw2.size)
      have HALL := Lib.hid hall
      clear hall g1
      by_cases hlt : j < before.length
      · obtain ⟨xb, xo, X, cx, rfl, hxb, c0, _, _⟩ := (hB2.same kr).at_ hlt
        have i1 : (j : Int) < (before.length : Int) := by omega
        have CG := find_any (ba before[j].cmd) wr
        rw [ba_toList] at CG
        have hv : isV before[j] = ((findR before[j].cmd).1.1 == [118, 97, 117, 108, 116]) := rfl
        have hk : okDecl before[j] = ((findR before[j].cmd).1.2.2 == 1) := rfl
        have hany := any_snoc hlt
        have hals := @all_snoc before j hlt HALL.out
        have halb := @all_bad before j hlt
        rw [hv] at hany
        rw [hk] at hals halb
        clear hv hk
        generalize findR before[j].cmd = gr at CG hany hals halb
        obtain ⟨⟨g0, g1, g2⟩, gk⟩ := gr
        dsimp only at hany hals halb
        have HCG := Lib.hid CG
        have HANY := Lib.hid hany
        have HALS := Lib.hid hals
        have HALB := Lib.hid halb
        clear CG hany hals halb
        generalize (before.take j).any isV = vb at HANY ⊢
        go_wp2_with fail
        refine HCG.out.mono ?_
        clear HCG
        rintro e w3 ⟨rfl, b3⟩
        go_upto_region 9 with fail
        have bg := Blk.new w3 71 #[.string (ba g0), .string (ba g1), .int .i64 g2]
        have br4 := (br.trans (b3.mono br.size)).alloc (Nat.le_trans br.size b3.size) (.cells #[.string (ba g0), .string (ba g1), .int .i64 g2] 71)
        generalize w3.alloc (.cells #[.string (ba g0), .string (ba g1), .int .i64 g2] 71) = w4 at bg br4 ⊢
        generalize w3.heap.size = wg at bg ⊢
        have d0 : w4.cell? ⟨wg, 0, none⟩ = some (.string (ba g0)) := (bg.cell 0).trans rfl
        have d2 : w4.cell? ⟨wg, 2, none⟩ = some (.int .i64 g2) := (bg.cell 2).trans rfl
        by_cases hg2 : g2 = 1
        · subst hg2
          have q0 : ((ba g0).toList == ([118, 97, 117, 108, 116] : List UInt8)) = (g0 == [118, 97, 117, 108, 116]) := by rw [Lib.toList_data, ba_toList]
          generalize hgv : (g0 == ([118, 97, 117, 108, 116] : List UInt8)) = gv at q0 HANY
          clear hgv
          cases vb
          · go_wp2_with fail
            go_roundw
            case rel => exact ⟨j + 1, hlt, by go_num, by rw [HANY.out]; simp, HALS.out (by simp), br4⟩
            case measure => simp [intOf]; omega
          · go_wp2_with fail
            go_roundw
            case rel => exact ⟨j + 1, hlt, by go_num, by rw [HANY.out]; simp, HALS.out (by simp), br4⟩
            case measure => simp [intOf]; omega
        · have q1 : (g2 != 1) = true := by simpa using hg2
          have HR := Lib.hid (HALB.out (by simpa using hg2))
          clear hg2
          go_wp2_with fail
          go_ret
          refine ⟨?_, bw2.trans (br4.mono bw2.size)⟩
          rw [HO.out, if_neg (by simp), if_pos HR.out]
          rfl
      · have hj' : j = before.length := by omega
        have hall := HALL.out
        rw [hj', List.take_length] at hall
        have HA := Lib.hid hall
        clear hall HALL
        subst hj'
        rw [List.take_length]
        have e0 : wr.cell? ⟨w.heap.size, 0, none⟩ = some (.string cmd) := kr.cell ((bx2.cell 0).trans rfl) (fun h => h)
        have hnv : needsV cmd.data.toList = ((cmd.toList == ([99, 117, 116, 116, 105, 110, 103] : List UInt8)) || (cmd.toList == ([114, 117, 108, 101, 115] : List UInt8))) := by unfold needsV; rw [Lib.toList_data]
        have HNV := Lib.hid hnv
        clear hnv
        generalize before.any isV = vb at HO ⊢
        cases h1 : (cmd.toList == ([99, 117, 116, 116, 105, 110, 103] : List UInt8)) <;> cases h2 : (cmd.toList == ([114, 117, 108, 101, 115] : List UInt8)) <;> cases vb
        all_goals
          go_wp2
          go_ret
          refine ⟨?_, bwr⟩
          rw [HO.out, if_neg (by simp), if_neg (by rw [HA.out]; simp), HNV.out, h1, h2]
          rfl
  · have q0 : (f2 != 1) = true := by simpa using hf2
    have HF2 := Lib.hid hf2
    clear hf2
    go_wp2_with fail
    go_ret
    exact ⟨by rw [HO.out, if_pos HF2.out]; rfl, bw2⟩

end Go.Proofs.YtfnfjfcncijapaaGreatDoor
