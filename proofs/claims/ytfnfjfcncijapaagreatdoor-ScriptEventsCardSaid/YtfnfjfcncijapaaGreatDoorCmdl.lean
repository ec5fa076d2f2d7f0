/- law.ScriptCommands. -/
import Derived.Test.YtfnfjfcncijapaaGreatDoorCmds
import Derived.Test.YtfnfjfcncijapaaGreatDoorFew
namespace Go.Proofs.YtfnfjfcncijapaaGreatDoor
open Go.RowKit Go.Shelf
attribute [local go_sem] Oper.semAt_some

theorem one_step {w : World} {cmd : ByteArray} {X : Option Addr} {c : Nat} {xs : List (List UInt8)} (hX : StrsAt w X xs) :
    StepsAt (w.alloc (.cells #[.string cmd, .slice X xs.length c] 45)) (some ⟨w.heap.size, 0, none⟩) [⟨cmd.data.toList, xs⟩] := by
  have b1 := Blk.new w 45 #[.string cmd, .slice X xs.length c]
  have hX' : StrsAt _ X xs := hX.same ((Kept.refl NoF w).alloc (.cells #[.string cmd, .slice X xs.length c] 45))
  refine ⟨[(⟨cmd.data.toList, xs⟩, X, c)], rfl, ⟨rfl, fun _ => ⟨_, rfl, by simp, fun j u hu => ?_⟩⟩, fun x hx => ?_⟩
  · rw [Addr.add_lit, b1.cell, Nat.zero_add, ← Array.getElem?_toList]
    rw [← hu]
    simp only [svCells, List.flatMap_cons, List.flatMap_nil, List.append_nil, ba_data]
  · rw [List.mem_singleton.1 hx]
    exact hX'
theorem few_args {cmd : List UInt8} {xs : List (List UInt8)} (h : FewS [⟨cmd, xs⟩]) : xs.length ≤ 8 ∧ ∀ a ∈ xs, a.length ≤ 2000 := by
  obtain ⟨_, h2, h3⟩ := h
  refine ⟨h3 ⟨cmd, xs⟩ (by simp), fun a ha => ?_⟩
  have h4 : a.length ≤ lenS xs := le_sum_of_mem (List.mem_map.2 ⟨a, ha, rfl⟩)
  have h5 : totS [⟨cmd, xs⟩] = lenS xs := by simp [totS]
  omega
def CmdRel (w1 : World) (i : Value) (wr : World) : Prop := ∃ j : Nat, j ≤ 34 ∧ i = .int .i64 (j : Int) ∧ Drawn w1 wr
theorem cmdNames_get {j : Nat} (h : j < refTable.length) : cmdNames[j]'(by unfold cmdNames; simpa using h) = refTable[j].1 := by simp [cmdNames]

set_option maxHeartbeats 4000000 in
set_option maxRecDepth 100000 in
theorem commandsL_any (cmd : ByteArray) (X : Option Addr) (c : Nat) (xs : List (List UInt8)) (w : World) (hE : Env w) (hX : StrsAt w X xs) (hin : ArgsIn ⟨cmd.data.toList, xs⟩) :
    Calls Tryz.prog 8 #[.agg #[.string cmd, .slice X xs.length c]] w fun e w' => e = .returned (.bool true) ∧ Below w.heap.size w w' := by
  have bx := Blk.new w 45 #[.string cmd, .slice X xs.length c]
  have b0 : Below w.heap.size w (w.alloc (.cells #[.string cmd, .slice X xs.length c] 45)) := (Below.refl _ _).alloc (Nat.le_refl _) _
  have hX0 : StrsAt _ X xs := hX.same (Kept.of_below (F := NoF) b0)
  have HE := Lib.hid hE
  have HIN := Lib.hid hin
  clear hX hE hin
  go_enter Tryz.func8, Tryz.ntmps8
  go_upto_region 1 with fail
  generalize w.alloc (.cells #[.string cmd, .slice X xs.length c] 45) = w0 at bx b0 hX0 ⊢
  have e0 : w0.cell? ⟨w.heap.size, 0, none⟩ = some (.string cmd) := (bx.cell 0).trans rfl
  have e1 : w0.cell? ⟨w.heap.size, 1, none⟩ = some (.slice X xs.length c) := (bx.cell 1).trans rfl
  have CF := Lib.hid (few_any (l := [⟨cmd.data.toList, xs⟩]) 1 (w0.alloc (.cells #[.string cmd, .slice X xs.length c] 45)) (one_step hX0) (by simp) (fun s hs => by rw [List.mem_singleton.1 hs]; exact HIN.out))
  have k1 := (Kept.refl NoF w0).alloc (.cells #[.string cmd, .slice X xs.length c] 45)
  have b1 := b0.alloc b0.size (.cells #[.string cmd, .slice X xs.length c] 45)
  go_wp2_with fail
  generalize w0.alloc (.cells #[.string cmd, .slice X xs.length c] 45) = w1 at CF k1 b1 ⊢
  refine CF.out.mono ?_
  clear CF
  rintro e w2 ⟨⟨b, rfl, hfew⟩, rfl⟩
  have bx2 := k1.blk bx (fun h => h)
  have hX2 := hX0.same k1
  clear e0 e1 bx hX0 k1 b0
  cases b
  · clear hfew
    go_wp2_with fail
    refine (awake_any w2 (HE.out.later b1)).mono ?_
    rintro e w3 ⟨rfl, b3⟩
    go_wp2_with fail
    go_ret
    exact ⟨rfl, b1.trans (b3.mono b1.size)⟩
  · obtain ⟨h8, h2k⟩ := few_args (hfew rfl)
    have H2K := Lib.hid h2k
    clear hfew h2k
    go_wp2_with fail
    refine (commandsS_any w2).mono ?_
    rintro e w3 ⟨B, cb, rfl, hB, b3⟩
    have bw3 := b1.trans (b3.mono b1.size)
    have k3 : Kept NoF w2 w3 := Kept.of_below b3
    have bx3 := k3.blk bx2 (fun h => h)
    have hX3 := hX2.same k3
    clear b3 k3 bx2 hX2 b1
    go_wp2_with fail
    refine (forms_any w3).mono ?_
    rintro e w4 ⟨rfl, hw4⟩
    have bf : Blk w4 w3.heap.size 71 (formCells refTable).toArray := by rw [hw4]; exact Blk.new w3 71 _
    have k4 : Kept NoF w3 w4 := by rw [hw4]; exact (Kept.refl NoF w3).alloc _
    have bw4 : Below w.heap.size w w4 := by rw [hw4]; exact bw3.alloc bw3.size _
    have bx4 := k4.blk bx3 (fun h => h)
    have hX4 := hX3.same k4
    have hB4 := hB.same k4
    generalize w3.heap.size = fb at bf ⊢
    clear hw4 k4 bx3 hX3 hB bw3
    go_wp2_with fail
    go_loopw [5] (CmdRel w4) (fun i _ => 34 - (intOf i).toNat)
    case atStart => exact ⟨0, by omega, rfl, Drawn.refl _⟩
    case round =>
      obtain ⟨j, hj, rfl, kd⟩ := hrel
      have kr : Kept NoF w4 wr := kd.kept
      by_cases hlt : j < 34
      · have hlt' : j < refTable.length := hlt
        obtain ⟨g0, _, _⟩ := formCells_get hlt'
        have c0 : wr.cell? ⟨fb, j * 3, none⟩ = some (.string (ba refTable[j].1)) := by rw [(kr.blk bf (fun h => h)).cell]; simpa using g0
        obtain ⟨yb, yo, rfl, hyb, cy⟩ := (hB4.same kr).at_ (k := j) (by unfold cmdNames; simpa using hlt')
        rw [cmdNames_get hlt'] at cy
        have i1 : (j : Int) < 34 := by omega
        clear g0
        generalize refTable[j].1 = f at c0 cy
        have hne : ((ba f).toList != (ba f).toList) = false := by simp
        go_wp2_with fail
        go_quiet (fail)
        go_wp2_with fail
        go_roundw
        case rel => exact ⟨j + 1, by omega, by go_num, kd.drewN _⟩
        case measure => simp [intOf]; omega
      · obtain rfl : j = 34 := by omega
        have bwr : Below w.heap.size w wr := bw4.trans (kr.below (Nat.le_refl _) (fun _ h => h.elim) |>.mono bw4.size)
        have bxr := kr.blk bx4 (fun h => h)
        have hXr := hX4.same kr
        have e0 : wr.cell? ⟨w.heap.size, 0, none⟩ = some (.string cmd) := (bxr.cell 0).trans rfl
        have e1 : wr.cell? ⟨w.heap.size, 1, none⟩ = some (.slice X xs.length c) := (bxr.cell 1).trans rfl
        have toK : ∀ W W', Kept NoF wr W → Below W.heap.size W W' → Kept NoF wr W' := fun W W' k b => k.trans (Kept.of_below (F := NoF) b) (fun _ h => .inl h)
        have CA := Lib.hid (fun W (k : Kept NoF wr W) => (awake_any W (HE.out.later (bwr.trans (k.below (Nat.le_refl _) (fun _ h => h.elim) |>.mono bwr.size)))).mono (fun e W' (h : _ ∧ _) => (⟨h.1, toK W W' k h.2⟩ : e = .returned (.bool true) ∧ Kept NoF wr W')))
        have CV := Lib.hid (fun W (k : Kept NoF wr W) => (valid_any cmd X c xs W (HE.out.later (bwr.trans (k.below (Nat.le_refl _) (fun _ h => h.elim) |>.mono bwr.size))) (hXr.same k) (fun a ha => by have := H2K.out a ha; omega)).mono (fun e W' (h : _ ∧ _) => (⟨h.1, toK W W' k h.2⟩ : e = .returned (.bool (kindS cmd.data.toList xs != 0)) ∧ Kept NoF wr W')))
        have CR := Lib.hid (fun W (k : Kept NoF wr W) => (rvalid_any cmd c W (hXr.same k) (by omega) (fun a ha => by have := H2K.out a ha; omega)).mono (fun e W' (h : _ ∧ _) => (⟨by rw [h.1, kind_valid], toK W W' k h.2⟩ : e = .returned (.bool (kindS cmd.data.toList xs != 0)) ∧ Kept NoF wr W')))
        have SA := Lib.hid (fun W (k : Kept NoF wr W) => (⟨k, k.cell e0 (fun h => h), k.cell e1 (fun h => h)⟩ : (fun w' => Kept NoF wr w' ∧ w'.cell? ⟨w.heap.size, 0, none⟩ = some (.string cmd) ∧ w'.cell? ⟨w.heap.size, 1, none⟩ = some (.slice X xs.length c)) W))
        have k0 := (Kept.refl NoF wr).drew
        have HBW := Lib.hid bwr
        clear toK e0 e1 kr kd bx4 hX4 hB4 bw4 bxr hXr bwr
        generalize (kindS cmd.data.toList xs != 0) = vb at CV CR
        have hq : (vb == vb) = true := by simp
        go_upto_region 11 with fail
        go_region_held3 (fun w' => Kept NoF wr w' ∧ w'.cell? ⟨w.heap.size, 0, none⟩ = some (.string cmd) ∧ w'.cell? ⟨w.heap.size, 1, none⟩ = some (.slice X xs.length c))
          (first | exact SA.out _ kd | exact SA.out _ kb | exact SA.out _ ka | exact SA.out _ k0)
          (first | (go_at_call 9; refine (CA.out _ k0).mono ?_; rintro e wa ⟨rfl, ka⟩) | (go_at_call 27; refine (CV.out _ ka).mono ?_; rintro e wb ⟨rfl, kb⟩) | (go_at_call 16; refine (CR.out _ kb).mono ?_; rintro e wd ⟨rfl, kd⟩))
        go_wp2_with fail
        go_ret
        exact ⟨rfl, HBW.out.trans (kd.below (Nat.le_refl _) (fun _ h => h.elim) |>.mono HBW.out.size)⟩

end Go.Proofs.YtfnfjfcncijapaaGreatDoor
