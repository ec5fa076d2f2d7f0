/- The setup of declarations as the reference says it, and that both say the same: plain words. -/
import Derived.Test.YtfnfjfcncijapaaGreatDoorSetP
import Derived.Test.YtfnfjfcncijapaaGreatDoorRDecl
import Derived.Test.YtfnfjfcncijapaaGreatDoorSetV
import Derived.Test.YtfnfjfcncijapaaGreatDoorRDeclA
import Derived.Test.YtfnfjfcncijapaaGreatDoorSetU
import Derived.Test.YtfnfjfcncijapaaGreatDoorFew
namespace Go.Proofs.YtfnfjfcncijapaaGreatDoor

/-- The setup that the reference makes of the rest of the steps. -/
def setRef : List StepD → List StepD → Nat → SetD → SetD × Int × Int
  | _, [], i, x => (x, (i : Int), 0)
  | b, s :: r, i, x => if okDecl s = false then (x, (i : Int), 0) else if validR s.cmd s.args = false then (setZ, (i : Int), 1) else if orderR b s.cmd ≠ 0 then (setZ, (i : Int), orderR b s.cmd) else setRef (b ++ [s]) r (i + 1) (decl x s.cmd s.args)
theorem setRef_cons (b : List StepD) (s : StepD) (r : List StepD) (i : Nat) (x : SetD) : setRef b (s :: r) i x = if okDecl s = false then (x, (i : Int), 0) else if validR s.cmd s.args = false then (setZ, (i : Int), 1) else if orderR b s.cmd ≠ 0 then (setZ, (i : Int), orderR b s.cmd) else setRef (b ++ [s]) r (i + 1) (decl x s.cmd s.args) := rfl
theorem set_agree : ∀ (r b : List StepD) (i : Nat) (x : SetD), b.all okDecl = true → (!x.vaults.isEmpty) = b.any isV → setRef b r i x = setS r i x
  | [], _, _, _, _, _ => rfl
  | s :: r, b, i, x, hb, hv => by
    rw [setRef_cons, setS_cons]
    have hd : okDecl s = isDecl s.cmd := isDecl_find s.cmd
    cases hq : isDecl s.cmd with
    | false => rw [if_pos (hd.trans hq), if_pos rfl]
    | true =>
      rw [if_neg (show ¬ okDecl s = false by rw [hd, hq]; simp), if_neg (show ¬ (true = false) by simp), kind_valid]
      by_cases hk : kindS s.cmd s.args = 0
      · rw [if_pos (show (kindS s.cmd s.args != 0) = false by simp [hk]), if_pos hk]
      · rw [if_neg (show ¬ (kindS s.cmd s.args != 0) = false by simp [hk]), if_neg hk]
        have hf : (findR s.cmd).1.2.2 = 1 := by have := hd.trans hq; unfold okDecl at this; simpa using this
        have ho : orderR b s.cmd = if (needsV s.cmd && x.vaults.isEmpty) = true then 6 else 0 := by
          unfold orderR
          rw [if_neg (show ¬ (findR s.cmd).1.2.2 ≠ 1 by simp [hf]), hb, if_neg (show ¬ (true = false) by simp), ← hv, Bool.not_not, Bool.and_comm]
        rw [ho]
        by_cases hn : (needsV s.cmd && x.vaults.isEmpty) = true
        · rw [if_pos hn, if_pos (by decide), if_pos hn]
        · rw [if_neg hn, if_neg (show ¬ ((0 : Int) ≠ 0) by simp), if_neg hn]
          refine set_agree r (b ++ [s]) (i + 1) _ ?_ ?_
          · rw [List.all_append, hb]; simp [hd, hq]
          · rw [decl_vaults x hq hk, List.any_append, hv]; simp
theorem set_same (l : List StepD) : setRef [] l 0 set0 = setS l 0 set0 := set_agree l [] 0 set0 rfl rfl

end Go.Proofs.YtfnfjfcncijapaaGreatDoor

namespace Go.Proofs.YtfnfjfcncijapaaGreatDoor
open Go.RowKit Go.Shelf
attribute [local go_sem] Oper.semAt_some

set_option maxHeartbeats 4000000 in
set_option maxRecDepth 100000 in
theorem rdecl_vault {w : World} {B : Nat} {d : SetD} {nm qs vs : Value} {vl : List (VaultD × Option Addr × Nat)} (hr : RowsAt w B d nm qs vs vl) (hBw : B ≤ w.heap.size) (ab ao cA : Nat) (a0 a1 a2 a3 : List UInt8) (hA : StrsAt w (some ⟨ab, ao, none⟩) [a0, a1, a2, a3]) (hab : ab < B) (hs : ∀ a ∈ [a0, a1, a2, a3], a.length ≤ 65536) (hn0 : numsB a0 = true) (hV : d.vaults.length ≤ 100000) :
    Calls Tryz.prog 52 #[.agg (d.cells nm qs vs), .agg #[.string (ba [118, 97, 117, 108, 116]), .slice (some ⟨ab, ao, none⟩) 4 cA]] w (DeclPost (decl d [118, 97, 117, 108, 116] [a0, a1, a2, a3]) B w) := by
  obtain ⟨U3, cu3, rfl, _, _⟩ := own_form hr.n3
  have hi := decl_wrap (decl_slen hr)
  obtain ⟨U1, cu1, rfl, _, _⟩ := own_form hr.n1
  obtain ⟨U2, cu2, rfl, _, _⟩ := own_form hr.n2
  have HDC := Lib.hid (decl_vault d a0 a1 a2 a3)
  have CN1 := Lib.hid (fun (W : World) (k : Kept (fun b => B ≤ b) w W) => (show Calls Tryz.prog 47 #[.agg #[.string (ba [118, 97, 117, 108, 116]), .slice (some ⟨ab, ao, none⟩) 4 cA], .int .i64 1] W fun e W' => e = .returned (.int .i64 (nv a1)) ∧ Kept NoF W W' from
    (rnumber_any (ba [118, 97, 117, 108, 116]) (some ⟨ab, ao, none⟩) cA [a0, a1, a2, a3] W (k.src hA (fun ad e _ hf => by cases e; exact absurd hf (by show ¬ B ≤ ab; omega))) 1 (by simp) (fun a ha => by have := hs a ha; omega)).mono (fun e W' h => ⟨h.1, Kept.of_below h.2⟩)))
  have CN2 := Lib.hid (fun (W : World) (k : Kept (fun b => B ≤ b) w W) => (show Calls Tryz.prog 47 #[.agg #[.string (ba [118, 97, 117, 108, 116]), .slice (some ⟨ab, ao, none⟩) 4 cA], .int .i64 2] W fun e W' => e = .returned (.int .i64 (nv a2)) ∧ Kept NoF W W' from
    (rnumber_any (ba [118, 97, 117, 108, 116]) (some ⟨ab, ao, none⟩) cA [a0, a1, a2, a3] W (k.src hA (fun ad e _ hf => by cases e; exact absurd hf (by show ¬ B ≤ ab; omega))) 2 (by simp) (fun a ha => by have := hs a ha; omega)).mono (fun e W' h => ⟨h.1, Kept.of_below h.2⟩)))
  have CN3 := Lib.hid (fun (W : World) (k : Kept (fun b => B ≤ b) w W) => (show Calls Tryz.prog 47 #[.agg #[.string (ba [118, 97, 117, 108, 116]), .slice (some ⟨ab, ao, none⟩) 4 cA], .int .i64 3] W fun e W' => e = .returned (.int .i64 (nv a3)) ∧ Kept NoF W W' from
    (rnumber_any (ba [118, 97, 117, 108, 116]) (some ⟨ab, ao, none⟩) cA [a0, a1, a2, a3] W (k.src hA (fun ad e _ hf => by cases e; exact absurd hf (by show ¬ B ≤ ab; omega))) 3 (by simp) (fun a ha => by have := hs a ha; omega)).mono (fun e W' h => ⟨h.1, Kept.of_below h.2⟩)))
  have bp := ((Blk.new w 63 #[.slice U1 d.names.length cu1, .slice U2 d.quotas.length cu2, .slice U3 d.vaults.length cu3, .int .i64 d.quorum, .string (ba d.seed), .int .i64 d.bits, .int .i64 d.height, .int .i64 d.sectors, .int .i64 d.size, .int .i64 d.day, .int .i64 d.leap, .int .i64 d.agree]).alloc (.cells #[.string (ba [118, 97, 117, 108, 116]), .slice (some ⟨ab, ao, none⟩) 4 cA] 39)).alloc (.cells #[.slice none 0 0, .slice none 0 0, .slice none 0 0, .int .i64 0, .string ⟨#[]⟩, .int .i64 0, .int .i64 0, .int .i64 0, .int .i64 0, .int .i64 0, .int .i64 0, .int .i64 0] 63)
  have bs := at_size (b := w.heap.size + 1) (by simp) ((Blk.new (w.alloc (.cells #[.slice U1 d.names.length cu1, .slice U2 d.quotas.length cu2, .slice U3 d.vaults.length cu3, .int .i64 d.quorum, .string (ba d.seed), .int .i64 d.bits, .int .i64 d.height, .int .i64 d.sectors, .int .i64 d.size, .int .i64 d.day, .int .i64 d.leap, .int .i64 d.agree] 63)) 39 #[.string (ba [118, 97, 117, 108, 116]), .slice (some ⟨ab, ao, none⟩) 4 cA]).alloc (.cells #[.slice none 0 0, .slice none 0 0, .slice none 0 0, .int .i64 0, .string ⟨#[]⟩, .int .i64 0, .int .i64 0, .int .i64 0, .int .i64 0, .int .i64 0, .int .i64 0, .int .i64 0] 63))
  have bq := at_size (b := w.heap.size + 1 + 1) (by simp) (Blk.new ((w.alloc (.cells #[.slice U1 d.names.length cu1, .slice U2 d.quotas.length cu2, .slice U3 d.vaults.length cu3, .int .i64 d.quorum, .string (ba d.seed), .int .i64 d.bits, .int .i64 d.height, .int .i64 d.sectors, .int .i64 d.size, .int .i64 d.day, .int .i64 d.leap, .int .i64 d.agree] 63)).alloc (.cells #[.string (ba [118, 97, 117, 108, 116]), .slice (some ⟨ab, ao, none⟩) 4 cA] 39)) 63 #[.slice none 0 0, .slice none 0 0, .slice none 0 0, .int .i64 0, .string ⟨#[]⟩, .int .i64 0, .int .i64 0, .int .i64 0, .int .i64 0, .int .i64 0, .int .i64 0, .int .i64 0])
  have kw0 := (((Kept.refl NoF w).alloc (.cells #[.slice U1 d.names.length cu1, .slice U2 d.quotas.length cu2, .slice U3 d.vaults.length cu3, .int .i64 d.quorum, .string (ba d.seed), .int .i64 d.bits, .int .i64 d.height, .int .i64 d.sectors, .int .i64 d.size, .int .i64 d.day, .int .i64 d.leap, .int .i64 d.agree] 63)).alloc (.cells #[.string (ba [118, 97, 117, 108, 116]), .slice (some ⟨ab, ao, none⟩) 4 cA] 39)).alloc (.cells #[.slice none 0 0, .slice none 0 0, .slice none 0 0, .int .i64 0, .string ⟨#[]⟩, .int .i64 0, .int .i64 0, .int .i64 0, .int .i64 0, .int .i64 0, .int .i64 0, .int .i64 0] 63)
  show Calls Tryz.prog 52 #[.agg #[.slice U1 d.names.length cu1, .slice U2 d.quotas.length cu2, .slice U3 d.vaults.length cu3, .int .i64 d.quorum, .string (ba d.seed), .int .i64 d.bits, .int .i64 d.height, .int .i64 d.sectors, .int .i64 d.size, .int .i64 d.day, .int .i64 d.leap, .int .i64 d.agree], .agg #[.string (ba [118, 97, 117, 108, 116]), .slice (some ⟨ab, ao, none⟩) 4 cA]] w _
  go_enter Tryz.func52, Tryz.ntmps52
  go_upto_region 1 with fail
  generalize ((w.alloc (.cells #[.slice U1 d.names.length cu1, .slice U2 d.quotas.length cu2, .slice U3 d.vaults.length cu3, .int .i64 d.quorum, .string (ba d.seed), .int .i64 d.bits, .int .i64 d.height, .int .i64 d.sectors, .int .i64 d.size, .int .i64 d.day, .int .i64 d.leap, .int .i64 d.agree] 63)).alloc (.cells #[.string (ba [118, 97, 117, 108, 116]), .slice (some ⟨ab, ao, none⟩) 4 cA] 39)).alloc (.cells #[.slice none 0 0, .slice none 0 0, .slice none 0 0, .int .i64 0, .string ⟨#[]⟩, .int .i64 0, .int .i64 0, .int .i64 0, .int .i64 0, .int .i64 0, .int .i64 0, .int .i64 0] 63) = w0 at bp bs bq kw0 ⊢
  have hBp := hBw
  generalize hqb : w.heap.size + 1 + 1 = qb at bq ⊢
  generalize hsb : w.heap.size + 1 = sb at bs ⊢
  generalize hpb : w.heap.size = pb at bp hBp ⊢
  have hpw : w.heap.size ≤ pb ∧ pb < sb ∧ sb < qb := by omega
  clear hpb hsb hqb
  obtain ⟨hpw, hps, hsq⟩ := hpw
  have e2 := (bp.cell 2).trans (show _ = some (.slice U3 d.vaults.length cu3) from rfl)
  have s0 := (bs.cell 0).trans (show _ = some (.string (ba [118, 97, 117, 108, 116])) from rfl)
  have s1 := (bs.cell 1).trans (show _ = some (.slice (some ⟨ab, ao, none⟩) 4 cA) from rfl)
  have q_device : ((ba [118, 97, 117, 108, 116]).toList == [100, 101, 118, 105, 99, 101]) = false := by rw [cmp_ba]; decide
  have q_vault : ((ba [118, 97, 117, 108, 116]).toList == [118, 97, 117, 108, 116]) = true := by rw [cmp_ba]; decide
  have cx0 : w0.cell? ⟨ab, ao, none⟩ = some (.string (ba a0)) := kw0.cell (hA.cell_ (k := 0) (by simp)) (fun h => h)
  have hnm := numbers_any (ba a0) w0 (by rw [ba_size]; have := hs a0 (by simp); omega)
  rw [ba_toList, nums_of (by rw [← numsB_numsOf]; exact hn0)] at hnm
  have CNW := Lib.hid hnm
  clear hA hs hn0 hnm
  go_upto_region 6 with fail
  obtain ⟨j0, hj0, hj1, hj2, hj3⟩ := info_parts info119
  have awq := hr.away (p := qb) (by omega)
  have awp := hr.away (p := pb) (by omega)
  go_wp2_with fail
  refine CNW.out.mono ?_
  clear CNW
  rintro e w5 ⟨⟨A2, c2, rfl, hA2, hA3⟩, b05⟩
  simp only [Option.getD_some, Option.isSome_some, List.length_map] at hA2 ⊢
  have k05 : Kept NoF w0 w5 := Kept.of_below b05
  have hqw := bq.lt
  have HA3 := Lib.hid (fun ad (e : A2 = some ad) => Nat.lt_of_lt_of_le hqw (hA3 ad e))
  have bp5 := k05.blk bp (fun h => h)
  have bs5 := k05.blk bs (fun h => h)
  have bq5 := k05.blk bq (fun h => h)
  have kw5 := kw0.trans k05 (fun _ h => .inl h)
  have hHe := (⟨(bp5.cell 2).trans rfl, (bs5.cell 0).trans rfl, (bs5.cell 1).trans rfl⟩ : (fun (w' : World) => w'.cell? ⟨pb, 2, none⟩ = some (.slice U3 d.vaults.length cu3) ∧ w'.cell? ⟨sb, 0, none⟩ = some (.string (ba [118, 97, 117, 108, 116])) ∧ w'.cell? ⟨sb, 1, none⟩ = some (.slice (some ⟨ab, ao, none⟩) 4 cA)) w5)
  clear hA3 b05 k05 bp bs bq kw0 e2 s0 s1 cx0
  go_upto_region 7 with fail
  have kd := (Kept.refl NoF w5).drew
  have bp0 := kd.blk bp5 (fun h => h)
  have bs0 := kd.blk bs5 (fun h => h)
  have bq0 := kd.blk bq5 (fun h => h)
  have kww0 := kw5.trans kd (fun _ h => .inl h)
  have hA20 := kd.src hA2 (fun _ _ _ h => h)
  refine wp_region_noPanic ?_
  refine wp_region_until (by kernel_rfl) 18 (fun (w' : World) => w'.cell? ⟨pb, 2, none⟩ = some (.slice U3 d.vaults.length cu3) ∧ w'.cell? ⟨sb, 0, none⟩ = some (.string (ba [118, 97, 117, 108, 116])) ∧ w'.cell? ⟨sb, 1, none⟩ = some (.slice (some ⟨ab, ao, none⟩) 4 cA)) ⟨(bp0.cell 2).trans rfl, (bs0.cell 0).trans rfl, (bs0.cell 1).trans rfl⟩ (fun hHeld => ?_)
  generalize w5.drew = W0 at hHeld bp0 bs0 bq0 kww0 hA20 ⊢
  refine wpAnyU_take (i := 0) (v := ?_) rfl (by kernel_rfl) (by kernel_rfl) (by kernel_rfl) (by kernel_rfl) (by kernel_rfl) (fun _ _ _ h => h) (Or.inl ⟨by rfl, ?_⟩) hHeld ?_
  rotate_left
  · (intro w hSw; (try dsimp only at hSw); go_simp; try (with_reducible rfl))
  simp only [Act.put, List.getElem_toArray, List.getElem_cons_zero, List.setIfInBounds_toArray, List.set_cons_zero, List.set_cons_succ]
  refine wpAnyU_take (i := 1) (v := ?_) rfl (by kernel_rfl) (by kernel_rfl) (by kernel_rfl) (by kernel_rfl) (by kernel_rfl) (fun _ _ _ h => h) (Or.inl ⟨by rfl, ?_⟩) hHeld ?_
  rotate_left
  · (intro w hSw; (try dsimp only at hSw); go_simp; try (with_reducible rfl))
  simp only [Act.put, List.getElem_toArray, List.getElem_cons_zero, List.getElem_cons_succ, List.setIfInBounds_toArray, List.set_cons_zero, List.set_cons_succ]
  refine wpAnyU_take (i := 2) (v := ?_) rfl (by kernel_rfl) (by kernel_rfl) (by kernel_rfl) (by kernel_rfl) (by kernel_rfl) (fun _ _ _ h => h) (Or.inl ⟨by rfl, ?_⟩) hHeld ?_
  rotate_left
  · (intro w hSw; (try dsimp only at hSw); go_simp; try (with_reducible rfl))
  simp only [Act.put, List.getElem_toArray, List.getElem_cons_zero, List.getElem_cons_succ, List.setIfInBounds_toArray, List.set_cons_zero, List.set_cons_succ]
  refine wpAnyU_take (i := 3) (v := ?_) rfl (by kernel_rfl) (by kernel_rfl) (by kernel_rfl) (by kernel_rfl) (by kernel_rfl) (fun _ _ _ h => h) (Or.inl ⟨by rfl, ?_⟩) hHeld ?_
  rotate_left
  · (intro w hSw; (try dsimp only at hSw); go_simp; try (with_reducible rfl))
  simp only [Act.put, List.getElem_toArray, List.getElem_cons_zero, List.getElem_cons_succ, List.setIfInBounds_toArray, List.set_cons_zero, List.set_cons_succ]
  refine wpAnyU_take (i := 4) (v := ?_) rfl (by kernel_rfl) (by kernel_rfl) (by kernel_rfl) (by kernel_rfl) (by kernel_rfl) (fun _ _ _ h => h) (Or.inl ⟨by rfl, ?_⟩) hHeld ?_
  rotate_left
  · (intro w hSw; (try dsimp only at hSw); go_simp; try (with_reducible rfl))
  simp only [Act.put, List.getElem_toArray, List.getElem_cons_zero, List.getElem_cons_succ, List.setIfInBounds_toArray, List.set_cons_zero, List.set_cons_succ]
  refine wpAnyU_take (i := 5) (v := ?_) rfl (by kernel_rfl) (by kernel_rfl) (by kernel_rfl) (by kernel_rfl) (by kernel_rfl) (fun _ _ _ h => h) (Or.inl ⟨by rfl, ?_⟩) hHeld ?_
  rotate_left
  · (intro w hSw; (try dsimp only at hSw); go_simp; try (with_reducible rfl))
  simp only [Act.put, List.getElem_toArray, List.getElem_cons_zero, List.getElem_cons_succ, List.setIfInBounds_toArray, List.set_cons_zero, List.set_cons_succ]
  refine wpAnyU_take (i := 6) (v := ?_) rfl (by kernel_rfl) (by kernel_rfl) (by kernel_rfl) (by kernel_rfl) (by kernel_rfl) (fun _ _ _ h => h) (Or.inl ⟨by rfl, ?_⟩) hHeld ?_
  rotate_left
  · (intro w hSw; (try dsimp only at hSw); go_simp; try (with_reducible rfl))
  simp only [Act.put, List.getElem_toArray, List.getElem_cons_zero, List.getElem_cons_succ, List.setIfInBounds_toArray, List.set_cons_zero, List.set_cons_succ]
  refine wpAnyU_take (i := 8) (v := ?_) rfl (by kernel_rfl) (by kernel_rfl) (by kernel_rfl) (by kernel_rfl) (by kernel_rfl) (fun _ _ _ h => h) (Or.inl ⟨by rfl, ?_⟩) hHeld ?_
  rotate_left
  · (intro w hSw; (try dsimp only at hSw); go_simp; try (with_reducible rfl))
  simp only [Act.put, List.getElem_toArray, List.getElem_cons_zero, List.getElem_cons_succ, List.setIfInBounds_toArray, List.set_cons_zero, List.set_cons_succ]
  refine wpAnyU_take (i := 10) (v := ?_) rfl (by kernel_rfl) (by kernel_rfl) (by kernel_rfl) (by kernel_rfl) (by kernel_rfl) (fun _ _ _ h => h) (Or.inl ⟨by rfl, ?_⟩) hHeld ?_
  rotate_left
  · (intro w hSw; (try dsimp only at hSw); go_simp; try (with_reducible rfl))
  simp only [Act.put, List.getElem_toArray, List.getElem_cons_zero, List.getElem_cons_succ, List.setIfInBounds_toArray, List.set_cons_zero, List.set_cons_succ]
  refine wpAnyU_take (i := 12) (v := ?_) rfl (by kernel_rfl) (by kernel_rfl) (by kernel_rfl) (by kernel_rfl) (by kernel_rfl) (fun _ _ _ h => h) (Or.inl ⟨by rfl, ?_⟩) hHeld ?_
  rotate_left
  · (intro w hSw; (try dsimp only at hSw); go_simp; try (with_reducible rfl))
  simp only [Act.put, List.getElem_toArray, List.getElem_cons_zero, List.getElem_cons_succ, List.setIfInBounds_toArray, List.set_cons_zero, List.set_cons_succ]
  refine wpAnyU_take (i := 13) (v := ?_) rfl (by kernel_rfl) (by kernel_rfl) (by kernel_rfl) (by kernel_rfl) (by kernel_rfl) (fun _ _ _ h => h) (Or.inl ⟨by rfl, ?_⟩) hHeld ?_
  rotate_left
  · (intro w hSw; (try dsimp only at hSw); go_simp; try (with_reducible rfl))
  simp only [Act.put, List.getElem_toArray, List.getElem_cons_zero, List.getElem_cons_succ, List.setIfInBounds_toArray, List.set_cons_zero, List.set_cons_succ]
  refine wpAnyU_alone (i := 7) (by kernel_rfl) rfl (fun K hK => ?_)
  go_simp
  refine (CN1.out _ kww0.below_mono).mono ?_
  rintro e W1 ⟨rfl, kc⟩
  have bp1 := kc.blk bp0 (fun h => h)
  have bs1 := kc.blk bs0 (fun h => h)
  have bq1 := kc.blk bq0 (fun h => h)
  have kww1 := kww0.trans kc (fun _ h => .inl h)
  have hA21 := kc.src hA20 (fun _ _ _ h => h)
  have hHeld := (⟨(bp1.cell 2).trans rfl, (bs1.cell 0).trans rfl, (bs1.cell 1).trans rfl⟩ : (fun (w' : World) => w'.cell? ⟨pb, 2, none⟩ = some (.slice U3 d.vaults.length cu3) ∧ w'.cell? ⟨sb, 0, none⟩ = some (.string (ba [118, 97, 117, 108, 116])) ∧ w'.cell? ⟨sb, 1, none⟩ = some (.slice (some ⟨ab, ao, none⟩) 4 cA)) W1)
  clear kc
  go_wp2_with fail
  refine hK.out _ _ (fun _ => hHeld) ?_
  clear hK K
  try simp only [Act.put, List.getElem_toArray, List.getElem_cons_zero, List.getElem_cons_succ, List.setIfInBounds_toArray, List.set_cons_zero, List.set_cons_succ]
  refine wpAnyU_alone (i := 9) (by kernel_rfl) rfl (fun K hK => ?_)
  go_simp
  refine (CN2.out _ kww1.below_mono).mono ?_
  rintro e W2 ⟨rfl, kc⟩
  have bp2 := kc.blk bp1 (fun h => h)
  have bs2 := kc.blk bs1 (fun h => h)
  have bq2 := kc.blk bq1 (fun h => h)
  have kww2 := kww1.trans kc (fun _ h => .inl h)
  have hA22 := kc.src hA21 (fun _ _ _ h => h)
  have hHeld := (⟨(bp2.cell 2).trans rfl, (bs2.cell 0).trans rfl, (bs2.cell 1).trans rfl⟩ : (fun (w' : World) => w'.cell? ⟨pb, 2, none⟩ = some (.slice U3 d.vaults.length cu3) ∧ w'.cell? ⟨sb, 0, none⟩ = some (.string (ba [118, 97, 117, 108, 116])) ∧ w'.cell? ⟨sb, 1, none⟩ = some (.slice (some ⟨ab, ao, none⟩) 4 cA)) W2)
  clear kc
  go_wp2_with fail
  refine hK.out _ _ (fun _ => hHeld) ?_
  clear hK K
  try simp only [Act.put, List.getElem_toArray, List.getElem_cons_zero, List.getElem_cons_succ, List.setIfInBounds_toArray, List.set_cons_zero, List.set_cons_succ]
  refine wpAnyU_alone (i := 11) (by kernel_rfl) rfl (fun K hK => ?_)
  go_simp
  refine (CN3.out _ kww2.below_mono).mono ?_
  rintro e W3 ⟨rfl, kc⟩
  have bp3 := kc.blk bp2 (fun h => h)
  have bs3 := kc.blk bs2 (fun h => h)
  have bq3 := kc.blk bq2 (fun h => h)
  have kww3 := kww2.trans kc (fun _ h => .inl h)
  have hA23 := kc.src hA22 (fun _ _ _ h => h)
  have hHeld := (⟨(bp3.cell 2).trans rfl, (bs3.cell 0).trans rfl, (bs3.cell 1).trans rfl⟩ : (fun (w' : World) => w'.cell? ⟨pb, 2, none⟩ = some (.slice U3 d.vaults.length cu3) ∧ w'.cell? ⟨sb, 0, none⟩ = some (.string (ba [118, 97, 117, 108, 116])) ∧ w'.cell? ⟨sb, 1, none⟩ = some (.slice (some ⟨ab, ao, none⟩) 4 cA)) W3)
  clear kc
  go_wp2_with fail
  refine hK.out _ _ (fun _ => hHeld) ?_
  clear hK K
  try simp only [Act.put, List.getElem_toArray, List.getElem_cons_zero, List.getElem_cons_succ, List.setIfInBounds_toArray, List.set_cons_zero, List.set_cons_succ]
  refine wpAnyU_take (i := 14) (v := ?_) rfl (by kernel_rfl) (by kernel_rfl) (by kernel_rfl) (by kernel_rfl) (by kernel_rfl) (fun _ _ _ h => h) (Or.inl ⟨by rfl, ?_⟩) hHeld ?_
  rotate_left
  · (intro w hSw; (try dsimp only at hSw); go_simp; try (with_reducible rfl))
  simp only [Act.put, List.getElem_toArray, List.getElem_cons_zero, List.getElem_cons_succ, List.setIfInBounds_toArray, List.set_cons_zero, List.set_cons_succ]
  refine wpAnyU_alone (i := 15) (by kernel_rfl) rfl (fun K hK => ?_)
  go_simp
  have bz := Blk.new W3 119 #[.int .i64 (d.vaults.length : Int), .slice A2 (parts 44 a0).length c2, .int .i64 (nv a1), .int .i64 (nv a2), .int .i64 (nv a3), .string ⟨#[]⟩, .int .i64 64, .int .i64 1024, .int .i64 16, .int .i64 6, .int .u64 0, .int .i64 7, .int .i64 4, .int .i64 12, .int .i64 10]
  have kz := (Kept.refl NoF W3).alloc (.cells #[.int .i64 (d.vaults.length : Int), .slice A2 (parts 44 a0).length c2, .int .i64 (nv a1), .int .i64 (nv a2), .int .i64 (nv a3), .string ⟨#[]⟩, .int .i64 64, .int .i64 1024, .int .i64 16, .int .i64 6, .int .u64 0, .int .i64 7, .int .i64 4, .int .i64 12, .int .i64 10] 119)
  generalize W3.alloc (.cells #[.int .i64 (d.vaults.length : Int), .slice A2 (parts 44 a0).length c2, .int .i64 (nv a1), .int .i64 (nv a2), .int .i64 (nv a3), .string ⟨#[]⟩, .int .i64 64, .int .i64 1024, .int .i64 16, .int .i64 6, .int .u64 0, .int .i64 7, .int .i64 4, .int .i64 12, .int .i64 10] 119) = W4 at bz kz ⊢
  have bp4 := kz.blk bp3 (fun h => h)
  have bs4 := kz.blk bs3 (fun h => h)
  have bq4 := kz.blk bq3 (fun h => h)
  have kww4 := kww3.trans kz (fun _ h => .inl h)
  have hA24 := kz.src hA23 (fun _ _ _ h => h)
  have hr4 := hr.same kww4
  have hB4 := Nat.le_trans hBw kww4.size
  generalize W3.heap.size = zb at bz ⊢
  refine hK.out _ _ (fun _ => (⟨(bp4.cell 2).trans rfl, (bs4.cell 0).trans rfl, (bs4.cell 1).trans rfl⟩ : (fun (w' : World) => w'.cell? ⟨pb, 2, none⟩ = some (.slice U3 d.vaults.length cu3) ∧ w'.cell? ⟨sb, 0, none⟩ = some (.string (ba [118, 97, 117, 108, 116])) ∧ w'.cell? ⟨sb, 1, none⟩ = some (.slice (some ⟨ab, ao, none⟩) 4 cA)) W4)) ?_
  clear hK K
  try simp only [Act.put, List.getElem_toArray, List.getElem_cons_zero, List.getElem_cons_succ, List.setIfInBounds_toArray, List.set_cons_zero, List.set_cons_succ]
  refine wpAnyU_alone (i := 16) (by kernel_rfl) rfl (fun K hK => ?_)
  refine step_append_any _ rfl _ _ 56 rfl B 119 j0 _ 15 144 Tryz.underlying56 hj0 hj1 hj2 hj3 rfl (by omega) _ d.vaults.length (vcells vl) rfl hr4.n3 W4.heap.size (some ⟨zb, 0, none⟩) 1 1 (#[.int .i64 (d.vaults.length : Int), .slice A2 (parts 44 a0).length c2, .int .i64 (nv a1), .int .i64 (nv a2), .int .i64 (nv a3), .string ⟨#[]⟩, .int .i64 64, .int .i64 1024, .int .i64 16, .int .i64 6, .int .u64 0, .int .i64 7, .int .i64 4, .int .i64 12, .int .i64 10] : Array Value).toList rfl ?_ ?_ ?_ ?_ hB4 ?_
  · refine ⟨by simp, fun _ => ⟨_, rfl, bz.lt, fun j u hu => ?_⟩⟩
    rw [Addr.add_lit, bz.cell, Nat.zero_add, ← Array.getElem?_toList]
    exact hu
  · exact vone _ _ _ _ _ _ _
  · unfold maxLen; omega
  · omega
  intro v' W5 own5 grw at5
  have hof : ∀ ad : Addr, A2 = some ad → w.heap.size ≤ ad.block := fun ad e => by have := HA3.out ad e; omega
  have hwat : WAt W4 B (.slice U1 d.names.length cu1) (.slice U2 d.quotas.length cu2) (.slice U3 d.vaults.length cu3) ((⟨(d.vaults.length : Int), (parts 44 a0).map nv, nv a1, nv a2, nv a3, 64, 1024, 16, 6, 7, 4, 12, 10⟩ : VaultD), A2, c2) := by
    refine ⟨?_, fun ad e hp => ?_⟩
    · simp only [List.length_map]
      exact hA24
    · have h1 := hof ad e
      exact ⟨by omega, fun e => by have := (hr.n1.lt _ e).2; omega, fun e => by have := (hr.n2.lt _ e).2; omega, fun e => by have := (hr.n3.lt _ e).2; omega⟩
  have hr5 := hr4.vault (v := (⟨(d.vaults.length : Int), (parts 44 a0).map nv, nv a1, nv a2, nv a3, 64, 1024, 16, 6, 7, 4, 12, 10⟩ : VaultD)) (A := A2) (c := c2) (by simp only [vcell, List.length_map]; exact own5) grw at5 hwat
  have k45 := Kept.of_grown grw
  have bp5 := k45.blk bp4 (fun e => own_not bp4 hr4.n3 (by decide) e)
  have bs5 := k45.blk bs4 (fun e => own_not bs4 hr4.n3 (by decide) e)
  have bq5 := k45.blk bq4 (fun e => own_not bq4 hr4.n3 (by decide) e)
  have kb5 : Kept (fun b => B ≤ b) w W5 := kww4.below_mono.trans (k45.mono (G := fun b => B ≤ b) (fun b e => (hr4.n3.lt b e).1)) (fun x h => .inl h)
  obtain ⟨g5, cap5, rfl⟩ := ownsRow_succ own5
  have hHeld := (⟨(bp5.cell 2).trans rfl, (bs5.cell 0).trans rfl, (bs5.cell 1).trans rfl⟩ : (fun (w' : World) => w'.cell? ⟨pb, 2, none⟩ = some (.slice U3 d.vaults.length cu3) ∧ w'.cell? ⟨sb, 0, none⟩ = some (.string (ba [118, 97, 117, 108, 116])) ∧ w'.cell? ⟨sb, 1, none⟩ = some (.slice (some ⟨ab, ao, none⟩) 4 cA)) W5)
  have fz : ∀ i, W5.frozen? ⟨pb, i, none⟩ = false := fun i => bp5.frozen i
  have cc2 := (bp5.cell 2).trans (show _ = some (.slice U3 d.vaults.length cu3) from rfl)
  refine hK.out _ _ (fun _ => hHeld) ?_
  clear hK K
  try simp only [Act.put, List.getElem_toArray, List.getElem_cons_zero, List.getElem_cons_succ, List.setIfInBounds_toArray, List.set_cons_zero, List.set_cons_succ]
  refine wpAnyU_alone (i := 17) (by kernel_rfl) rfl (fun K hK => ?_)
  go_simp
  refine hK.out _ _ (fun _ => hHeld) ?_
  clear hK K
  try simp only [Act.put, List.getElem_toArray, List.getElem_cons_zero, List.getElem_cons_succ, List.setIfInBounds_toArray, List.set_cons_zero, List.set_cons_succ]
  refine wpAnyU_alone (i := 18) (by kernel_rfl) rfl (fun K hK => ?_)
  go_simp
  refine hK.out _ _ (fun h => by cases h) ?_
  clear hK K
  try simp only [Act.put, List.getElem_toArray, List.getElem_cons_zero, List.getElem_cons_succ, List.setIfInBounds_toArray, List.set_cons_zero, List.set_cons_succ]
  refine wpAnyU_done (by kernel_rfl) ?_ _
  refine NoPanic.normal ?_
  have bf := bp5.set_ 2 (.slice (some ⟨g5, 0, none⟩) (d.vaults.length + 1) cap5)
  have bqf := bq5.far (p := ⟨pb, 2, none⟩) (by show qb ≠ pb; omega) (.slice (some ⟨g5, 0, none⟩) (d.vaults.length + 1) cap5)
  have kp := (Kept.refl (fun b => b = pb) W5).setCell (p := ⟨pb, 2, none⟩) (.inl rfl) (.slice (some ⟨g5, 0, none⟩) (d.vaults.length + 1) cap5)
  have away : ∀ p, Away vl p → p ≤ qb → Away (vl ++ [((⟨(d.vaults.length : Int), (parts 44 a0).map nv, nv a1, nv a2, nv a3, 64, 1024, 16, 6, 7, 4, 12, 10⟩ : VaultD), A2, c2)]) p := fun p ha hq y hy ad e hp => by
    rcases List.mem_append.1 hy with h1 | h1
    · exact ha y h1 ad e hp
    · rw [List.mem_singleton.1 h1] at e
      have := HA3.out ad e
      omega
  have hrf0 := hr5.boxed kp bp5 (away pb awp (by omega))
  have awq := away qb awq (Nat.le_refl _)
  have hrf : RowsAt (W5.setCell ⟨pb, 2, none⟩ (.slice (some ⟨g5, 0, none⟩) (d.vaults.length + 1) cap5)) B { d with vaults := d.vaults ++ [⟨(d.vaults.length : Int), (parts 44 a0).map nv, nv a1, nv a2, nv a3, 64, 1024, 16, 6, 7, 4, 12, 10⟩] } (.slice U1 d.names.length cu1) (.slice U2 d.quotas.length cu2) (.slice (some ⟨g5, 0, none⟩) (d.vaults.length + 1) cap5) (vl ++ [((⟨(d.vaults.length : Int), (parts 44 a0).map nv, nv a1, nv a2, nv a3, 64, 1024, 16, 6, 7, 4, 12, 10⟩ : VaultD), A2, c2)]) := ⟨hrf0.n0, hrf0.n1, hrf0.n2, by have := hrf0.n3; simp only [List.length_append, List.length_singleton] at this ⊢; exact this, hrf0.n4⟩
  have kf : Kept (fun k => B ≤ k) w (W5.setCell ⟨pb, 2, none⟩ (.slice (some ⟨g5, 0, none⟩) (d.vaults.length + 1) cap5)) := kb5.trans kp (fun x e => .inl (by show B ≤ x; omega))
  clear kp hrf0 hHeld fz cc2 bs5 bs4 bs3 bs2 bs1 bs0 awp hj0 hj1 hj2 hj3 hof hwat away hA20 hA21 hA22 hA23 hA24
  go_upto_region 22 with fail
  generalize (W5.setCell ⟨pb, 2, none⟩ (.slice (some ⟨g5, 0, none⟩) (d.vaults.length + 1) cap5)) = Wf at bf bqf hrf kf ⊢
  have zr : ∀ i, Wf.frozen? ⟨qb, i, none⟩ = false := fun i => bqf.frozen i
  have f0 := (bf.cell 0).trans (show _ = some (.slice U1 d.names.length cu1) from rfl)
  have f1 := (bf.cell 1).trans (show _ = some (.slice U2 d.quotas.length cu2) from rfl)
  have f2 := (bf.cell 2).trans (show _ = some (.slice (some ⟨g5, 0, none⟩) (d.vaults.length + 1) cap5) from rfl)
  have f3 := (bf.cell 3).trans (show _ = some (.int .i64 d.quorum) from rfl)
  have f4 := (bf.cell 4).trans (show _ = some (.string (ba d.seed)) from rfl)
  have f5 := (bf.cell 5).trans (show _ = some (.int .i64 d.bits) from rfl)
  have f6 := (bf.cell 6).trans (show _ = some (.int .i64 d.height) from rfl)
  have f7 := (bf.cell 7).trans (show _ = some (.int .i64 d.sectors) from rfl)
  have f8 := (bf.cell 8).trans (show _ = some (.int .i64 d.size) from rfl)
  have f9 := (bf.cell 9).trans (show _ = some (.int .i64 d.day) from rfl)
  have f10 := (bf.cell 10).trans (show _ = some (.int .i64 d.leap) from rfl)
  have f11 := (bf.cell 11).trans (show _ = some (.int .i64 d.agree) from rfl)
  have r0 := (bqf.cell 0).trans (show _ = some (.slice none 0 0) from rfl)
  have r1 := (bqf.cell 1).trans (show _ = some (.slice none 0 0) from rfl)
  have r2 := (bqf.cell 2).trans (show _ = some (.slice none 0 0) from rfl)
  have r3 := (bqf.cell 3).trans (show _ = some (.int .i64 0) from rfl)
  have r4 := (bqf.cell 4).trans (show _ = some (.string ⟨#[]⟩) from rfl)
  have r5 := (bqf.cell 5).trans (show _ = some (.int .i64 0) from rfl)
  have r6 := (bqf.cell 6).trans (show _ = some (.int .i64 0) from rfl)
  have r7 := (bqf.cell 7).trans (show _ = some (.int .i64 0) from rfl)
  have r8 := (bqf.cell 8).trans (show _ = some (.int .i64 0) from rfl)
  have r9 := (bqf.cell 9).trans (show _ = some (.int .i64 0) from rfl)
  have r10 := (bqf.cell 10).trans (show _ = some (.int .i64 0) from rfl)
  have r11 := (bqf.cell 11).trans (show _ = some (.int .i64 0) from rfl)
  have HBQ := Lib.hid (show Blk Wf qb 63 (setZ.cells (.slice none 0 0) (.slice none 0 0) (.slice none 0 0)) from bqf)
  have HRF := Lib.hid hrf
  have HKF := Lib.hid kf
  have HAW := Lib.hid awq
  clear bf bqf hrf kf awq
  go_wp2_with fail
  have hbz := rblk_puts HBQ.out (rsetList { d with vaults := d.vaults ++ [⟨(d.vaults.length : Int), (parts 44 a0).map nv, nv a1, nv a2, nv a3, 64, 1024, 16, 6, 7, 4, 12, 10⟩] } (.slice U1 d.names.length cu1) (.slice U2 d.quotas.length cu2) (.slice (some ⟨g5, 0, none⟩) (d.vaults.length + 1) cap5))
  have kz := rkept_puts0 (Kept.refl (fun b => b = qb) Wf) qb rfl (rsetList { d with vaults := d.vaults ++ [⟨(d.vaults.length : Int), (parts 44 a0).map nv, nv a1, nv a2, nv a3, 64, 1024, 16, 6, 7, 4, 12, 10⟩] } (.slice U1 d.names.length cu1) (.slice U2 d.quotas.length cu2) (.slice (some ⟨g5, 0, none⟩) (d.vaults.length + 1) cap5))
  have hz := RowsAt.boxed HRF.out kz HBQ.out HAW.out
  rw [rsetList_cells] at hbz
  simp only [rsetList, List.foldl_cons, List.foldl_nil] at hbz kz hz
  refine bodyPost_ret (results_decl (cs := SetD.cells { d with vaults := d.vaults ++ [⟨(d.vaults.length : Int), (parts 44 a0).map nv, nv a1, nv a2, nv a3, 64, 1024, 16, 6, 7, 4, 12, 10⟩] } (.slice U1 d.names.length cu1) (.slice U2 d.quotas.length cu2) (.slice (some ⟨g5, 0, none⟩) (d.vaults.length + 1) cap5)) rfl rfl hbz) rfl ?_
  rw [HDC.out]
  exact ⟨(.slice U1 d.names.length cu1), (.slice U2 d.quotas.length cu2), (.slice (some ⟨g5, 0, none⟩) (d.vaults.length + 1) cap5), (vl ++ [((⟨(d.vaults.length : Int), (parts 44 a0).map nv, nv a1, nv a2, nv a3, 64, 1024, 16, 6, 7, 4, 12, 10⟩ : VaultD), A2, c2)]), rfl, ⟨hz.n0, hz.n1, hz.n2, hz.n3, hz.n4⟩, HKF.out.trans kz (fun x e => .inl (by show B ≤ x; omega))⟩

end Go.Proofs.YtfnfjfcncijapaaGreatDoor

namespace Go.Proofs.YtfnfjfcncijapaaGreatDoor
open Go.RowKit Go.Shelf
attribute [local go_sem] Oper.semAt_some

theorem svCells_pre {sv : List (StepD × Option Addr × Nat)} {j i : Nat} {u : Value} (h : (svCells (sv.take j))[i]? = some u) : (svCells sv)[i]? = some u := by
  have e : svCells sv = svCells (sv.take j) ++ svCells (sv.drop j) := by
    unfold svCells
    rw [← List.flatMap_append, List.take_append_drop]
  rw [e, List.getElem?_append_left (List.getElem?_eq_some_iff.1 h).1]
  exact h
theorem StepsAt.pre_ {w : World} {A : Option Addr} {l : List StepD} (h : StepsAt w A l) {j : Nat} (hj : j ≤ l.length) : StepsAt w A (l.take j) := by
  obtain ⟨sv, rfl, hr, hs⟩ := h
  refine ⟨sv.take j, by rw [List.map_take], ⟨by rw [svCells_length, List.length_take, List.length_take, List.length_map], fun hp => ?_⟩, fun x hx => hs x (List.mem_of_mem_take hx)⟩
  obtain ⟨ad, e, hb, hc⟩ := hr.2 (by rw [List.length_take] at hp; omega)
  exact ⟨ad, e, hb, fun i u hu => hc i u (svCells_pre hu)⟩
theorem results_one63 {fn : Func} {p : Tmp} {tmps : Array Value} {W : World} {n : Nat} {cs : Array Value} (hf : fn.results = #[.cell p 63]) (hz : cs.size = 12) (h2 : tmps.getD p undef = .pointer (some ⟨n, 0, none⟩)) (hb : Blk W n 63 cs) :
    (results fn tmps).run Tryz.prog W = .ok (.agg cs) W := by
  have hl := run_loadVar_row (P := Tryz.prog) W n 63 63 cs (0, 0) _ hb Tryz.underlying63 rfl (by rw [hz]; kernel_rfl)
  simp only [Array.getD_eq_getD_getElem?] at h2
  simp only [results, hf]
  simp [h2, asAddr, hl]
theorem made32 : madeCells (Value.cells (.int .u8 0)) 32 = (bvs (List.replicate 32 0)).toArray := by kernel_rfl
set_option maxHeartbeats 2000000 in
set_option maxRecDepth 100000 in
theorem begin_any (w : World) : Calls Tryz.prog 51 #[] w fun e w' => e = .returned (.agg (set0.cells (.slice none 0 0) (.slice none 0 0) (.slice none 0 0))) ∧ Below w.heap.size w w' := by
  have HBR := Lib.hid (Blk.new w 63 #[.slice none 0 0, .slice none 0 0, .slice none 0 0, .int .i64 0, .string ⟨#[]⟩, .int .i64 0, .int .i64 0, .int .i64 0, .int .i64 0, .int .i64 0, .int .i64 0, .int .i64 0])
  have HBW := Lib.hid ((Below.refl w.heap.size w).alloc (Nat.le_refl _) (.cells #[.slice none 0 0, .slice none 0 0, .slice none 0 0, .int .i64 0, .string ⟨#[]⟩, .int .i64 0, .int .i64 0, .int .i64 0, .int .i64 0, .int .i64 0, .int .i64 0, .int .i64 0] 63))
  go_enter Tryz.func51, Tryz.ntmps51
  go_upto_region 1 with fail
  generalize w.alloc (.cells #[.slice none 0 0, .slice none 0 0, .slice none 0 0, .int .i64 0, .string ⟨#[]⟩, .int .i64 0, .int .i64 0, .int .i64 0, .int .i64 0, .int .i64 0, .int .i64 0, .int .i64 0] 63) = w0 at HBR HBW ⊢
  generalize hrb0 : w.heap.size = rb at HBR ⊢
  have hrb : w.heap.size ≤ rb := by omega
  clear hrb0
  obtain ⟨z, hz⟩ : ∃ z : List UInt8, z = List.replicate 32 0 := ⟨_, rfl⟩
  have hzl : z.length = 32 := by rw [hz]; simp
  have hmk : (Instr.makeSlice 43 (.int .i64 32) (.int .i64 32)).run Tryz.prog w0 = .ok (.slice (some ⟨w0.heap.size, 0, none⟩) 32 32) (w0.alloc (.cells (bvs z).toArray 5)) := by
    obtain ⟨i, hi, h1, h2, h3⟩ := info_parts info5
    have := run_makeSlice (P := Tryz.prog) (w := w0) 43 5 i _ Tryz.underlying43 hi h1 .i64 .i64 32 32 (by omega) (by omega) (by rw [h2]; decide) (by rw [h3]; omega) (by omega)
    rw [h2] at this
    rw [this, hz, ← made32]
    rfl
  have hcv : (convert 43 9 (.slice (some ⟨w0.heap.size, 0, none⟩) 32 32)).run Tryz.prog (w0.alloc (.cells (bvs z).toArray 5)) = .ok (.string (ba z)) (w0.alloc (.cells (bvs z).toArray 5)) :=
    conv_reads (B := w0.heap.size + 1) ⟨by rw [bvs_length, hzl], fun _ => ⟨_, rfl, by simp, fun j u hu => by
      rw [Addr.add_lit, (Blk.new w0 5 (bvs z).toArray).cell, Nat.zero_add, ← Array.getElem?_toList]
      exact hu⟩⟩
  have HBQ := Lib.hid (show Blk _ rb 63 (setZ.cells (.slice none 0 0) (.slice none 0 0) (.slice none 0 0)) from HBR.out.alloc (.cells (bvs z).toArray 5))
  have HBW2 := Lib.hid (HBW.out.alloc HBW.out.size (.cells (bvs z).toArray 5))
  have HZ := Lib.hid hz
  have zr : ∀ i, (w0.alloc (.cells (bvs z).toArray 5)).frozen? ⟨rb, i, none⟩ = false := fun i => HBQ.out.frozen i
  have r0 := (HBQ.out.cell 0).trans (show _ = some (.slice none 0 0) from rfl)
  have r1 := (HBQ.out.cell 1).trans (show _ = some (.slice none 0 0) from rfl)
  have r2 := (HBQ.out.cell 2).trans (show _ = some (.slice none 0 0) from rfl)
  have r3 := (HBQ.out.cell 3).trans (show _ = some (.int .i64 0) from rfl)
  have r4 := (HBQ.out.cell 4).trans (show _ = some (.string ⟨#[]⟩) from rfl)
  have r5 := (HBQ.out.cell 5).trans (show _ = some (.int .i64 0) from rfl)
  have r6 := (HBQ.out.cell 6).trans (show _ = some (.int .i64 0) from rfl)
  have r7 := (HBQ.out.cell 7).trans (show _ = some (.int .i64 0) from rfl)
  have r8 := (HBQ.out.cell 8).trans (show _ = some (.int .i64 0) from rfl)
  have r9 := (HBQ.out.cell 9).trans (show _ = some (.int .i64 0) from rfl)
  have r10 := (HBQ.out.cell 10).trans (show _ = some (.int .i64 0) from rfl)
  have r11 := (HBQ.out.cell 11).trans (show _ = some (.int .i64 0) from rfl)
  clear hz hzl HBR HBW
  go_wp2_with fail
  have hbz := rblk_puts HBQ.out (rsetList ⟨[], [], [], 1, z, 2, 4, 8192, 1024, 0, 30, 1⟩ (.slice none 0 0) (.slice none 0 0) (.slice none 0 0))
  rw [rsetList_cells] at hbz
  have hbl := below_puts HBW2.out (n := rb) hrb (rsetList ⟨[], [], [], 1, z, 2, 4, 8192, 1024, 0, 30, 1⟩ (.slice none 0 0) (.slice none 0 0) (.slice none 0 0))
  simp only [rsetList, List.foldl_cons, List.foldl_nil] at hbz hbl
  refine bodyPost_ret (results_one63 (cs := SetD.cells ⟨[], [], [], 1, z, 2, 4, 8192, 1024, 0, 30, 1⟩ (.slice none 0 0) (.slice none 0 0) (.slice none 0 0)) Tryz.results51 rfl rfl hbz) rfl ?_
  exact ⟨by rw [HZ.out]; rfl, hbl⟩

theorem declare_any {w : World} {B : Nat} {d : SetD} {nm qs vs : Value} {vl : List (VaultD × Option Addr × Nat)} (hr : RowsAt w B d nm qs vs vl) (hBw : B ≤ w.heap.size) (X : Option Addr) (cx : Nat) {cmd : List UInt8} {args : List (List UInt8)} (hX : StrsAt w X args) (hd : isDecl cmd = true) (hk : kindS cmd args ≠ 0)
    (hXB : ∀ ad, X = some ad → 0 < args.length → ad.block < B) (hs : ∀ a ∈ args, a.length ≤ 65536) (hne : needsV cmd = true → d.vaults.isEmpty = false) (hN : d.names.length ≤ 100000) (hQ : d.quotas.length ≤ 100000) (hV : d.vaults.length ≤ 100000) :
    Calls Tryz.prog 52 #[.agg (d.cells nm qs vs), .agg #[.string (ba cmd), .slice X args.length cx]] w (DeclPost (decl d cmd args) B w) := by
  rcases decl_cases hd with rfl | rfl | rfl | rfl | rfl | rfl | rfl | rfl | rfl
  · obtain ⟨a0, a1, rfl, _c1⟩ := ok_device hk
    obtain ⟨ab, ao, rfl, _, _⟩ := hX.at_ (k := 0) (by simp)
    exact rdecl_device hr hBw ab ao cx a0 a1 hX (hXB _ rfl (by simp)) hs hN hQ
  · obtain ⟨a0, a1, a2, a3, rfl, c0, _c1, _c2, _c3⟩ := ok_vault hk
    obtain ⟨ab, ao, rfl, _, _⟩ := hX.at_ (k := 0) (by simp)
    exact rdecl_vault hr hBw ab ao cx a0 a1 a2 a3 hX (hXB _ rfl (by simp)) hs c0 hV
  · obtain ⟨a0, a1, a2, a3, rfl, _c0, _c1, _c2, _c3⟩ := ok_cutting hk
    obtain ⟨ab, ao, rfl, _, _⟩ := hX.at_ (k := 0) (by simp)
    exact rdecl_cutting hr hBw ab ao cx a0 a1 a2 a3 hX (hXB _ rfl (by simp)) hs (hne (by decide))
  · obtain ⟨a0, a1, a2, a3, rfl, _c0, _c1, _c2, _c3⟩ := ok_rules hk
    obtain ⟨ab, ao, rfl, _, _⟩ := hX.at_ (k := 0) (by simp)
    exact rdecl_rules hr hBw ab ao cx a0 a1 a2 a3 hX (hXB _ rfl (by simp)) hs (hne (by decide))
  · obtain ⟨a0, rfl, _c0⟩ := ok_quorum hk
    obtain ⟨ab, ao, rfl, _, _⟩ := hX.at_ (k := 0) (by simp)
    exact rdecl_quorum hr hBw ab ao cx a0 hX (hXB _ rfl (by simp)) hs
  · obtain ⟨a0, rfl⟩ := ok_seed hk
    obtain ⟨ab, ao, rfl, _, _⟩ := hX.at_ (k := 0) (by simp)
    exact rdecl_seed hr hBw ab ao cx a0 hX (hXB _ rfl (by simp)) hs
  · obtain ⟨a0, a1, rfl, _c0, _c1⟩ := ok_scheme hk
    obtain ⟨ab, ao, rfl, _, _⟩ := hX.at_ (k := 0) (by simp)
    exact rdecl_scheme hr hBw ab ao cx a0 a1 hX (hXB _ rfl (by simp)) hs
  · obtain ⟨a0, a1, rfl, _c0, _c1⟩ := ok_disk hk
    obtain ⟨ab, ao, rfl, _, _⟩ := hX.at_ (k := 0) (by simp)
    exact rdecl_disk hr hBw ab ao cx a0 a1 hX (hXB _ rfl (by simp)) hs
  · obtain ⟨a0, a1, a2, rfl, _c0, _c1, _c2⟩ := ok_days hk
    obtain ⟨ab, ao, rfl, _, _⟩ := hX.at_ (k := 0) (by simp)
    exact rdecl_days hr hBw ab ao cx a0 a1 a2 hX (hXB _ rfl (by simp)) hs


theorem results_rset {tmps : Array Value} {W : World} {n : Nat} {cs : Array Value} (hz : cs.size = 12) (h2 : tmps.getD 2 undef = .pointer (some ⟨n, 0, none⟩)) (hb : Blk W n 63 cs) :
    (results Tryz.f23 tmps).run Tryz.prog W = .ok (.tuple #[.agg cs, tmps.getD 3 undef, tmps.getD 4 undef]) W := by
  have hf : Tryz.f23.results = #[.cell 2 63, .tmp 3, .tmp 4] := Tryz.results23
  have hl := run_loadVar_row (P := Tryz.prog) W n 63 63 cs (0, 0) _ hb Tryz.underlying63 rfl (by rw [hz]; kernel_rfl)
  simp only [Array.getD_eq_getD_getElem?] at h2
  simp only [results, hf]
  simp [h2, asAddr, hl]
def RefRel (w w3 : World) (xb B : Nat) (l : List StepD) (i : Value) (wr : World) : Prop :=
  ∃ (j : Nat) (d : SetD), j ≤ l.length ∧ i = .int .i64 (j : Int) ∧ setRef [] l 0 set0 = setRef (l.take j) (l.drop j) j d ∧ SetAt wr 63 xb B d ∧ (d.names.length ≤ j ∧ d.quotas.length ≤ j ∧ d.vaults.length ≤ j) ∧ ((l.take j).all okDecl = true ∧ (!d.vaults.isEmpty) = (l.take j).any isV) ∧ Kept (fun k => k = xb ∨ B ≤ k) w3 wr ∧ B ≤ wr.heap.size ∧ w.heap.size ≤ xb
theorem order_vault {b : List StepD} {cmd : List UInt8} {d : SetD} (h1 : b.all okDecl = true) (h2 : (!d.vaults.isEmpty) = b.any isV) (hd : isDecl cmd = true) (h0 : orderR b cmd = 0) (hn : needsV cmd = true) : d.vaults.isEmpty = false := by
  unfold orderR at h0
  have hf : (findR cmd).1.2.2 = 1 := by have := isDecl_find cmd; rw [hd] at this; simpa using this
  rw [if_neg (by simp [hf]), h1, if_neg (show ¬ (true = false) by simp), ← h2, hn, Bool.not_not, Bool.and_true] at h0
  cases hv : d.vaults.isEmpty with
  | false => rfl
  | true => rw [hv] at h0; simp at h0
set_option maxHeartbeats 8000000 in
set_option maxRecDepth 100000 in
theorem rsetup_any {A : Option Addr} {l : List StepD} (cb : Nat) (hcb : l.length ≤ cb) (w : World) (ha : StepsAt w A l) (hl : l.length ≤ 10000) (hl8 : ∀ s ∈ l, s.args.length ≤ 1000) (hs : ∀ s ∈ l, ∀ a ∈ s.args, a.length ≤ 65536) :
    Calls Tryz.prog 23 #[.slice A l.length cb] w (SetPost (setRef [] l 0 set0) w) := by
  have HBR := Lib.hid (Blk.new w 63 #[.slice none 0 0, .slice none 0 0, .slice none 0 0, .int .i64 0, .string ⟨#[]⟩, .int .i64 0, .int .i64 0, .int .i64 0, .int .i64 0, .int .i64 0, .int .i64 0, .int .i64 0])
  have HBW := Lib.hid ((Below.refl w.heap.size w).alloc (Nat.le_refl _) (.cells #[.slice none 0 0, .slice none 0 0, .slice none 0 0, .int .i64 0, .string ⟨#[]⟩, .int .i64 0, .int .i64 0, .int .i64 0, .int .i64 0, .int .i64 0, .int .i64 0, .int .i64 0] 63))
  have HA := Lib.hid ha
  have HS := Lib.hid hs
  have H8 := Lib.hid hl8
  clear ha hs hl8
  go_enter Tryz.func23, Tryz.ntmps23
  go_upto_region 1 with fail
  generalize w.alloc (.cells #[.slice none 0 0, .slice none 0 0, .slice none 0 0, .int .i64 0, .string ⟨#[]⟩, .int .i64 0, .int .i64 0, .int .i64 0, .int .i64 0, .int .i64 0, .int .i64 0, .int .i64 0] 63) = w0 at HBR HBW ⊢
  generalize hrb0 : w.heap.size = rb at HBR ⊢
  have hrb : w.heap.size ≤ rb := by omega
  clear hrb0
  go_wp2_with fail
  refine (begin_any _).mono ?_
  rintro e w1 ⟨rfl, b1⟩
  have HBR1 := Lib.hid ((Kept.of_below (F := NoF) b1).blk HBR.out (fun h => h))
  have HBW1 := Lib.hid (HBW.out.trans (b1.mono HBW.out.size))
  have hrx := HBR1.out.lt
  clear HBR HBW b1
  obtain ⟨z, hz⟩ : ∃ z : List UInt8, z = List.replicate 32 0 := ⟨_, rfl⟩
  rw [show set0.cells (.slice none 0 0) (.slice none 0 0) (.slice none 0 0) = #[.slice none 0 0, .slice none 0 0, .slice none 0 0, .int .i64 1, .string (ba z), .int .i64 2, .int .i64 4, .int .i64 8192, .int .i64 1024, .int .i64 0, .int .i64 30, .int .i64 1] by rw [hz]; rfl]
  have HZ := Lib.hid hz
  clear hz
  go_upto_region 2 with fail
  have HBX := Lib.hid (Blk.new w1 63 #[.slice none 0 0, .slice none 0 0, .slice none 0 0, .int .i64 1, .string (ba z), .int .i64 2, .int .i64 4, .int .i64 8192, .int .i64 1024, .int .i64 0, .int .i64 30, .int .i64 1])
  have HBR2 := Lib.hid (HBR1.out.alloc (.cells #[.slice none 0 0, .slice none 0 0, .slice none 0 0, .int .i64 1, .string (ba z), .int .i64 2, .int .i64 4, .int .i64 8192, .int .i64 1024, .int .i64 0, .int .i64 30, .int .i64 1] 63))
  have HBW2 := Lib.hid (HBW1.out.alloc HBW1.out.size (.cells #[.slice none 0 0, .slice none 0 0, .slice none 0 0, .int .i64 1, .string (ba z), .int .i64 2, .int .i64 4, .int .i64 8192, .int .i64 1024, .int .i64 0, .int .i64 30, .int .i64 1] 63))
  clear HBR1 HBW1
  generalize w1.alloc (.cells #[.slice none 0 0, .slice none 0 0, .slice none 0 0, .int .i64 1, .string (ba z), .int .i64 2, .int .i64 4, .int .i64 8192, .int .i64 1024, .int .i64 0, .int .i64 30, .int .i64 1] 63) = w3 at HBX HBR2 HBW2 ⊢
  rw [HZ.out] at HBX
  generalize w1.heap.size = xb at HBX hrx ⊢
  have HBW3 := HBW2
  have HBR3 := HBR2
  clear HBW2 HBR2 HZ
  have hxm := HBX.out.lt
  obtain ⟨B, hB⟩ : ∃ B, B = w3.heap.size := ⟨_, rfl⟩
  have hBl : B ≤ w3.heap.size := by omega
  have hBm : xb < B := by omega
  clear hB
  go_wp2_with fail
  go_loopw [6] (RefRel w w3 xb B l) (fun i _ => l.length - (intOf i).toNat)
  case atStart =>
    exact ⟨0, set0, Nat.zero_le _, rfl, rfl, ⟨by omega, _, _, _, [], HBX.out, RowsAt.nil _ _ rfl rfl rfl⟩, ⟨Nat.le_refl _, Nat.le_refl _, Nat.le_refl _⟩, ⟨rfl, rfl⟩, Kept.refl _ _, hBl, by omega⟩
  case round =>
    clear HBX
    obtain ⟨j, d, hj, rfl, hss, ⟨hxB, nm, qs, vs, vl, bx, hr⟩, ⟨hN, hQ, hV⟩, ⟨hok, hvl⟩, kw, hBw, hwx⟩ := hrel
    have HSS := Lib.hid hss
    have HOKS := Lib.hid hok
    have HVL := Lib.hid hvl
    clear hss hok hvl
    obtain ⟨U1, cu1, rfl, _, _⟩ := own_form hr.n1
    obtain ⟨U2, cu2, rfl, _, _⟩ := own_form hr.n2
    obtain ⟨U3, cu3, rfl, _, _⟩ := own_form hr.n3
    have kNw : Kept NoF w wr := (Kept.of_below HBW3.out).trans kw (fun x h => .inr (by have := HBW3.out.size; omega))
    have bwr : Below w.heap.size w wr := kNw.below (Nat.le_refl _) (fun _ h => h.elim)
    have HBR := Lib.hid (show Blk wr rb 63 (setZ.cells (.slice none 0 0) (.slice none 0 0) (.slice none 0 0)) from kw.blk HBR3.out (by show ¬ (rb = xb ∨ B ≤ rb); omega))
    by_cases hlt : j < l.length
    · have HSA := Lib.hid (HA.out.same kNw)
      obtain ⟨ab, ao, X, cx, rfl, hab, c0, c1, hX⟩ := HSA.out.at_ hlt
      have hab' : ab < w.heap.size := by
        obtain ⟨_, _, _, _, e, h, _⟩ := HA.out.at_ hlt
        injection e with e
        injection e with e1 _
        rw [e1]; exact h
      have hXb : ∀ ad, X = some ad → 0 < l[j].args.length → ad.block < w.heap.size := by
        obtain ⟨_, _, X', cx', e, h, _, c1', hX'⟩ := HA.out.at_ hlt
        injection e with e
        injection e with e1 e2
        subst e1
        subst e2
        have := (kNw.cell c1' (fun h => h)).symm.trans c1
        injection this with this
        injection this with hXX _ _
        subst hXX
        intro ad ea hp
        obtain ⟨ad', ea', hb, _⟩ := hX'.2 hp
        rw [ea] at ea'
        injection ea' with ea'
        subst ea'
        exact hb
      have i1 : (j : Int) < (l.length : Int) := by omega
      have HST := Lib.hid (show setRef (l.take j) (l.drop j) j d = _ from by rw [List.drop_eq_getElem_cons hlt, setRef_cons])
      have HSJ := Lib.hid (HS.out _ (List.getElem_mem hlt))
      have H8J := Lib.hid (H8.out _ (List.getElem_mem hlt))
      have HTK := Lib.hid (List.take_succ_eq_append_getElem hlt)
      have CG := find_any (ba l[j].cmd) wr
      rw [ba_toList] at CG
      have HIF := Lib.hid (isDecl_find l[j].cmd)
      have HOK0 := Lib.hid (show okDecl l[j] = ((findR l[j].cmd).1.2.2 == 1) from rfl)
      generalize hfr : findR l[j].cmd = fr at CG HIF HOK0
      clear hfr
      obtain ⟨⟨f0, f1, f2⟩, fo⟩ := fr
      have HCG := Lib.hid CG
      clear CG
      have hck : (l.take j).length = j := by rw [List.length_take]; omega
      have CO := Lib.hid (fun W (k : Kept NoF wr W) => (show Calls Tryz.prog 18 #[.slice (some ⟨ab, ao, none⟩) j cb, .agg #[.string (ba l[j].cmd), .slice X l[j].args.length cx]] W (fun e w' => e = .returned (.int .i64 (orderR (l.take j) l[j].cmd)) ∧ Below W.heap.size W w') from by
        have := order_any (ba l[j].cmd) X (some ⟨ab, ao, none⟩) l[j].args.length cx cb W ((HSA.out.same k).pre_ hj) (by omega)
        rw [hck, ba_toList] at this
        exact this))
      clear hck
      generalize l[j] = st at HST HSJ H8J HTK HCG HIF HOK0 CO c0 c1 hX hXb
      obtain ⟨cmd, args⟩ := st
      dsimp only at HST HSJ H8J HTK HCG HIF HOK0 CO c0 c1 hX hXb
      have hjc : j ≤ cb := Nat.le_trans hj hcb
      go_wp2_with fail
      refine HCG.out.mono ?_
      clear HCG
      rintro e wf ⟨rfl, bf⟩
      dsimp only
      go_upto_region 6 with fail
      have k4 := (Kept.of_below (F := NoF) bf).alloc (.cells #[.string (ba f0), .string (ba f1), .int .i64 f2] 71)
      have bfl := Blk.new wf 71 #[.string (ba f0), .string (ba f1), .int .i64 f2]
      have bw4 := (bwr.trans (bf.mono bwr.size)).alloc (bwr.trans (bf.mono bwr.size)).size (.cells #[.string (ba f0), .string (ba f1), .int .i64 f2] 71)
      generalize wf.alloc (.cells #[.string (ba f0), .string (ba f1), .int .i64 f2] 71) = w4 at k4 bfl bw4 ⊢
      generalize wf.heap.size = fb at bfl ⊢
      have g2 : w4.cell? ⟨fb, 2, none⟩ = some (.int .i64 f2) := (bfl.cell 2).trans rfl
      have bx4 := k4.blk bx (fun h => h)
      have hr4 := hr.same k4
      have HBR4 := Lib.hid (k4.blk HBR.out (fun h => h))
      have kw4 := kw.trans k4 (fun _ h => h.elim)
      have hX4 := hX.same k4
      have c04 := k4.cell c0 (fun h => h)
      have c14 := k4.cell c1 (fun h => h)
      have hB4 := Nat.le_trans hBw k4.size
      have HK4 := Lib.hid k4
      clear HBR bf bx hr kw hX c0 c1 hBw k4 bfl bwr kNw
      by_cases hf2 : f2 = 1
      · subst hf2
        have HD := Lib.hid (show isDecl cmd = true by have := HIF.out; simpa using this.symm)
        have HOD := Lib.hid (show okDecl ⟨cmd, args⟩ = true by have := HOK0.out; simpa using this)
        clear HIF HOK0
        have CV := rvalid_any (ba cmd) cx w4 hX4 (by have := H8J.out; omega) (fun a ha => HSJ.out a ha)
        rw [ba_toList, kind_valid] at CV
        have HCV := Lib.hid CV
        clear CV
        go_wp2_with fail
        refine HCV.out.mono ?_
        clear HCV
        rintro e wg ⟨rfl, bg⟩
        have kg : Kept NoF w4 wg := Kept.of_below bg
        have bxg := kg.blk bx4 (fun h => h)
        have hrg := hr4.same kg
        have HBRg := Lib.hid (kg.blk HBR4.out (fun h => h))
        have kwg := kw4.trans kg (fun _ h => h.elim)
        have bwg := bw4.trans (bg.mono bw4.size)
        have hXg := hX4.same kg
        have c0g := kg.cell c04 (fun h => h)
        have c1g := kg.cell c14 (fun h => h)
        have hBg := Nat.le_trans hB4 kg.size
        have HKg := Lib.hid (HK4.out.trans kg (fun _ h => .inl h))
        clear bx4 hr4 HBR4 kw4 bw4 hX4 c04 c14 hB4 HK4 bg kg g2
        cases hk : (kindS cmd args != 0)
        · have HSE := Lib.hid (show setRef [] l 0 set0 = (setZ, (j : Int), 1) by rw [HSS.out, HST.out, if_neg (show ¬ okDecl ⟨cmd, args⟩ = false by rw [HOD.out]; simp), if_pos (show validR cmd args = false by rw [kind_valid]; exact hk)])
          clear HSS HST hk hXb
          have hrz := RowsAt.nil wg B (d := setZ) rfl rfl rfl
          have zr : ∀ i, wg.frozen? ⟨rb, i, none⟩ = false := fun i => HBRg.out.frozen i
          have r0 := (HBRg.out.cell 0).trans (show _ = some (.slice none 0 0) from rfl)
          have r1 := (HBRg.out.cell 1).trans (show _ = some (.slice none 0 0) from rfl)
          have r2 := (HBRg.out.cell 2).trans (show _ = some (.slice none 0 0) from rfl)
          have r3 := (HBRg.out.cell 3).trans (show _ = some (.int .i64 0) from rfl)
          have r4 := (HBRg.out.cell 4).trans (show _ = some (.string ⟨#[]⟩) from rfl)
          have r5 := (HBRg.out.cell 5).trans (show _ = some (.int .i64 0) from rfl)
          have r6 := (HBRg.out.cell 6).trans (show _ = some (.int .i64 0) from rfl)
          have r7 := (HBRg.out.cell 7).trans (show _ = some (.int .i64 0) from rfl)
          have r8 := (HBRg.out.cell 8).trans (show _ = some (.int .i64 0) from rfl)
          have r9 := (HBRg.out.cell 9).trans (show _ = some (.int .i64 0) from rfl)
          have r10 := (HBRg.out.cell 10).trans (show _ = some (.int .i64 0) from rfl)
          have r11 := (HBRg.out.cell 11).trans (show _ = some (.int .i64 0) from rfl)
          go_wp2_with fail
          have hbz := rblk_puts HBRg.out (rsetList setZ (.slice none 0 0) (.slice none 0 0) (.slice none 0 0))
          rw [rsetList_cells] at hbz
          have kz := rkept_puts0 (Kept.refl (fun b => b = rb) wg) rb rfl (rsetList setZ (.slice none 0 0) (.slice none 0 0) (.slice none 0 0))
          have hz := RowsAt.kept hrz kz (fun b e => by omega)
          have hbl := below_puts bwg (n := rb) hrb (rsetList setZ (.slice none 0 0) (.slice none 0 0) (.slice none 0 0))
          simp only [rsetList, List.foldl_cons, List.foldl_nil] at hbz kz hz hbl
          refine bodyPost_ret (results_rset (cs := SetD.cells setZ (.slice none 0 0) (.slice none 0 0) (.slice none 0 0)) rfl rfl hbz) rfl ?_
          rw [HSE.out]
          exact ⟨B, _, _, _, _, rfl, hz, hbl⟩
        · have HOK := Lib.hid (show kindS cmd args ≠ 0 by simpa using hk)
          have HKV := Lib.hid (show ¬ validR cmd args = false by rw [kind_valid, hk]; simp)
          clear hk
          have SA := Lib.hid (fun W (k : Kept NoF wg W) => (⟨k, k.cell c0g (fun h => h), k.cell c1g (fun h => h)⟩ : (fun w' => Kept NoF wg w' ∧ w'.cell? ⟨ab, ao + j * 2, none⟩ = some (.string (ba cmd)) ∧ w'.cell? ⟨ab, ao + j * 2 + 1, none⟩ = some (.slice X args.length cx)) W))
          have CO := Lib.hid (fun W (k : Kept NoF wg W) => CO.out W (HKg.out.trans k (fun _ h => .inl h)))
          by_cases h0 : orderR (l.take j) cmd = 0
          · have HO0 := Lib.hid h0
            rw [h0] at CO
            clear h0
            go_upto_region 10 with fail
            refine wp_region_noPanic ?_
            refine wp_region_held_drew (S := (fun w' => Kept NoF wg w' ∧ w'.cell? ⟨ab, ao + j * 2, none⟩ = some (.string (ba cmd)) ∧ w'.cell? ⟨ab, ao + j * 2 + 1, none⟩ = some (.slice X args.length cx))) (by kernel_rfl) ?_ (fun hHeld => ?_)
            · exact SA.out _ (Kept.refl NoF wg).drew
            refine wpAnyH_take (i := 0) (v := ?_) rfl (by kernel_rfl) (by kernel_rfl) (by kernel_rfl) (fun _ _ _ h => h) (Or.inl ⟨by rfl, ?_⟩) hHeld ?_
            rotate_left
            · (intro w hSw; (try dsimp only at hSw); go_simp; try (with_reducible rfl))
            simp only [Act.put, List.getElem_toArray, List.getElem_cons_zero, List.setIfInBounds_toArray, List.set_cons_zero, List.set_cons_succ]
            refine wpAnyH_take (i := 1) (v := ?_) rfl (by kernel_rfl) (by kernel_rfl) (by kernel_rfl) (fun _ _ _ h => h) (Or.inl ⟨by rfl, ?_⟩) hHeld ?_
            rotate_left
            · (intro w hSw; (try dsimp only at hSw); go_simp; try (with_reducible rfl))
            simp only [Act.put, List.getElem_toArray, List.getElem_cons_zero, List.getElem_cons_succ, List.setIfInBounds_toArray, List.set_cons_zero, List.set_cons_succ]
            refine wpAnyH_take (i := 2) (v := ?_) rfl (by kernel_rfl) (by kernel_rfl) (by kernel_rfl) (fun _ _ _ h => h) (Or.inl ⟨by rfl, ?_⟩) hHeld ?_
            rotate_left
            · (intro w hSw; (try dsimp only at hSw); go_simp; try (with_reducible rfl))
            simp only [Act.put, List.getElem_toArray, List.getElem_cons_zero, List.getElem_cons_succ, List.setIfInBounds_toArray, List.set_cons_zero, List.set_cons_succ]
            refine wpAnyH_take (i := 3) (v := ?_) rfl (by kernel_rfl) (by kernel_rfl) (by kernel_rfl) (fun _ _ _ h => h) (Or.inl ⟨by rfl, ?_⟩) hHeld ?_
            rotate_left
            · (intro w hSw; (try dsimp only at hSw); go_simp; try (with_reducible rfl))
            simp only [Act.put, List.getElem_toArray, List.getElem_cons_zero, List.getElem_cons_succ, List.setIfInBounds_toArray, List.set_cons_zero, List.set_cons_succ]
            refine wpAnyH_take (i := 4) (v := ?_) rfl (by kernel_rfl) (by kernel_rfl) (by kernel_rfl) (fun _ _ _ h => h) (Or.inl ⟨by rfl, ?_⟩) hHeld ?_
            rotate_left
            · (intro w hSw; (try dsimp only at hSw); go_simp; try (with_reducible rfl))
            simp only [Act.put, List.getElem_toArray, List.getElem_cons_zero, List.getElem_cons_succ, List.setIfInBounds_toArray, List.set_cons_zero, List.set_cons_succ]
            refine wpAnyH_take (i := 5) (v := ?_) rfl (by kernel_rfl) (by kernel_rfl) (by kernel_rfl) (fun _ _ _ h => h) (Or.inl ⟨by rfl, ?_⟩) hHeld ?_
            rotate_left
            · (intro w hSw; (try dsimp only at hSw); go_simp; try (with_reducible rfl))
            simp only [Act.put, List.getElem_toArray, List.getElem_cons_zero, List.getElem_cons_succ, List.setIfInBounds_toArray, List.set_cons_zero, List.set_cons_succ]
            refine wpAnyH_take (i := 6) (v := ?_) rfl (by kernel_rfl) (by kernel_rfl) (by kernel_rfl) (fun _ _ _ h => h) (Or.inl ⟨by rfl, ?_⟩) hHeld ?_
            rotate_left
            · (intro w hSw; (try dsimp only at hSw); go_simp; try (with_reducible rfl))
            simp only [Act.put, List.getElem_toArray, List.getElem_cons_zero, List.getElem_cons_succ, List.setIfInBounds_toArray, List.set_cons_zero, List.set_cons_succ]
            refine wpAnyH_ready (rs := [7]) (by kernel_rfl) (by simp) ?_
            refine AllReadyH.cons rfl (fun K hK => ?_) AllReadyH.nil
            go_simp
            refine (CO.out _ hHeld.1).mono ?_
            rintro e wa ⟨rfl, ba1⟩
            have hHa : Kept NoF wg wa := hHeld.1.trans (Kept.of_below (F := NoF) ba1) (fun _ h => .inl h)
            go_wp2_with fail
            refine hK.out _ _ (SA.out _ hHa) (fun hHeld => ?_)
            clear hK K
            try simp only [Act.put, List.getElem_toArray, List.getElem_cons_zero, List.getElem_cons_succ, List.setIfInBounds_toArray, List.set_cons_zero, List.set_cons_succ]
            refine wpAnyH_take (i := 8) (v := ?_) rfl (by kernel_rfl) (by kernel_rfl) (by kernel_rfl) (fun _ _ _ h => h) (Or.inl ⟨by rfl, ?_⟩) hHeld ?_
            rotate_left
            · (intro w hSw; (try dsimp only at hSw); go_simp; try (with_reducible rfl))
            simp only [Act.put, List.getElem_toArray, List.getElem_cons_zero, List.getElem_cons_succ, List.setIfInBounds_toArray, List.set_cons_zero, List.set_cons_succ]
            refine wpAnyH_done (by kernel_rfl) ?_ _
            refine NoPanic.normal ?_
            go_upto_region 13 with fail
            have hne : needsV cmd = true → d.vaults.isEmpty = false := fun hn => order_vault HOKS.out HVL.out HD.out HO0.out hn
            have k7c := hHeld.1.trans (Kept.refl NoF _).drew (fun _ h => .inl h)
            have bx7 := k7c.blk bxg (fun h => h)
            have hr7 := hrg.same k7c
            have kw7 := kwg.trans k7c (fun _ h => h.elim)
            have HBR7 := Lib.hid (k7c.blk HBRg.out (fun h => h))
            have hX7 := hXg.same k7c
            have hB7 := Nat.le_trans hBg k7c.size
            unfold SetD.cells at bx7
            refine wp_region_noPanic ?_
            refine wp_region_until (by kernel_rfl) 6 (fun (w' : World) => w'.cell? ⟨xb, 0, none⟩ = some (.slice U1 d.names.length cu1) ∧ w'.cell? ⟨xb, 1, none⟩ = some (.slice U2 d.quotas.length cu2) ∧ w'.cell? ⟨xb, 2, none⟩ = some (.slice U3 d.vaults.length cu3) ∧ w'.cell? ⟨xb, 3, none⟩ = some (.int .i64 d.quorum) ∧ w'.cell? ⟨xb, 4, none⟩ = some (.string (ba d.seed)) ∧ w'.cell? ⟨xb, 5, none⟩ = some (.int .i64 d.bits) ∧ w'.cell? ⟨xb, 6, none⟩ = some (.int .i64 d.height) ∧ w'.cell? ⟨xb, 7, none⟩ = some (.int .i64 d.sectors) ∧ w'.cell? ⟨xb, 8, none⟩ = some (.int .i64 d.size) ∧ w'.cell? ⟨xb, 9, none⟩ = some (.int .i64 d.day) ∧ w'.cell? ⟨xb, 10, none⟩ = some (.int .i64 d.leap) ∧ w'.cell? ⟨xb, 11, none⟩ = some (.int .i64 d.agree) ∧ w'.cell? ⟨ab, ao + j * 2, none⟩ = some (.string (ba cmd)) ∧ w'.cell? ⟨ab, ao + j * 2 + 1, none⟩ = some (.slice X args.length cx)) ⟨(bx7.cell 0).trans rfl, (bx7.cell 1).trans rfl, (bx7.cell 2).trans rfl, (bx7.cell 3).trans rfl, (bx7.cell 4).trans rfl, (bx7.cell 5).trans rfl, (bx7.cell 6).trans rfl, (bx7.cell 7).trans rfl, (bx7.cell 8).trans rfl, (bx7.cell 9).trans rfl, (bx7.cell 10).trans rfl, (bx7.cell 11).trans rfl, k7c.cell c0g (fun h => h), k7c.cell c1g (fun h => h)⟩ (fun hHeld => ?_)
            have HDL := Lib.hid (declare_any hr7 hB7 X cx hX7 HD.out HOK.out (fun ad e hp => by have := hXb ad e hp; omega) (fun a ha => HSJ.out a ha) hne (by omega) (by omega) (by omega))
            generalize wa.drew = W0 at hHeld bx7 kw7 HBR7 hB7 HDL ⊢
            clear hr7 hX7 k7c
            refine wpAnyU_take (i := 0) (v := ?_) rfl (by kernel_rfl) (by kernel_rfl) (by kernel_rfl) (by kernel_rfl) (by kernel_rfl) (fun _ _ _ h => h) (Or.inl ⟨by rfl, ?_⟩) hHeld ?_
            rotate_left
            · (intro w hSw; (try dsimp only at hSw); go_simp; try (with_reducible rfl))
            simp only [Act.put, List.getElem_toArray, List.getElem_cons_zero, List.setIfInBounds_toArray, List.set_cons_zero, List.set_cons_succ]
            refine wpAnyU_take (i := 1) (v := ?_) rfl (by kernel_rfl) (by kernel_rfl) (by kernel_rfl) (by kernel_rfl) (by kernel_rfl) (fun _ _ _ h => h) (Or.inl ⟨by rfl, ?_⟩) hHeld ?_
            rotate_left
            · (intro w hSw; (try dsimp only at hSw); go_simp; try (with_reducible rfl))
            simp only [Act.put, List.getElem_toArray, List.getElem_cons_zero, List.getElem_cons_succ, List.setIfInBounds_toArray, List.set_cons_zero, List.set_cons_succ]
            refine wpAnyU_take (i := 2) (v := ?_) rfl (by kernel_rfl) (by kernel_rfl) (by kernel_rfl) (by kernel_rfl) (by kernel_rfl) (fun _ _ _ h => h) (Or.inl ⟨by rfl, ?_⟩) hHeld ?_
            rotate_left
            · (intro w hSw; (try dsimp only at hSw); go_simp; try (with_reducible rfl))
            simp only [Act.put, List.getElem_toArray, List.getElem_cons_zero, List.getElem_cons_succ, List.setIfInBounds_toArray, List.set_cons_zero, List.set_cons_succ]
            refine wpAnyU_take (i := 3) (v := ?_) rfl (by kernel_rfl) (by kernel_rfl) (by kernel_rfl) (by kernel_rfl) (by kernel_rfl) (fun _ _ _ h => h) (Or.inl ⟨by rfl, ?_⟩) hHeld ?_
            rotate_left
            · (intro w hSw; (try dsimp only at hSw); go_simp; try (with_reducible rfl))
            simp only [Act.put, List.getElem_toArray, List.getElem_cons_zero, List.getElem_cons_succ, List.setIfInBounds_toArray, List.set_cons_zero, List.set_cons_succ]
            refine wpAnyU_take (i := 4) (v := ?_) rfl (by kernel_rfl) (by kernel_rfl) (by kernel_rfl) (by kernel_rfl) (by kernel_rfl) (fun _ _ _ h => h) (Or.inl ⟨by rfl, ?_⟩) hHeld ?_
            rotate_left
            · (intro w hSw; (try dsimp only at hSw); go_simp; try (with_reducible rfl))
            simp only [Act.put, List.getElem_toArray, List.getElem_cons_zero, List.getElem_cons_succ, List.setIfInBounds_toArray, List.set_cons_zero, List.set_cons_succ]
            refine wpAnyU_alone (i := 5) (by kernel_rfl) rfl (fun K hK => ?_)
            go_simp
            refine HDL.out.mono ?_
            clear HDL
            rintro e W1 ⟨nm1, qs1, vs1, vl1, rfl, hr8, k8⟩
            have bx8 := k8.blk bx7 (by show ¬ B ≤ xb; omega)
            obtain ⟨V1, cv1, rfl, _, _⟩ := own_form hr8.n1
            obtain ⟨V2, cv2, rfl, _, _⟩ := own_form hr8.n2
            obtain ⟨V3, cv3, rfl, _, _⟩ := own_form hr8.n3
            have kw8 := kw7.trans k8 (fun x h => .inl (.inr h))
            have hB8 := Nat.le_trans hB7 k8.size
            have hHeld : (fun (w' : World) => w'.cell? ⟨xb, 0, none⟩ = some (.slice U1 d.names.length cu1) ∧ w'.cell? ⟨xb, 1, none⟩ = some (.slice U2 d.quotas.length cu2) ∧ w'.cell? ⟨xb, 2, none⟩ = some (.slice U3 d.vaults.length cu3) ∧ w'.cell? ⟨xb, 3, none⟩ = some (.int .i64 d.quorum) ∧ w'.cell? ⟨xb, 4, none⟩ = some (.string (ba d.seed)) ∧ w'.cell? ⟨xb, 5, none⟩ = some (.int .i64 d.bits) ∧ w'.cell? ⟨xb, 6, none⟩ = some (.int .i64 d.height) ∧ w'.cell? ⟨xb, 7, none⟩ = some (.int .i64 d.sectors) ∧ w'.cell? ⟨xb, 8, none⟩ = some (.int .i64 d.size) ∧ w'.cell? ⟨xb, 9, none⟩ = some (.int .i64 d.day) ∧ w'.cell? ⟨xb, 10, none⟩ = some (.int .i64 d.leap) ∧ w'.cell? ⟨xb, 11, none⟩ = some (.int .i64 d.agree) ∧ w'.cell? ⟨ab, ao + j * 2, none⟩ = some (.string (ba cmd)) ∧ w'.cell? ⟨ab, ao + j * 2 + 1, none⟩ = some (.slice X args.length cx)) W1 := ⟨(bx8.cell 0).trans rfl, (bx8.cell 1).trans rfl, (bx8.cell 2).trans rfl, (bx8.cell 3).trans rfl, (bx8.cell 4).trans rfl, (bx8.cell 5).trans rfl, (bx8.cell 6).trans rfl, (bx8.cell 7).trans rfl, (bx8.cell 8).trans rfl, (bx8.cell 9).trans rfl, (bx8.cell 10).trans rfl, (bx8.cell 11).trans rfl, k8.cell hHeld.2.2.2.2.2.2.2.2.2.2.2.2.1 (by show ¬ B ≤ ab; omega), k8.cell hHeld.2.2.2.2.2.2.2.2.2.2.2.2.2 (by show ¬ B ≤ ab; omega)⟩
            have zx : ∀ i, W1.frozen? ⟨xb, i, none⟩ = false := fun i => bx8.frozen i
            have x0 := (bx8.cell 0).trans (show _ = some (.slice U1 d.names.length cu1) from rfl)
            have x1 := (bx8.cell 1).trans (show _ = some (.slice U2 d.quotas.length cu2) from rfl)
            have x2 := (bx8.cell 2).trans (show _ = some (.slice U3 d.vaults.length cu3) from rfl)
            have x3 := (bx8.cell 3).trans (show _ = some (.int .i64 d.quorum) from rfl)
            have x4 := (bx8.cell 4).trans (show _ = some (.string (ba d.seed)) from rfl)
            have x5 := (bx8.cell 5).trans (show _ = some (.int .i64 d.bits) from rfl)
            have x6 := (bx8.cell 6).trans (show _ = some (.int .i64 d.height) from rfl)
            have x7 := (bx8.cell 7).trans (show _ = some (.int .i64 d.sectors) from rfl)
            have x8 := (bx8.cell 8).trans (show _ = some (.int .i64 d.size) from rfl)
            have x9 := (bx8.cell 9).trans (show _ = some (.int .i64 d.day) from rfl)
            have x10 := (bx8.cell 10).trans (show _ = some (.int .i64 d.leap) from rfl)
            have x11 := (bx8.cell 11).trans (show _ = some (.int .i64 d.agree) from rfl)
            unfold SetD.cells
            go_wp2_with fail
            refine hK.out _ _ (fun _ => hHeld) ?_
            clear hK K
            try simp only [Act.put, List.getElem_toArray, List.getElem_cons_zero, List.getElem_cons_succ, List.setIfInBounds_toArray, List.set_cons_zero, List.set_cons_succ]
            refine wpAnyU_alone (i := 6) (by kernel_rfl) rfl (fun K hK => ?_)
            go_simp
            refine hK.out _ _ (fun h => by cases h) ?_
            clear hK K
            try simp only [Act.put, List.getElem_toArray, List.getElem_cons_zero, List.getElem_cons_succ, List.setIfInBounds_toArray, List.set_cons_zero, List.set_cons_succ]
            refine wpAnyU_done (by kernel_rfl) ?_ _
            refine NoPanic.normal ?_
            have HSE := Lib.hid (show setRef [] l 0 set0 = setRef (l.take (j + 1)) (l.drop (j + 1)) (j + 1) (decl d cmd args) by rw [HSS.out, HST.out, if_neg (show ¬ okDecl ⟨cmd, args⟩ = false by rw [HOD.out]; simp), if_neg HKV.out, if_neg (show ¬ orderR (l.take j) cmd ≠ 0 by rw [HO0.out]; simp), HTK.out])
            have hLN := decl_lens d cmd args
            have HVS := Lib.hid (decl_vaults d HD.out HOK.out)
            have bx8' : Blk W1 xb 63 (d.cells (.slice U1 d.names.length cu1) (.slice U2 d.quotas.length cu2) (.slice U3 d.vaults.length cu3)) := bx8
            have bxz := rblk_puts bx8' (rsetList (decl d cmd args) (.slice V1 (decl d cmd args).names.length cv1) (.slice V2 (decl d cmd args).quotas.length cv2) (.slice V3 (decl d cmd args).vaults.length cv3))
            have kxz := rkept_puts0 (Kept.refl (fun b => b = xb) W1) xb rfl (rsetList (decl d cmd args) (.slice V1 (decl d cmd args).names.length cv1) (.slice V2 (decl d cmd args).quotas.length cv2) (.slice V3 (decl d cmd args).vaults.length cv3))
            have hrz := hr8.kept kxz (fun b e => by omega)
            rw [rsetList_cells] at bxz
            simp only [rsetList, List.foldl_cons, List.foldl_nil] at bxz kxz hrz
            have kwz := kw8.trans kxz (fun x e => .inl (.inl e))
            have hBz := Nat.le_trans hB8 kxz.size
            clear zx x0 x1 x2 x3 x4 x5 x6 x7 x8 x9 x10 x11 hr8 bx8 bx8' kw8 k8 hB8 kxz hXb hne
            go_wp2_with fail
            go_roundw
            case rel => exact ⟨j + 1, decl d cmd args, hlt, by go_num, HSE.out, ⟨hxB, _, _, _, vl1, bxz, hrz⟩, ⟨by omega, by omega, by omega⟩, ⟨by rw [HTK.out, List.all_append, HOKS.out]; simp [HOD.out], by rw [HVS.out, HTK.out, List.any_append, HVL.out]; simp⟩, kwz, hBz, hwx⟩
            case measure => simp [intOf]; omega
          · have hne0 : (orderR (l.take j) cmd != 0) = true := by simpa using h0
            have HSE := Lib.hid (show setRef [] l 0 set0 = (setZ, (j : Int), orderR (l.take j) cmd) by rw [HSS.out, HST.out, if_neg (show ¬ okDecl ⟨cmd, args⟩ = false by rw [HOD.out]; simp), if_neg HKV.out, if_pos h0])
            clear HSS HST h0 hXb
            generalize orderR (l.take j) cmd = oe at CO hne0 HSE
            go_upto_region 10 with fail
            refine wp_region_noPanic ?_
            refine wp_region_held_drew (S := (fun w' => Kept NoF wg w' ∧ w'.cell? ⟨ab, ao + j * 2, none⟩ = some (.string (ba cmd)) ∧ w'.cell? ⟨ab, ao + j * 2 + 1, none⟩ = some (.slice X args.length cx))) (by kernel_rfl) ?_ (fun hHeld => ?_)
            · exact SA.out _ (Kept.refl NoF wg).drew
            refine wpAnyH_take (i := 0) (v := ?_) rfl (by kernel_rfl) (by kernel_rfl) (by kernel_rfl) (fun _ _ _ h => h) (Or.inl ⟨by rfl, ?_⟩) hHeld ?_
            rotate_left
            · (intro w hSw; (try dsimp only at hSw); go_simp; try (with_reducible rfl))
            simp only [Act.put, List.getElem_toArray, List.getElem_cons_zero, List.setIfInBounds_toArray, List.set_cons_zero, List.set_cons_succ]
            refine wpAnyH_take (i := 1) (v := ?_) rfl (by kernel_rfl) (by kernel_rfl) (by kernel_rfl) (fun _ _ _ h => h) (Or.inl ⟨by rfl, ?_⟩) hHeld ?_
            rotate_left
            · (intro w hSw; (try dsimp only at hSw); go_simp; try (with_reducible rfl))
            simp only [Act.put, List.getElem_toArray, List.getElem_cons_zero, List.getElem_cons_succ, List.setIfInBounds_toArray, List.set_cons_zero, List.set_cons_succ]
            refine wpAnyH_take (i := 2) (v := ?_) rfl (by kernel_rfl) (by kernel_rfl) (by kernel_rfl) (fun _ _ _ h => h) (Or.inl ⟨by rfl, ?_⟩) hHeld ?_
            rotate_left
            · (intro w hSw; (try dsimp only at hSw); go_simp; try (with_reducible rfl))
            simp only [Act.put, List.getElem_toArray, List.getElem_cons_zero, List.getElem_cons_succ, List.setIfInBounds_toArray, List.set_cons_zero, List.set_cons_succ]
            refine wpAnyH_take (i := 3) (v := ?_) rfl (by kernel_rfl) (by kernel_rfl) (by kernel_rfl) (fun _ _ _ h => h) (Or.inl ⟨by rfl, ?_⟩) hHeld ?_
            rotate_left
            · (intro w hSw; (try dsimp only at hSw); go_simp; try (with_reducible rfl))
            simp only [Act.put, List.getElem_toArray, List.getElem_cons_zero, List.getElem_cons_succ, List.setIfInBounds_toArray, List.set_cons_zero, List.set_cons_succ]
            refine wpAnyH_take (i := 4) (v := ?_) rfl (by kernel_rfl) (by kernel_rfl) (by kernel_rfl) (fun _ _ _ h => h) (Or.inl ⟨by rfl, ?_⟩) hHeld ?_
            rotate_left
            · (intro w hSw; (try dsimp only at hSw); go_simp; try (with_reducible rfl))
            simp only [Act.put, List.getElem_toArray, List.getElem_cons_zero, List.getElem_cons_succ, List.setIfInBounds_toArray, List.set_cons_zero, List.set_cons_succ]
            refine wpAnyH_take (i := 5) (v := ?_) rfl (by kernel_rfl) (by kernel_rfl) (by kernel_rfl) (fun _ _ _ h => h) (Or.inl ⟨by rfl, ?_⟩) hHeld ?_
            rotate_left
            · (intro w hSw; (try dsimp only at hSw); go_simp; try (with_reducible rfl))
            simp only [Act.put, List.getElem_toArray, List.getElem_cons_zero, List.getElem_cons_succ, List.setIfInBounds_toArray, List.set_cons_zero, List.set_cons_succ]
            refine wpAnyH_take (i := 6) (v := ?_) rfl (by kernel_rfl) (by kernel_rfl) (by kernel_rfl) (fun _ _ _ h => h) (Or.inl ⟨by rfl, ?_⟩) hHeld ?_
            rotate_left
            · (intro w hSw; (try dsimp only at hSw); go_simp; try (with_reducible rfl))
            simp only [Act.put, List.getElem_toArray, List.getElem_cons_zero, List.getElem_cons_succ, List.setIfInBounds_toArray, List.set_cons_zero, List.set_cons_succ]
            refine wpAnyH_ready (rs := [7]) (by kernel_rfl) (by simp) ?_
            refine AllReadyH.cons rfl (fun K hK => ?_) AllReadyH.nil
            go_simp
            refine (CO.out _ hHeld.1).mono ?_
            rintro e wa ⟨rfl, ba1⟩
            have hHa : Kept NoF wg wa := hHeld.1.trans (Kept.of_below (F := NoF) ba1) (fun _ h => .inl h)
            go_wp2_with fail
            refine hK.out _ _ (SA.out _ hHa) (fun hHeld => ?_)
            clear hK K
            try simp only [Act.put, List.getElem_toArray, List.getElem_cons_zero, List.getElem_cons_succ, List.setIfInBounds_toArray, List.set_cons_zero, List.set_cons_succ]
            refine wpAnyH_take (i := 8) (v := ?_) rfl (by kernel_rfl) (by kernel_rfl) (by kernel_rfl) (fun _ _ _ h => h) (Or.inl ⟨by rfl, ?_⟩) hHeld ?_
            rotate_left
            · (intro w hSw; (try dsimp only at hSw); go_simp; try (with_reducible rfl))
            simp only [Act.put, List.getElem_toArray, List.getElem_cons_zero, List.getElem_cons_succ, List.setIfInBounds_toArray, List.set_cons_zero, List.set_cons_succ]
            refine wpAnyH_done (by kernel_rfl) ?_ _
            refine NoPanic.normal ?_
            have HBRa := Lib.hid (hHa.blk HBRg.out (fun h => h))
            have bwa := (bwg.trans (hHa.below (Nat.le_refl _) (fun _ h => h.elim) |>.mono bwg.size))
            have hrz := RowsAt.nil wa B (d := setZ) rfl rfl rfl
            clear hHeld SA CO
            have zr : ∀ i, wa.frozen? ⟨rb, i, none⟩ = false := fun i => HBRa.out.frozen i
            have r0 := (HBRa.out.cell 0).trans (show _ = some (.slice none 0 0) from rfl)
            have r1 := (HBRa.out.cell 1).trans (show _ = some (.slice none 0 0) from rfl)
            have r2 := (HBRa.out.cell 2).trans (show _ = some (.slice none 0 0) from rfl)
            have r3 := (HBRa.out.cell 3).trans (show _ = some (.int .i64 0) from rfl)
            have r4 := (HBRa.out.cell 4).trans (show _ = some (.string ⟨#[]⟩) from rfl)
            have r5 := (HBRa.out.cell 5).trans (show _ = some (.int .i64 0) from rfl)
            have r6 := (HBRa.out.cell 6).trans (show _ = some (.int .i64 0) from rfl)
            have r7 := (HBRa.out.cell 7).trans (show _ = some (.int .i64 0) from rfl)
            have r8 := (HBRa.out.cell 8).trans (show _ = some (.int .i64 0) from rfl)
            have r9 := (HBRa.out.cell 9).trans (show _ = some (.int .i64 0) from rfl)
            have r10 := (HBRa.out.cell 10).trans (show _ = some (.int .i64 0) from rfl)
            have r11 := (HBRa.out.cell 11).trans (show _ = some (.int .i64 0) from rfl)
            go_wp2_with fail
            have hbz := rblk_puts HBRa.out (rsetList setZ (.slice none 0 0) (.slice none 0 0) (.slice none 0 0))
            rw [rsetList_cells] at hbz
            have kz := rkept_puts0 (Kept.refl (fun b => b = rb) wa) rb rfl (rsetList setZ (.slice none 0 0) (.slice none 0 0) (.slice none 0 0))
            have hz := RowsAt.kept hrz kz (fun b e => by omega)
            have hbl := below_puts bwa (n := rb) hrb (rsetList setZ (.slice none 0 0) (.slice none 0 0) (.slice none 0 0))
            simp only [rsetList, List.foldl_cons, List.foldl_nil] at hbz kz hz hbl
            refine bodyPost_ret (results_rset (cs := SetD.cells setZ (.slice none 0 0) (.slice none 0 0) (.slice none 0 0)) rfl rfl hbz) rfl ?_
            rw [HSE.out]
            exact ⟨B, _, _, _, _, rfl, hz, hbl⟩
      · have hn2 : (f2 != 1) = true := by simpa using hf2
        have HSE := Lib.hid (show setRef [] l 0 set0 = (d, (j : Int), 0) by rw [HSS.out, HST.out, if_pos (show okDecl ⟨cmd, args⟩ = false by rw [HOK0.out]; simpa using hf2)])
        clear HSS HST HIF HOK0 hXb hf2
        unfold SetD.cells at bx4
        have x0 := (bx4.cell 0).trans (show _ = some (.slice U1 d.names.length cu1) from rfl)
        have x1 := (bx4.cell 1).trans (show _ = some (.slice U2 d.quotas.length cu2) from rfl)
        have x2 := (bx4.cell 2).trans (show _ = some (.slice U3 d.vaults.length cu3) from rfl)
        have x3 := (bx4.cell 3).trans (show _ = some (.int .i64 d.quorum) from rfl)
        have x4 := (bx4.cell 4).trans (show _ = some (.string (ba d.seed)) from rfl)
        have x5 := (bx4.cell 5).trans (show _ = some (.int .i64 d.bits) from rfl)
        have x6 := (bx4.cell 6).trans (show _ = some (.int .i64 d.height) from rfl)
        have x7 := (bx4.cell 7).trans (show _ = some (.int .i64 d.sectors) from rfl)
        have x8 := (bx4.cell 8).trans (show _ = some (.int .i64 d.size) from rfl)
        have x9 := (bx4.cell 9).trans (show _ = some (.int .i64 d.day) from rfl)
        have x10 := (bx4.cell 10).trans (show _ = some (.int .i64 d.leap) from rfl)
        have x11 := (bx4.cell 11).trans (show _ = some (.int .i64 d.agree) from rfl)
        have zr : ∀ i, w4.frozen? ⟨rb, i, none⟩ = false := fun i => HBR4.out.frozen i
        have r0 := (HBR4.out.cell 0).trans (show _ = some (.slice none 0 0) from rfl)
        have r1 := (HBR4.out.cell 1).trans (show _ = some (.slice none 0 0) from rfl)
        have r2 := (HBR4.out.cell 2).trans (show _ = some (.slice none 0 0) from rfl)
        have r3 := (HBR4.out.cell 3).trans (show _ = some (.int .i64 0) from rfl)
        have r4 := (HBR4.out.cell 4).trans (show _ = some (.string ⟨#[]⟩) from rfl)
        have r5 := (HBR4.out.cell 5).trans (show _ = some (.int .i64 0) from rfl)
        have r6 := (HBR4.out.cell 6).trans (show _ = some (.int .i64 0) from rfl)
        have r7 := (HBR4.out.cell 7).trans (show _ = some (.int .i64 0) from rfl)
        have r8 := (HBR4.out.cell 8).trans (show _ = some (.int .i64 0) from rfl)
        have r9 := (HBR4.out.cell 9).trans (show _ = some (.int .i64 0) from rfl)
        have r10 := (HBR4.out.cell 10).trans (show _ = some (.int .i64 0) from rfl)
        have r11 := (HBR4.out.cell 11).trans (show _ = some (.int .i64 0) from rfl)
        go_wp2_with fail
        have hbz := rblk_puts HBR4.out (rsetList d (.slice U1 d.names.length cu1) (.slice U2 d.quotas.length cu2) (.slice U3 d.vaults.length cu3))
        rw [rsetList_cells] at hbz
        have kz := rkept_puts0 (Kept.refl (fun b => b = rb) w4) rb rfl (rsetList d (.slice U1 d.names.length cu1) (.slice U2 d.quotas.length cu2) (.slice U3 d.vaults.length cu3))
        have hz := RowsAt.kept hr4 kz (fun b e => by omega)
        have hbl := below_puts bw4 (n := rb) hrb (rsetList d (.slice U1 d.names.length cu1) (.slice U2 d.quotas.length cu2) (.slice U3 d.vaults.length cu3))
        simp only [rsetList, List.foldl_cons, List.foldl_nil] at hbz kz hz hbl
        refine bodyPost_ret (results_rset (cs := SetD.cells d (.slice U1 d.names.length cu1) (.slice U2 d.quotas.length cu2) (.slice U3 d.vaults.length cu3)) rfl rfl hbz) rfl ?_
        rw [HSE.out]
        exact ⟨B, _, _, _, _, rfl, hz, hbl⟩
    · obtain rfl : j = l.length := by omega
      have HSE := Lib.hid (show setRef [] l 0 set0 = (d, (l.length : Int), 0) by rw [HSS.out, List.drop_length]; rfl)
      clear HSS
      unfold SetD.cells at bx
      have x0 := (bx.cell 0).trans (show _ = some (.slice U1 d.names.length cu1) from rfl)
      have x1 := (bx.cell 1).trans (show _ = some (.slice U2 d.quotas.length cu2) from rfl)
      have x2 := (bx.cell 2).trans (show _ = some (.slice U3 d.vaults.length cu3) from rfl)
      have x3 := (bx.cell 3).trans (show _ = some (.int .i64 d.quorum) from rfl)
      have x4 := (bx.cell 4).trans (show _ = some (.string (ba d.seed)) from rfl)
      have x5 := (bx.cell 5).trans (show _ = some (.int .i64 d.bits) from rfl)
      have x6 := (bx.cell 6).trans (show _ = some (.int .i64 d.height) from rfl)
      have x7 := (bx.cell 7).trans (show _ = some (.int .i64 d.sectors) from rfl)
      have x8 := (bx.cell 8).trans (show _ = some (.int .i64 d.size) from rfl)
      have x9 := (bx.cell 9).trans (show _ = some (.int .i64 d.day) from rfl)
      have x10 := (bx.cell 10).trans (show _ = some (.int .i64 d.leap) from rfl)
      have x11 := (bx.cell 11).trans (show _ = some (.int .i64 d.agree) from rfl)
      have zr : ∀ i, wr.frozen? ⟨rb, i, none⟩ = false := fun i => HBR.out.frozen i
      have r0 := (HBR.out.cell 0).trans (show _ = some (.slice none 0 0) from rfl)
      have r1 := (HBR.out.cell 1).trans (show _ = some (.slice none 0 0) from rfl)
      have r2 := (HBR.out.cell 2).trans (show _ = some (.slice none 0 0) from rfl)
      have r3 := (HBR.out.cell 3).trans (show _ = some (.int .i64 0) from rfl)
      have r4 := (HBR.out.cell 4).trans (show _ = some (.string ⟨#[]⟩) from rfl)
      have r5 := (HBR.out.cell 5).trans (show _ = some (.int .i64 0) from rfl)
      have r6 := (HBR.out.cell 6).trans (show _ = some (.int .i64 0) from rfl)
      have r7 := (HBR.out.cell 7).trans (show _ = some (.int .i64 0) from rfl)
      have r8 := (HBR.out.cell 8).trans (show _ = some (.int .i64 0) from rfl)
      have r9 := (HBR.out.cell 9).trans (show _ = some (.int .i64 0) from rfl)
      have r10 := (HBR.out.cell 10).trans (show _ = some (.int .i64 0) from rfl)
      have r11 := (HBR.out.cell 11).trans (show _ = some (.int .i64 0) from rfl)
      go_wp2_with fail
      have hbz := rblk_puts HBR.out (rsetList d (.slice U1 d.names.length cu1) (.slice U2 d.quotas.length cu2) (.slice U3 d.vaults.length cu3))
      rw [rsetList_cells] at hbz
      have kz := rkept_puts0 (Kept.refl (fun b => b = rb) wr) rb rfl (rsetList d (.slice U1 d.names.length cu1) (.slice U2 d.quotas.length cu2) (.slice U3 d.vaults.length cu3))
      have hz := RowsAt.kept hr kz (fun b e => by omega)
      have hbl := below_puts bwr (n := rb) hrb (rsetList d (.slice U1 d.names.length cu1) (.slice U2 d.quotas.length cu2) (.slice U3 d.vaults.length cu3))
      simp only [rsetList, List.foldl_cons, List.foldl_nil] at hbz kz hz hbl
      refine bodyPost_ret (results_rset (cs := SetD.cells d (.slice U1 d.names.length cu1) (.slice U2 d.quotas.length cu2) (.slice U3 d.vaults.length cu3)) rfl rfl hbz) rfl ?_
      rw [HSE.out]
      exact ⟨B, _, _, _, _, rfl, hz, hbl⟩


end Go.Proofs.YtfnfjfcncijapaaGreatDoor

