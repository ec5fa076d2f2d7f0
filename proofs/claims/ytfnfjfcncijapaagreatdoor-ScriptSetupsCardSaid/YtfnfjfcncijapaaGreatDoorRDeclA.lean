/- kinkeepref56.Declare: quorum, seed, scheme, disk, days (printed by genRDecl.py). -/
import Derived.Test.YtfnfjfcncijapaaGreatDoorRDecl
namespace Go.Proofs.YtfnfjfcncijapaaGreatDoor
open Go.RowKit Go.Shelf
attribute [local go_sem] Oper.semAt_some

set_option maxHeartbeats 4000000 in
set_option maxRecDepth 100000 in
theorem rdecl_quorum {w : World} {B : Nat} {d : SetD} {nm qs vs : Value} {vl : List (VaultD × Option Addr × Nat)} (hr : RowsAt w B d nm qs vs vl) (hBw : B ≤ w.heap.size) (ab ao cA : Nat) (a0 : List UInt8) (hA : StrsAt w (some ⟨ab, ao, none⟩) [a0]) (hab : ab < B) (hs : ∀ a ∈ [a0], a.length ≤ 65536) :
    Calls Tryz.prog 52 #[.agg (d.cells nm qs vs), .agg #[.string (ba [113, 117, 111, 114, 117, 109]), .slice (some ⟨ab, ao, none⟩) 1 cA]] w (DeclPost (decl d [113, 117, 111, 114, 117, 109] [a0]) B w) := by
  obtain ⟨U3, cu3, rfl, _, _⟩ := own_form hr.n3
  have hi := decl_wrap (decl_slen hr)
  obtain ⟨U1, cu1, rfl, _, _⟩ := own_form hr.n1
  obtain ⟨U2, cu2, rfl, _, _⟩ := own_form hr.n2
  have HDC := Lib.hid (decl_quorum d a0)
  have CN0 := Lib.hid (fun (W : World) (k : Kept (fun b => B ≤ b) w W) => (show Calls Tryz.prog 47 #[.agg #[.string (ba [113, 117, 111, 114, 117, 109]), .slice (some ⟨ab, ao, none⟩) 1 cA], .int .i64 0] W fun e W' => e = .returned (.int .i64 (nv a0)) ∧ Kept NoF W W' from
    (rnumber_any (ba [113, 117, 111, 114, 117, 109]) (some ⟨ab, ao, none⟩) cA [a0] W (k.src hA (fun ad e _ hf => by cases e; exact absurd hf (by show ¬ B ≤ ab; omega))) 0 (by simp) (fun a ha => by have := hs a ha; omega)).mono (fun e W' h => ⟨h.1, Kept.of_below h.2⟩)))
  have bp := ((Blk.new w 63 #[.slice U1 d.names.length cu1, .slice U2 d.quotas.length cu2, .slice U3 d.vaults.length cu3, .int .i64 d.quorum, .string (ba d.seed), .int .i64 d.bits, .int .i64 d.height, .int .i64 d.sectors, .int .i64 d.size, .int .i64 d.day, .int .i64 d.leap, .int .i64 d.agree]).alloc (.cells #[.string (ba [113, 117, 111, 114, 117, 109]), .slice (some ⟨ab, ao, none⟩) 1 cA] 39)).alloc (.cells #[.slice none 0 0, .slice none 0 0, .slice none 0 0, .int .i64 0, .string ⟨#[]⟩, .int .i64 0, .int .i64 0, .int .i64 0, .int .i64 0, .int .i64 0, .int .i64 0, .int .i64 0] 63)
  have bs := at_size (b := w.heap.size + 1) (by simp) ((Blk.new (w.alloc (.cells #[.slice U1 d.names.length cu1, .slice U2 d.quotas.length cu2, .slice U3 d.vaults.length cu3, .int .i64 d.quorum, .string (ba d.seed), .int .i64 d.bits, .int .i64 d.height, .int .i64 d.sectors, .int .i64 d.size, .int .i64 d.day, .int .i64 d.leap, .int .i64 d.agree] 63)) 39 #[.string (ba [113, 117, 111, 114, 117, 109]), .slice (some ⟨ab, ao, none⟩) 1 cA]).alloc (.cells #[.slice none 0 0, .slice none 0 0, .slice none 0 0, .int .i64 0, .string ⟨#[]⟩, .int .i64 0, .int .i64 0, .int .i64 0, .int .i64 0, .int .i64 0, .int .i64 0, .int .i64 0] 63))
  have bq := at_size (b := w.heap.size + 1 + 1) (by simp) (Blk.new ((w.alloc (.cells #[.slice U1 d.names.length cu1, .slice U2 d.quotas.length cu2, .slice U3 d.vaults.length cu3, .int .i64 d.quorum, .string (ba d.seed), .int .i64 d.bits, .int .i64 d.height, .int .i64 d.sectors, .int .i64 d.size, .int .i64 d.day, .int .i64 d.leap, .int .i64 d.agree] 63)).alloc (.cells #[.string (ba [113, 117, 111, 114, 117, 109]), .slice (some ⟨ab, ao, none⟩) 1 cA] 39)) 63 #[.slice none 0 0, .slice none 0 0, .slice none 0 0, .int .i64 0, .string ⟨#[]⟩, .int .i64 0, .int .i64 0, .int .i64 0, .int .i64 0, .int .i64 0, .int .i64 0, .int .i64 0])
  have kw0 := (((Kept.refl NoF w).alloc (.cells #[.slice U1 d.names.length cu1, .slice U2 d.quotas.length cu2, .slice U3 d.vaults.length cu3, .int .i64 d.quorum, .string (ba d.seed), .int .i64 d.bits, .int .i64 d.height, .int .i64 d.sectors, .int .i64 d.size, .int .i64 d.day, .int .i64 d.leap, .int .i64 d.agree] 63)).alloc (.cells #[.string (ba [113, 117, 111, 114, 117, 109]), .slice (some ⟨ab, ao, none⟩) 1 cA] 39)).alloc (.cells #[.slice none 0 0, .slice none 0 0, .slice none 0 0, .int .i64 0, .string ⟨#[]⟩, .int .i64 0, .int .i64 0, .int .i64 0, .int .i64 0, .int .i64 0, .int .i64 0, .int .i64 0] 63)
  show Calls Tryz.prog 52 #[.agg #[.slice U1 d.names.length cu1, .slice U2 d.quotas.length cu2, .slice U3 d.vaults.length cu3, .int .i64 d.quorum, .string (ba d.seed), .int .i64 d.bits, .int .i64 d.height, .int .i64 d.sectors, .int .i64 d.size, .int .i64 d.day, .int .i64 d.leap, .int .i64 d.agree], .agg #[.string (ba [113, 117, 111, 114, 117, 109]), .slice (some ⟨ab, ao, none⟩) 1 cA]] w _
  go_enter Tryz.func52, Tryz.ntmps52
  go_upto_region 1 with fail
  generalize ((w.alloc (.cells #[.slice U1 d.names.length cu1, .slice U2 d.quotas.length cu2, .slice U3 d.vaults.length cu3, .int .i64 d.quorum, .string (ba d.seed), .int .i64 d.bits, .int .i64 d.height, .int .i64 d.sectors, .int .i64 d.size, .int .i64 d.day, .int .i64 d.leap, .int .i64 d.agree] 63)).alloc (.cells #[.string (ba [113, 117, 111, 114, 117, 109]), .slice (some ⟨ab, ao, none⟩) 1 cA] 39)).alloc (.cells #[.slice none 0 0, .slice none 0 0, .slice none 0 0, .int .i64 0, .string ⟨#[]⟩, .int .i64 0, .int .i64 0, .int .i64 0, .int .i64 0, .int .i64 0, .int .i64 0, .int .i64 0] 63) = w0 at bp bs bq kw0 ⊢
  have hBp := hBw
  generalize hqb : w.heap.size + 1 + 1 = qb at bq ⊢
  generalize hsb : w.heap.size + 1 = sb at bs ⊢
  generalize hpb : w.heap.size = pb at bp hBp ⊢
  have hpw : w.heap.size ≤ pb ∧ pb < sb ∧ sb < qb := by omega
  clear hpb hsb hqb
  obtain ⟨hpw, hps, hsq⟩ := hpw
  have e2 := (bp.cell 2).trans (show _ = some (.slice U3 d.vaults.length cu3) from rfl)
  have s0 := (bs.cell 0).trans (show _ = some (.string (ba [113, 117, 111, 114, 117, 109])) from rfl)
  have s1 := (bs.cell 1).trans (show _ = some (.slice (some ⟨ab, ao, none⟩) 1 cA) from rfl)
  have q_device : ((ba [113, 117, 111, 114, 117, 109]).toList == [100, 101, 118, 105, 99, 101]) = false := by rw [cmp_ba]; decide
  have q_vault : ((ba [113, 117, 111, 114, 117, 109]).toList == [118, 97, 117, 108, 116]) = false := by rw [cmp_ba]; decide
  have q_cutting : ((ba [113, 117, 111, 114, 117, 109]).toList == [99, 117, 116, 116, 105, 110, 103]) = false := by rw [cmp_ba]; decide
  have q_rules : ((ba [113, 117, 111, 114, 117, 109]).toList == [114, 117, 108, 101, 115]) = false := by rw [cmp_ba]; decide
  have q_quorum : ((ba [113, 117, 111, 114, 117, 109]).toList == [113, 117, 111, 114, 117, 109]) = true := by rw [cmp_ba]; decide
  clear hA hs
  go_upto_region 13 with fail
  have awq := hr.away (p := qb) (by omega)
  go_wp2_with fail
  refine (CN0.out w0 kw0.below_mono).mono ?_
  rintro e w1 ⟨rfl, k1⟩
  have bp1 := k1.blk bp (fun h => h)
  have bq1 := k1.blk bq (fun h => h)
  have kw1 := kw0.trans k1 (fun _ h => .inl h)
  have z1 : ∀ i, w1.frozen? ⟨pb, i, none⟩ = false := fun i => bp1.frozen i
  have g3 := (bp1.cell 3).trans (show _ = some (.int .i64 d.quorum) from rfl)
  have bf := (Blk.set_ bp1 3 (.int .i64 (nv a0)))
  have bqf := (Blk.far bq1 (p := ⟨pb, 3, none⟩) (by show qb ≠ pb; omega) (.int .i64 (nv a0)))
  have kN := Kept.trans kw1 (Kept.setCell (p := ⟨pb, 3, none⟩) (Kept.refl (fun b => b = pb) w1) (.inl rfl) (.int .i64 (nv a0))) (fun x e => .inr (by show w.heap.size ≤ x; omega))
  have hrf0 := hr.same kN
  have hrf : RowsAt (w1.setCell ⟨pb, 3, none⟩ (.int .i64 (nv a0))) B { d with quorum := (nv a0) } (.slice U1 d.names.length cu1) (.slice U2 d.quotas.length cu2) (.slice U3 d.vaults.length cu3) vl := ⟨hrf0.n0, hrf0.n1, hrf0.n2, hrf0.n3, hrf0.n4⟩
  have kf : Kept (fun k => B ≤ k) w (w1.setCell ⟨pb, 3, none⟩ (.int .i64 (nv a0))) := kN.below_mono
  clear kN hrf0
  go_upto_region 22 with fail
  generalize (w1.setCell ⟨pb, 3, none⟩ (.int .i64 (nv a0))) = Wf at bf bqf hrf kf ⊢
  have zr : ∀ i, Wf.frozen? ⟨qb, i, none⟩ = false := fun i => bqf.frozen i
  have f0 := (bf.cell 0).trans (show _ = some (.slice U1 d.names.length cu1) from rfl)
  have f1 := (bf.cell 1).trans (show _ = some (.slice U2 d.quotas.length cu2) from rfl)
  have f2 := (bf.cell 2).trans (show _ = some (.slice U3 d.vaults.length cu3) from rfl)
  have f3 := (bf.cell 3).trans (show _ = some (.int .i64 (nv a0)) from rfl)
  have f4 := (bf.cell 4).trans (show _ = some (.string (ba d.seed)) from rfl)
  have f5 := (bf.cell 5).trans (show _ = some (.int .i64 d.bits) from rfl)
  have f6 := (bf.cell 6).trans (show _ = some (.int .i64 d.height) from rfl)
  have f7 := (bf.cell 7).trans (show _ = some (.int .i64 d.sectors) from rfl)
  have f8 := (bf.cell 8).trans (show _ = some (.int .i64 d.size) from rfl)
  have f9 := (bf.cell 9).trans (show _ = some (.int .i64 d.day) from rfl)
  have f10 := (bf.cell 10).trans (show _ = some (.int .i64 d.leap) from rfl)
  have f11 := (bf.cell 11).trans (show _ = some (.int .i64 d.agree) from rfl)
  have r0 := (bqf.cell 0).trans (show _ = some (.slice none 0 0) from rfl)
  have r1 := (bqf.cell 1).trans (show _ = some (.slice none 0 0) from rfl)
  have r2 := (bqf.cell 2).trans (show _ = some (.slice none 0 0) from rfl)
  have r3 := (bqf.cell 3).trans (show _ = some (.int .i64 0) from rfl)
  have r4 := (bqf.cell 4).trans (show _ = some (.string ⟨#[]⟩) from rfl)
  have r5 := (bqf.cell 5).trans (show _ = some (.int .i64 0) from rfl)
  have r6 := (bqf.cell 6).trans (show _ = some (.int .i64 0) from rfl)
  have r7 := (bqf.cell 7).trans (show _ = some (.int .i64 0) from rfl)
  have r8 := (bqf.cell 8).trans (show _ = some (.int .i64 0) from rfl)
  have r9 := (bqf.cell 9).trans (show _ = some (.int .i64 0) from rfl)
  have r10 := (bqf.cell 10).trans (show _ = some (.int .i64 0) from rfl)
  have r11 := (bqf.cell 11).trans (show _ = some (.int .i64 0) from rfl)
  have HBQ := Lib.hid (show Blk Wf qb 63 (setZ.cells (.slice none 0 0) (.slice none 0 0) (.slice none 0 0)) from bqf)
  have HRF := Lib.hid hrf
  have HKF := Lib.hid kf
  have HAW := Lib.hid awq
  clear bf bqf hrf kf awq
  go_wp2_with fail
  have hbz := rblk_puts HBQ.out (rsetList { d with quorum := (nv a0) } (.slice U1 d.names.length cu1) (.slice U2 d.quotas.length cu2) (.slice U3 d.vaults.length cu3))
  have kz := rkept_puts0 (Kept.refl (fun b => b = qb) Wf) qb rfl (rsetList { d with quorum := (nv a0) } (.slice U1 d.names.length cu1) (.slice U2 d.quotas.length cu2) (.slice U3 d.vaults.length cu3))
  have hz := RowsAt.boxed HRF.out kz HBQ.out HAW.out
  rw [rsetList_cells] at hbz
  simp only [rsetList, List.foldl_cons, List.foldl_nil] at hbz kz hz
  refine bodyPost_ret (results_decl (cs := SetD.cells { d with quorum := (nv a0) } (.slice U1 d.names.length cu1) (.slice U2 d.quotas.length cu2) (.slice U3 d.vaults.length cu3)) rfl rfl hbz) rfl ?_
  rw [HDC.out]
  exact ⟨(.slice U1 d.names.length cu1), (.slice U2 d.quotas.length cu2), (.slice U3 d.vaults.length cu3), vl, rfl, ⟨hz.n0, hz.n1, hz.n2, hz.n3, hz.n4⟩, HKF.out.trans kz (fun x e => .inl (by show B ≤ x; omega))⟩

set_option maxHeartbeats 4000000 in
set_option maxRecDepth 100000 in
theorem rdecl_seed {w : World} {B : Nat} {d : SetD} {nm qs vs : Value} {vl : List (VaultD × Option Addr × Nat)} (hr : RowsAt w B d nm qs vs vl) (hBw : B ≤ w.heap.size) (ab ao cA : Nat) (a0 : List UInt8) (hA : StrsAt w (some ⟨ab, ao, none⟩) [a0]) (_hab : ab < B) (_hs : ∀ a ∈ [a0], a.length ≤ 65536) :
    Calls Tryz.prog 52 #[.agg (d.cells nm qs vs), .agg #[.string (ba [115, 101, 101, 100]), .slice (some ⟨ab, ao, none⟩) 1 cA]] w (DeclPost (decl d [115, 101, 101, 100] [a0]) B w) := by
  obtain ⟨U3, cu3, rfl, _, _⟩ := own_form hr.n3
  have hi := decl_wrap (decl_slen hr)
  obtain ⟨U1, cu1, rfl, _, _⟩ := own_form hr.n1
  obtain ⟨U2, cu2, rfl, _, _⟩ := own_form hr.n2
  have HDC := Lib.hid (decl_seed d a0)
  have bp := ((Blk.new w 63 #[.slice U1 d.names.length cu1, .slice U2 d.quotas.length cu2, .slice U3 d.vaults.length cu3, .int .i64 d.quorum, .string (ba d.seed), .int .i64 d.bits, .int .i64 d.height, .int .i64 d.sectors, .int .i64 d.size, .int .i64 d.day, .int .i64 d.leap, .int .i64 d.agree]).alloc (.cells #[.string (ba [115, 101, 101, 100]), .slice (some ⟨ab, ao, none⟩) 1 cA] 39)).alloc (.cells #[.slice none 0 0, .slice none 0 0, .slice none 0 0, .int .i64 0, .string ⟨#[]⟩, .int .i64 0, .int .i64 0, .int .i64 0, .int .i64 0, .int .i64 0, .int .i64 0, .int .i64 0] 63)
  have bs := at_size (b := w.heap.size + 1) (by simp) ((Blk.new (w.alloc (.cells #[.slice U1 d.names.length cu1, .slice U2 d.quotas.length cu2, .slice U3 d.vaults.length cu3, .int .i64 d.quorum, .string (ba d.seed), .int .i64 d.bits, .int .i64 d.height, .int .i64 d.sectors, .int .i64 d.size, .int .i64 d.day, .int .i64 d.leap, .int .i64 d.agree] 63)) 39 #[.string (ba [115, 101, 101, 100]), .slice (some ⟨ab, ao, none⟩) 1 cA]).alloc (.cells #[.slice none 0 0, .slice none 0 0, .slice none 0 0, .int .i64 0, .string ⟨#[]⟩, .int .i64 0, .int .i64 0, .int .i64 0, .int .i64 0, .int .i64 0, .int .i64 0, .int .i64 0] 63))
  have bq := at_size (b := w.heap.size + 1 + 1) (by simp) (Blk.new ((w.alloc (.cells #[.slice U1 d.names.length cu1, .slice U2 d.quotas.length cu2, .slice U3 d.vaults.length cu3, .int .i64 d.quorum, .string (ba d.seed), .int .i64 d.bits, .int .i64 d.height, .int .i64 d.sectors, .int .i64 d.size, .int .i64 d.day, .int .i64 d.leap, .int .i64 d.agree] 63)).alloc (.cells #[.string (ba [115, 101, 101, 100]), .slice (some ⟨ab, ao, none⟩) 1 cA] 39)) 63 #[.slice none 0 0, .slice none 0 0, .slice none 0 0, .int .i64 0, .string ⟨#[]⟩, .int .i64 0, .int .i64 0, .int .i64 0, .int .i64 0, .int .i64 0, .int .i64 0, .int .i64 0])
  have kw0 := (((Kept.refl NoF w).alloc (.cells #[.slice U1 d.names.length cu1, .slice U2 d.quotas.length cu2, .slice U3 d.vaults.length cu3, .int .i64 d.quorum, .string (ba d.seed), .int .i64 d.bits, .int .i64 d.height, .int .i64 d.sectors, .int .i64 d.size, .int .i64 d.day, .int .i64 d.leap, .int .i64 d.agree] 63)).alloc (.cells #[.string (ba [115, 101, 101, 100]), .slice (some ⟨ab, ao, none⟩) 1 cA] 39)).alloc (.cells #[.slice none 0 0, .slice none 0 0, .slice none 0 0, .int .i64 0, .string ⟨#[]⟩, .int .i64 0, .int .i64 0, .int .i64 0, .int .i64 0, .int .i64 0, .int .i64 0, .int .i64 0] 63)
  show Calls Tryz.prog 52 #[.agg #[.slice U1 d.names.length cu1, .slice U2 d.quotas.length cu2, .slice U3 d.vaults.length cu3, .int .i64 d.quorum, .string (ba d.seed), .int .i64 d.bits, .int .i64 d.height, .int .i64 d.sectors, .int .i64 d.size, .int .i64 d.day, .int .i64 d.leap, .int .i64 d.agree], .agg #[.string (ba [115, 101, 101, 100]), .slice (some ⟨ab, ao, none⟩) 1 cA]] w _
  go_enter Tryz.func52, Tryz.ntmps52
  go_upto_region 1 with fail
  generalize ((w.alloc (.cells #[.slice U1 d.names.length cu1, .slice U2 d.quotas.length cu2, .slice U3 d.vaults.length cu3, .int .i64 d.quorum, .string (ba d.seed), .int .i64 d.bits, .int .i64 d.height, .int .i64 d.sectors, .int .i64 d.size, .int .i64 d.day, .int .i64 d.leap, .int .i64 d.agree] 63)).alloc (.cells #[.string (ba [115, 101, 101, 100]), .slice (some ⟨ab, ao, none⟩) 1 cA] 39)).alloc (.cells #[.slice none 0 0, .slice none 0 0, .slice none 0 0, .int .i64 0, .string ⟨#[]⟩, .int .i64 0, .int .i64 0, .int .i64 0, .int .i64 0, .int .i64 0, .int .i64 0, .int .i64 0] 63) = w0 at bp bs bq kw0 ⊢
  have hBp := hBw
  generalize hqb : w.heap.size + 1 + 1 = qb at bq ⊢
  generalize hsb : w.heap.size + 1 = sb at bs ⊢
  generalize hpb : w.heap.size = pb at bp hBp ⊢
  have hpw : w.heap.size ≤ pb ∧ pb < sb ∧ sb < qb := by omega
  clear hpb hsb hqb
  obtain ⟨hpw, hps, hsq⟩ := hpw
  have e2 := (bp.cell 2).trans (show _ = some (.slice U3 d.vaults.length cu3) from rfl)
  have s0 := (bs.cell 0).trans (show _ = some (.string (ba [115, 101, 101, 100])) from rfl)
  have s1 := (bs.cell 1).trans (show _ = some (.slice (some ⟨ab, ao, none⟩) 1 cA) from rfl)
  have q_device : ((ba [115, 101, 101, 100]).toList == [100, 101, 118, 105, 99, 101]) = false := by rw [cmp_ba]; decide
  have q_vault : ((ba [115, 101, 101, 100]).toList == [118, 97, 117, 108, 116]) = false := by rw [cmp_ba]; decide
  have q_cutting : ((ba [115, 101, 101, 100]).toList == [99, 117, 116, 116, 105, 110, 103]) = false := by rw [cmp_ba]; decide
  have q_rules : ((ba [115, 101, 101, 100]).toList == [114, 117, 108, 101, 115]) = false := by rw [cmp_ba]; decide
  have q_quorum : ((ba [115, 101, 101, 100]).toList == [113, 117, 111, 114, 117, 109]) = false := by rw [cmp_ba]; decide
  have q_seed : ((ba [115, 101, 101, 100]).toList == [115, 101, 101, 100]) = true := by rw [cmp_ba]; decide
  have cx0 : w0.cell? ⟨ab, ao, none⟩ = some (.string (ba a0)) := kw0.cell (hA.cell_ (k := 0) (by simp)) (fun h => h)
  clear hA
  go_upto_region 15 with fail
  have awq := hr.away (p := qb) (by omega)
  have bp1 := bp
  have bq1 := bq
  have kw1 := kw0
  have z1 : ∀ i, w0.frozen? ⟨pb, i, none⟩ = false := fun i => bp1.frozen i
  have g4 := (bp1.cell 4).trans (show _ = some (.string (ba d.seed)) from rfl)
  have bf := (Blk.set_ bp1 4 (.string (ba a0)))
  have bqf := (Blk.far bq1 (p := ⟨pb, 4, none⟩) (by show qb ≠ pb; omega) (.string (ba a0)))
  have kN := Kept.trans kw1 (Kept.setCell (p := ⟨pb, 4, none⟩) (Kept.refl (fun b => b = pb) w0) (.inl rfl) (.string (ba a0))) (fun x e => .inr (by show w.heap.size ≤ x; omega))
  have hrf0 := hr.same kN
  have hrf : RowsAt (w0.setCell ⟨pb, 4, none⟩ (.string (ba a0))) B { d with seed := a0 } (.slice U1 d.names.length cu1) (.slice U2 d.quotas.length cu2) (.slice U3 d.vaults.length cu3) vl := ⟨hrf0.n0, hrf0.n1, hrf0.n2, hrf0.n3, hrf0.n4⟩
  have kf : Kept (fun k => B ≤ k) w (w0.setCell ⟨pb, 4, none⟩ (.string (ba a0))) := kN.below_mono
  clear kN hrf0
  go_upto_region 22 with fail
  generalize (w0.setCell ⟨pb, 4, none⟩ (.string (ba a0))) = Wf at bf bqf hrf kf ⊢
  have zr : ∀ i, Wf.frozen? ⟨qb, i, none⟩ = false := fun i => bqf.frozen i
  have f0 := (bf.cell 0).trans (show _ = some (.slice U1 d.names.length cu1) from rfl)
  have f1 := (bf.cell 1).trans (show _ = some (.slice U2 d.quotas.length cu2) from rfl)
  have f2 := (bf.cell 2).trans (show _ = some (.slice U3 d.vaults.length cu3) from rfl)
  have f3 := (bf.cell 3).trans (show _ = some (.int .i64 d.quorum) from rfl)
  have f4 := (bf.cell 4).trans (show _ = some (.string (ba a0)) from rfl)
  have f5 := (bf.cell 5).trans (show _ = some (.int .i64 d.bits) from rfl)
  have f6 := (bf.cell 6).trans (show _ = some (.int .i64 d.height) from rfl)
  have f7 := (bf.cell 7).trans (show _ = some (.int .i64 d.sectors) from rfl)
  have f8 := (bf.cell 8).trans (show _ = some (.int .i64 d.size) from rfl)
  have f9 := (bf.cell 9).trans (show _ = some (.int .i64 d.day) from rfl)
  have f10 := (bf.cell 10).trans (show _ = some (.int .i64 d.leap) from rfl)
  have f11 := (bf.cell 11).trans (show _ = some (.int .i64 d.agree) from rfl)
  have r0 := (bqf.cell 0).trans (show _ = some (.slice none 0 0) from rfl)
  have r1 := (bqf.cell 1).trans (show _ = some (.slice none 0 0) from rfl)
  have r2 := (bqf.cell 2).trans (show _ = some (.slice none 0 0) from rfl)
  have r3 := (bqf.cell 3).trans (show _ = some (.int .i64 0) from rfl)
  have r4 := (bqf.cell 4).trans (show _ = some (.string ⟨#[]⟩) from rfl)
  have r5 := (bqf.cell 5).trans (show _ = some (.int .i64 0) from rfl)
  have r6 := (bqf.cell 6).trans (show _ = some (.int .i64 0) from rfl)
  have r7 := (bqf.cell 7).trans (show _ = some (.int .i64 0) from rfl)
  have r8 := (bqf.cell 8).trans (show _ = some (.int .i64 0) from rfl)
  have r9 := (bqf.cell 9).trans (show _ = some (.int .i64 0) from rfl)
  have r10 := (bqf.cell 10).trans (show _ = some (.int .i64 0) from rfl)
  have r11 := (bqf.cell 11).trans (show _ = some (.int .i64 0) from rfl)
  have HBQ := Lib.hid (show Blk Wf qb 63 (setZ.cells (.slice none 0 0) (.slice none 0 0) (.slice none 0 0)) from bqf)
  have HRF := Lib.hid hrf
  have HKF := Lib.hid kf
  have HAW := Lib.hid awq
  clear bf bqf hrf kf awq
  go_wp2_with fail
  have hbz := rblk_puts HBQ.out (rsetList { d with seed := a0 } (.slice U1 d.names.length cu1) (.slice U2 d.quotas.length cu2) (.slice U3 d.vaults.length cu3))
  have kz := rkept_puts0 (Kept.refl (fun b => b = qb) Wf) qb rfl (rsetList { d with seed := a0 } (.slice U1 d.names.length cu1) (.slice U2 d.quotas.length cu2) (.slice U3 d.vaults.length cu3))
  have hz := RowsAt.boxed HRF.out kz HBQ.out HAW.out
  rw [rsetList_cells] at hbz
  simp only [rsetList, List.foldl_cons, List.foldl_nil] at hbz kz hz
  refine bodyPost_ret (results_decl (cs := SetD.cells { d with seed := a0 } (.slice U1 d.names.length cu1) (.slice U2 d.quotas.length cu2) (.slice U3 d.vaults.length cu3)) rfl rfl hbz) rfl ?_
  rw [HDC.out]
  exact ⟨(.slice U1 d.names.length cu1), (.slice U2 d.quotas.length cu2), (.slice U3 d.vaults.length cu3), vl, rfl, ⟨hz.n0, hz.n1, hz.n2, hz.n3, hz.n4⟩, HKF.out.trans kz (fun x e => .inl (by show B ≤ x; omega))⟩

set_option maxHeartbeats 4000000 in
set_option maxRecDepth 100000 in
theorem rdecl_scheme {w : World} {B : Nat} {d : SetD} {nm qs vs : Value} {vl : List (VaultD × Option Addr × Nat)} (hr : RowsAt w B d nm qs vs vl) (hBw : B ≤ w.heap.size) (ab ao cA : Nat) (a0 a1 : List UInt8) (hA : StrsAt w (some ⟨ab, ao, none⟩) [a0, a1]) (hab : ab < B) (hs : ∀ a ∈ [a0, a1], a.length ≤ 65536) :
    Calls Tryz.prog 52 #[.agg (d.cells nm qs vs), .agg #[.string (ba [115, 99, 104, 101, 109, 101]), .slice (some ⟨ab, ao, none⟩) 2 cA]] w (DeclPost (decl d [115, 99, 104, 101, 109, 101] [a0, a1]) B w) := by
  obtain ⟨U3, cu3, rfl, _, _⟩ := own_form hr.n3
  have hi := decl_wrap (decl_slen hr)
  obtain ⟨U1, cu1, rfl, _, _⟩ := own_form hr.n1
  obtain ⟨U2, cu2, rfl, _, _⟩ := own_form hr.n2
  have HDC := Lib.hid (decl_scheme d a0 a1)
  have CN0 := Lib.hid (fun (W : World) (k : Kept (fun b => B ≤ b) w W) => (show Calls Tryz.prog 47 #[.agg #[.string (ba [115, 99, 104, 101, 109, 101]), .slice (some ⟨ab, ao, none⟩) 2 cA], .int .i64 0] W fun e W' => e = .returned (.int .i64 (nv a0)) ∧ Kept NoF W W' from
    (rnumber_any (ba [115, 99, 104, 101, 109, 101]) (some ⟨ab, ao, none⟩) cA [a0, a1] W (k.src hA (fun ad e _ hf => by cases e; exact absurd hf (by show ¬ B ≤ ab; omega))) 0 (by simp) (fun a ha => by have := hs a ha; omega)).mono (fun e W' h => ⟨h.1, Kept.of_below h.2⟩)))
  have CN1 := Lib.hid (fun (W : World) (k : Kept (fun b => B ≤ b) w W) => (show Calls Tryz.prog 47 #[.agg #[.string (ba [115, 99, 104, 101, 109, 101]), .slice (some ⟨ab, ao, none⟩) 2 cA], .int .i64 1] W fun e W' => e = .returned (.int .i64 (nv a1)) ∧ Kept NoF W W' from
    (rnumber_any (ba [115, 99, 104, 101, 109, 101]) (some ⟨ab, ao, none⟩) cA [a0, a1] W (k.src hA (fun ad e _ hf => by cases e; exact absurd hf (by show ¬ B ≤ ab; omega))) 1 (by simp) (fun a ha => by have := hs a ha; omega)).mono (fun e W' h => ⟨h.1, Kept.of_below h.2⟩)))
  have bp := ((Blk.new w 63 #[.slice U1 d.names.length cu1, .slice U2 d.quotas.length cu2, .slice U3 d.vaults.length cu3, .int .i64 d.quorum, .string (ba d.seed), .int .i64 d.bits, .int .i64 d.height, .int .i64 d.sectors, .int .i64 d.size, .int .i64 d.day, .int .i64 d.leap, .int .i64 d.agree]).alloc (.cells #[.string (ba [115, 99, 104, 101, 109, 101]), .slice (some ⟨ab, ao, none⟩) 2 cA] 39)).alloc (.cells #[.slice none 0 0, .slice none 0 0, .slice none 0 0, .int .i64 0, .string ⟨#[]⟩, .int .i64 0, .int .i64 0, .int .i64 0, .int .i64 0, .int .i64 0, .int .i64 0, .int .i64 0] 63)
  have bs := at_size (b := w.heap.size + 1) (by simp) ((Blk.new (w.alloc (.cells #[.slice U1 d.names.length cu1, .slice U2 d.quotas.length cu2, .slice U3 d.vaults.length cu3, .int .i64 d.quorum, .string (ba d.seed), .int .i64 d.bits, .int .i64 d.height, .int .i64 d.sectors, .int .i64 d.size, .int .i64 d.day, .int .i64 d.leap, .int .i64 d.agree] 63)) 39 #[.string (ba [115, 99, 104, 101, 109, 101]), .slice (some ⟨ab, ao, none⟩) 2 cA]).alloc (.cells #[.slice none 0 0, .slice none 0 0, .slice none 0 0, .int .i64 0, .string ⟨#[]⟩, .int .i64 0, .int .i64 0, .int .i64 0, .int .i64 0, .int .i64 0, .int .i64 0, .int .i64 0] 63))
  have bq := at_size (b := w.heap.size + 1 + 1) (by simp) (Blk.new ((w.alloc (.cells #[.slice U1 d.names.length cu1, .slice U2 d.quotas.length cu2, .slice U3 d.vaults.length cu3, .int .i64 d.quorum, .string (ba d.seed), .int .i64 d.bits, .int .i64 d.height, .int .i64 d.sectors, .int .i64 d.size, .int .i64 d.day, .int .i64 d.leap, .int .i64 d.agree] 63)).alloc (.cells #[.string (ba [115, 99, 104, 101, 109, 101]), .slice (some ⟨ab, ao, none⟩) 2 cA] 39)) 63 #[.slice none 0 0, .slice none 0 0, .slice none 0 0, .int .i64 0, .string ⟨#[]⟩, .int .i64 0, .int .i64 0, .int .i64 0, .int .i64 0, .int .i64 0, .int .i64 0, .int .i64 0])
  have kw0 := (((Kept.refl NoF w).alloc (.cells #[.slice U1 d.names.length cu1, .slice U2 d.quotas.length cu2, .slice U3 d.vaults.length cu3, .int .i64 d.quorum, .string (ba d.seed), .int .i64 d.bits, .int .i64 d.height, .int .i64 d.sectors, .int .i64 d.size, .int .i64 d.day, .int .i64 d.leap, .int .i64 d.agree] 63)).alloc (.cells #[.string (ba [115, 99, 104, 101, 109, 101]), .slice (some ⟨ab, ao, none⟩) 2 cA] 39)).alloc (.cells #[.slice none 0 0, .slice none 0 0, .slice none 0 0, .int .i64 0, .string ⟨#[]⟩, .int .i64 0, .int .i64 0, .int .i64 0, .int .i64 0, .int .i64 0, .int .i64 0, .int .i64 0] 63)
  show Calls Tryz.prog 52 #[.agg #[.slice U1 d.names.length cu1, .slice U2 d.quotas.length cu2, .slice U3 d.vaults.length cu3, .int .i64 d.quorum, .string (ba d.seed), .int .i64 d.bits, .int .i64 d.height, .int .i64 d.sectors, .int .i64 d.size, .int .i64 d.day, .int .i64 d.leap, .int .i64 d.agree], .agg #[.string (ba [115, 99, 104, 101, 109, 101]), .slice (some ⟨ab, ao, none⟩) 2 cA]] w _
  go_enter Tryz.func52, Tryz.ntmps52
  go_upto_region 1 with fail
  generalize ((w.alloc (.cells #[.slice U1 d.names.length cu1, .slice U2 d.quotas.length cu2, .slice U3 d.vaults.length cu3, .int .i64 d.quorum, .string (ba d.seed), .int .i64 d.bits, .int .i64 d.height, .int .i64 d.sectors, .int .i64 d.size, .int .i64 d.day, .int .i64 d.leap, .int .i64 d.agree] 63)).alloc (.cells #[.string (ba [115, 99, 104, 101, 109, 101]), .slice (some ⟨ab, ao, none⟩) 2 cA] 39)).alloc (.cells #[.slice none 0 0, .slice none 0 0, .slice none 0 0, .int .i64 0, .string ⟨#[]⟩, .int .i64 0, .int .i64 0, .int .i64 0, .int .i64 0, .int .i64 0, .int .i64 0, .int .i64 0] 63) = w0 at bp bs bq kw0 ⊢
  have hBp := hBw
  generalize hqb : w.heap.size + 1 + 1 = qb at bq ⊢
  generalize hsb : w.heap.size + 1 = sb at bs ⊢
  generalize hpb : w.heap.size = pb at bp hBp ⊢
  have hpw : w.heap.size ≤ pb ∧ pb < sb ∧ sb < qb := by omega
  clear hpb hsb hqb
  obtain ⟨hpw, hps, hsq⟩ := hpw
  have e2 := (bp.cell 2).trans (show _ = some (.slice U3 d.vaults.length cu3) from rfl)
  have s0 := (bs.cell 0).trans (show _ = some (.string (ba [115, 99, 104, 101, 109, 101])) from rfl)
  have s1 := (bs.cell 1).trans (show _ = some (.slice (some ⟨ab, ao, none⟩) 2 cA) from rfl)
  have q_device : ((ba [115, 99, 104, 101, 109, 101]).toList == [100, 101, 118, 105, 99, 101]) = false := by rw [cmp_ba]; decide
  have q_vault : ((ba [115, 99, 104, 101, 109, 101]).toList == [118, 97, 117, 108, 116]) = false := by rw [cmp_ba]; decide
  have q_cutting : ((ba [115, 99, 104, 101, 109, 101]).toList == [99, 117, 116, 116, 105, 110, 103]) = false := by rw [cmp_ba]; decide
  have q_rules : ((ba [115, 99, 104, 101, 109, 101]).toList == [114, 117, 108, 101, 115]) = false := by rw [cmp_ba]; decide
  have q_quorum : ((ba [115, 99, 104, 101, 109, 101]).toList == [113, 117, 111, 114, 117, 109]) = false := by rw [cmp_ba]; decide
  have q_seed : ((ba [115, 99, 104, 101, 109, 101]).toList == [115, 101, 101, 100]) = false := by rw [cmp_ba]; decide
  have q_scheme : ((ba [115, 99, 104, 101, 109, 101]).toList == [115, 99, 104, 101, 109, 101]) = true := by rw [cmp_ba]; decide
  clear hA hs
  go_upto_region 17 with fail
  have awq := hr.away (p := qb) (by omega)
  have SA := Lib.hid (fun (W : World) (k : Kept (fun b => b = pb) w0 W) => (⟨k.cell s0 (by show ¬ sb = pb; omega), k.cell s1 (by show ¬ sb = pb; omega)⟩ : (fun (w' : World) => w'.cell? ⟨sb, 0, none⟩ = some (.string (ba [115, 99, 104, 101, 109, 101])) ∧ w'.cell? ⟨sb, 1, none⟩ = some (.slice (some ⟨ab, ao, none⟩) 2 cA)) W))
  have kd := (Kept.refl NoF w0).drew
  have bp0 := kd.blk bp (fun h => h)
  have bq0 := kd.blk bq (fun h => h)
  have kww0 := kw0.trans kd (fun _ h => .inl h)
  have kx0 := kd.mono (G := fun b => b = pb) (fun _ h => h.elim)
  refine wp_region_noPanic ?_
  refine wp_region_held_drew (S := (fun (w' : World) => w'.cell? ⟨sb, 0, none⟩ = some (.string (ba [115, 99, 104, 101, 109, 101])) ∧ w'.cell? ⟨sb, 1, none⟩ = some (.slice (some ⟨ab, ao, none⟩) 2 cA))) (by kernel_rfl) ?_ (fun hHeld => ?_)
  · exact SA.out _ kx0
  refine wpAnyH_take (i := 0) (v := ?_) rfl (by kernel_rfl) (by kernel_rfl) (by kernel_rfl) (fun _ _ _ h => h) (Or.inl ⟨by rfl, ?_⟩) hHeld ?_
  rotate_left
  · (intro w hSw; (try dsimp only at hSw); go_simp; try (with_reducible rfl))
  simp only [Act.put, List.getElem_toArray, List.getElem_cons_zero, List.setIfInBounds_toArray, List.set_cons_zero, List.set_cons_succ]
  refine wpAnyH_take (i := 2) (v := ?_) rfl (by kernel_rfl) (by kernel_rfl) (by kernel_rfl) (fun _ _ _ h => h) (Or.inl ⟨by rfl, ?_⟩) hHeld ?_
  rotate_left
  · (intro w hSw; (try dsimp only at hSw); go_simp; try (with_reducible rfl))
  simp only [Act.put, List.getElem_toArray, List.getElem_cons_zero, List.getElem_cons_succ, List.setIfInBounds_toArray, List.set_cons_zero, List.set_cons_succ]
  refine wpAnyH_ready (rs := [1]) (by kernel_rfl) (by simp) ?_
  refine AllReadyH.cons rfl (fun K hK => ?_) AllReadyH.nil
  go_simp
  refine (CN0.out _ kww0.below_mono).mono ?_
  rintro e w1 ⟨rfl, kc1⟩
  have bp1 := kc1.blk bp0 (fun h => h)
  have bq1 := kc1.blk bq0 (fun h => h)
  have kww1 := kww0.trans kc1 (fun _ h => .inl h)
  have kx1 := kx0.trans kc1 (fun _ h => h.elim)
  go_wp2_with fail
  refine hK.out _ _ (SA.out _ kx1) (fun hHeld => ?_)
  clear hK K
  try simp only [Act.put, List.getElem_toArray, List.getElem_cons_zero, List.getElem_cons_succ, List.setIfInBounds_toArray, List.set_cons_zero, List.set_cons_succ]
  refine wpAnyH_ready (rs := [3]) (by kernel_rfl) (by simp) ?_
  refine AllReadyH.cons rfl (fun K hK => ?_) AllReadyH.nil
  go_simp
  refine (CN1.out _ kww1.below_mono).mono ?_
  rintro e w2 ⟨rfl, kc2⟩
  have bp2 := kc2.blk bp1 (fun h => h)
  have bq2 := kc2.blk bq1 (fun h => h)
  have kww2 := kww1.trans kc2 (fun _ h => .inl h)
  have kx2 := kx1.trans kc2 (fun _ h => h.elim)
  have z2 : ∀ i, w2.frozen? ⟨pb, i, none⟩ = false := fun i => bp2.frozen i
  have g5 := (bp2.cell 5).trans (show _ = some (.int .i64 d.bits) from rfl)
  have g6 := (bp2.cell 6).trans (show _ = some (.int .i64 d.height) from rfl)
  go_wp2_with fail
  refine hK.out _ _ (SA.out _ kx2) (fun hHeld => ?_)
  clear hK K
  try simp only [Act.put, List.getElem_toArray, List.getElem_cons_zero, List.getElem_cons_succ, List.setIfInBounds_toArray, List.set_cons_zero, List.set_cons_succ]
  refine wpAnyH_take (i := 4) (v := ?_) rfl (by kernel_rfl) (by kernel_rfl) (by kernel_rfl) (fun _ _ _ h => h) (Or.inl ⟨by rfl, ?_⟩) hHeld ?_
  rotate_left
  · (intro w hSw; (try dsimp only at hSw); go_simp; try (with_reducible rfl))
  simp only [Act.put, List.getElem_toArray, List.getElem_cons_zero, List.getElem_cons_succ, List.setIfInBounds_toArray, List.set_cons_zero, List.set_cons_succ]
  refine wpAnyH_take (i := 5) (v := ?_) rfl (by kernel_rfl) (by kernel_rfl) (by kernel_rfl) (fun _ _ _ h => h) (Or.inl ⟨by rfl, ?_⟩) hHeld ?_
  rotate_left
  · (intro w hSw; (try dsimp only at hSw); go_simp; try (with_reducible rfl))
  simp only [Act.put, List.getElem_toArray, List.getElem_cons_zero, List.getElem_cons_succ, List.setIfInBounds_toArray, List.set_cons_zero, List.set_cons_succ]
  refine wpAnyH_ready (rs := [6]) (by kernel_rfl) (by simp) ?_
  refine AllReadyH.cons rfl (fun K hK => ?_) AllReadyH.nil
  go_simp
  refine hK.out _ _ (SA.out _ (Kept.setCell (p := ⟨pb, 6, none⟩) (Kept.setCell (p := ⟨pb, 5, none⟩) kx2 (.inl rfl) (.int .i64 (nv a0))) (.inl rfl) (.int .i64 (nv a1)))) (fun hHeld => ?_)
  clear hK K
  try simp only [Act.put, List.getElem_toArray, List.getElem_cons_zero, List.getElem_cons_succ, List.setIfInBounds_toArray, List.set_cons_zero, List.set_cons_succ]
  refine wpAnyH_done (by kernel_rfl) ?_ _
  refine NoPanic.normal ?_
  have bf := (Blk.set_ (Blk.set_ bp2 5 (.int .i64 (nv a0))) 6 (.int .i64 (nv a1)))
  have bqf := (Blk.far (Blk.far bq2 (p := ⟨pb, 5, none⟩) (by show qb ≠ pb; omega) (.int .i64 (nv a0))) (p := ⟨pb, 6, none⟩) (by show qb ≠ pb; omega) (.int .i64 (nv a1)))
  have kN := Kept.trans kww2 (Kept.setCell (p := ⟨pb, 6, none⟩) (Kept.setCell (p := ⟨pb, 5, none⟩) (Kept.refl (fun b => b = pb) w2) (.inl rfl) (.int .i64 (nv a0))) (.inl rfl) (.int .i64 (nv a1))) (fun x e => .inr (by show w.heap.size ≤ x; omega))
  have hrf0 := hr.same kN
  have hrf : RowsAt ((w2.setCell ⟨pb, 5, none⟩ (.int .i64 (nv a0))).setCell ⟨pb, 6, none⟩ (.int .i64 (nv a1))) B { d with bits := (nv a0), height := (nv a1) } (.slice U1 d.names.length cu1) (.slice U2 d.quotas.length cu2) (.slice U3 d.vaults.length cu3) vl := ⟨hrf0.n0, hrf0.n1, hrf0.n2, hrf0.n3, hrf0.n4⟩
  have kf : Kept (fun k => B ≤ k) w ((w2.setCell ⟨pb, 5, none⟩ (.int .i64 (nv a0))).setCell ⟨pb, 6, none⟩ (.int .i64 (nv a1))) := kN.below_mono
  clear kN hrf0
  go_upto_region 22 with fail
  generalize ((w2.setCell ⟨pb, 5, none⟩ (.int .i64 (nv a0))).setCell ⟨pb, 6, none⟩ (.int .i64 (nv a1))) = Wf at bf bqf hrf kf ⊢
  have zr : ∀ i, Wf.frozen? ⟨qb, i, none⟩ = false := fun i => bqf.frozen i
  have f0 := (bf.cell 0).trans (show _ = some (.slice U1 d.names.length cu1) from rfl)
  have f1 := (bf.cell 1).trans (show _ = some (.slice U2 d.quotas.length cu2) from rfl)
  have f2 := (bf.cell 2).trans (show _ = some (.slice U3 d.vaults.length cu3) from rfl)
  have f3 := (bf.cell 3).trans (show _ = some (.int .i64 d.quorum) from rfl)
  have f4 := (bf.cell 4).trans (show _ = some (.string (ba d.seed)) from rfl)
  have f5 := (bf.cell 5).trans (show _ = some (.int .i64 (nv a0)) from rfl)
  have f6 := (bf.cell 6).trans (show _ = some (.int .i64 (nv a1)) from rfl)
  have f7 := (bf.cell 7).trans (show _ = some (.int .i64 d.sectors) from rfl)
  have f8 := (bf.cell 8).trans (show _ = some (.int .i64 d.size) from rfl)
  have f9 := (bf.cell 9).trans (show _ = some (.int .i64 d.day) from rfl)
  have f10 := (bf.cell 10).trans (show _ = some (.int .i64 d.leap) from rfl)
  have f11 := (bf.cell 11).trans (show _ = some (.int .i64 d.agree) from rfl)
  have r0 := (bqf.cell 0).trans (show _ = some (.slice none 0 0) from rfl)
  have r1 := (bqf.cell 1).trans (show _ = some (.slice none 0 0) from rfl)
  have r2 := (bqf.cell 2).trans (show _ = some (.slice none 0 0) from rfl)
  have r3 := (bqf.cell 3).trans (show _ = some (.int .i64 0) from rfl)
  have r4 := (bqf.cell 4).trans (show _ = some (.string ⟨#[]⟩) from rfl)
  have r5 := (bqf.cell 5).trans (show _ = some (.int .i64 0) from rfl)
  have r6 := (bqf.cell 6).trans (show _ = some (.int .i64 0) from rfl)
  have r7 := (bqf.cell 7).trans (show _ = some (.int .i64 0) from rfl)
  have r8 := (bqf.cell 8).trans (show _ = some (.int .i64 0) from rfl)
  have r9 := (bqf.cell 9).trans (show _ = some (.int .i64 0) from rfl)
  have r10 := (bqf.cell 10).trans (show _ = some (.int .i64 0) from rfl)
  have r11 := (bqf.cell 11).trans (show _ = some (.int .i64 0) from rfl)
  have HBQ := Lib.hid (show Blk Wf qb 63 (setZ.cells (.slice none 0 0) (.slice none 0 0) (.slice none 0 0)) from bqf)
  have HRF := Lib.hid hrf
  have HKF := Lib.hid kf
  have HAW := Lib.hid awq
  clear bf bqf hrf kf awq
  go_wp2_with fail
  have hbz := rblk_puts HBQ.out (rsetList { d with bits := (nv a0), height := (nv a1) } (.slice U1 d.names.length cu1) (.slice U2 d.quotas.length cu2) (.slice U3 d.vaults.length cu3))
  have kz := rkept_puts0 (Kept.refl (fun b => b = qb) Wf) qb rfl (rsetList { d with bits := (nv a0), height := (nv a1) } (.slice U1 d.names.length cu1) (.slice U2 d.quotas.length cu2) (.slice U3 d.vaults.length cu3))
  have hz := RowsAt.boxed HRF.out kz HBQ.out HAW.out
  rw [rsetList_cells] at hbz
  simp only [rsetList, List.foldl_cons, List.foldl_nil] at hbz kz hz
  refine bodyPost_ret (results_decl (cs := SetD.cells { d with bits := (nv a0), height := (nv a1) } (.slice U1 d.names.length cu1) (.slice U2 d.quotas.length cu2) (.slice U3 d.vaults.length cu3)) rfl rfl hbz) rfl ?_
  rw [HDC.out]
  exact ⟨(.slice U1 d.names.length cu1), (.slice U2 d.quotas.length cu2), (.slice U3 d.vaults.length cu3), vl, rfl, ⟨hz.n0, hz.n1, hz.n2, hz.n3, hz.n4⟩, HKF.out.trans kz (fun x e => .inl (by show B ≤ x; omega))⟩

set_option maxHeartbeats 4000000 in
set_option maxRecDepth 100000 in
theorem rdecl_disk {w : World} {B : Nat} {d : SetD} {nm qs vs : Value} {vl : List (VaultD × Option Addr × Nat)} (hr : RowsAt w B d nm qs vs vl) (hBw : B ≤ w.heap.size) (ab ao cA : Nat) (a0 a1 : List UInt8) (hA : StrsAt w (some ⟨ab, ao, none⟩) [a0, a1]) (hab : ab < B) (hs : ∀ a ∈ [a0, a1], a.length ≤ 65536) :
    Calls Tryz.prog 52 #[.agg (d.cells nm qs vs), .agg #[.string (ba [100, 105, 115, 107]), .slice (some ⟨ab, ao, none⟩) 2 cA]] w (DeclPost (decl d [100, 105, 115, 107] [a0, a1]) B w) := by
  obtain ⟨U3, cu3, rfl, _, _⟩ := own_form hr.n3
  have hi := decl_wrap (decl_slen hr)
  obtain ⟨U1, cu1, rfl, _, _⟩ := own_form hr.n1
  obtain ⟨U2, cu2, rfl, _, _⟩ := own_form hr.n2
  have HDC := Lib.hid (decl_disk d a0 a1)
  have CN0 := Lib.hid (fun (W : World) (k : Kept (fun b => B ≤ b) w W) => (show Calls Tryz.prog 47 #[.agg #[.string (ba [100, 105, 115, 107]), .slice (some ⟨ab, ao, none⟩) 2 cA], .int .i64 0] W fun e W' => e = .returned (.int .i64 (nv a0)) ∧ Kept NoF W W' from
    (rnumber_any (ba [100, 105, 115, 107]) (some ⟨ab, ao, none⟩) cA [a0, a1] W (k.src hA (fun ad e _ hf => by cases e; exact absurd hf (by show ¬ B ≤ ab; omega))) 0 (by simp) (fun a ha => by have := hs a ha; omega)).mono (fun e W' h => ⟨h.1, Kept.of_below h.2⟩)))
  have CN1 := Lib.hid (fun (W : World) (k : Kept (fun b => B ≤ b) w W) => (show Calls Tryz.prog 47 #[.agg #[.string (ba [100, 105, 115, 107]), .slice (some ⟨ab, ao, none⟩) 2 cA], .int .i64 1] W fun e W' => e = .returned (.int .i64 (nv a1)) ∧ Kept NoF W W' from
    (rnumber_any (ba [100, 105, 115, 107]) (some ⟨ab, ao, none⟩) cA [a0, a1] W (k.src hA (fun ad e _ hf => by cases e; exact absurd hf (by show ¬ B ≤ ab; omega))) 1 (by simp) (fun a ha => by have := hs a ha; omega)).mono (fun e W' h => ⟨h.1, Kept.of_below h.2⟩)))
  have bp := ((Blk.new w 63 #[.slice U1 d.names.length cu1, .slice U2 d.quotas.length cu2, .slice U3 d.vaults.length cu3, .int .i64 d.quorum, .string (ba d.seed), .int .i64 d.bits, .int .i64 d.height, .int .i64 d.sectors, .int .i64 d.size, .int .i64 d.day, .int .i64 d.leap, .int .i64 d.agree]).alloc (.cells #[.string (ba [100, 105, 115, 107]), .slice (some ⟨ab, ao, none⟩) 2 cA] 39)).alloc (.cells #[.slice none 0 0, .slice none 0 0, .slice none 0 0, .int .i64 0, .string ⟨#[]⟩, .int .i64 0, .int .i64 0, .int .i64 0, .int .i64 0, .int .i64 0, .int .i64 0, .int .i64 0] 63)
  have bs := at_size (b := w.heap.size + 1) (by simp) ((Blk.new (w.alloc (.cells #[.slice U1 d.names.length cu1, .slice U2 d.quotas.length cu2, .slice U3 d.vaults.length cu3, .int .i64 d.quorum, .string (ba d.seed), .int .i64 d.bits, .int .i64 d.height, .int .i64 d.sectors, .int .i64 d.size, .int .i64 d.day, .int .i64 d.leap, .int .i64 d.agree] 63)) 39 #[.string (ba [100, 105, 115, 107]), .slice (some ⟨ab, ao, none⟩) 2 cA]).alloc (.cells #[.slice none 0 0, .slice none 0 0, .slice none 0 0, .int .i64 0, .string ⟨#[]⟩, .int .i64 0, .int .i64 0, .int .i64 0, .int .i64 0, .int .i64 0, .int .i64 0, .int .i64 0] 63))
  have bq := at_size (b := w.heap.size + 1 + 1) (by simp) (Blk.new ((w.alloc (.cells #[.slice U1 d.names.length cu1, .slice U2 d.quotas.length cu2, .slice U3 d.vaults.length cu3, .int .i64 d.quorum, .string (ba d.seed), .int .i64 d.bits, .int .i64 d.height, .int .i64 d.sectors, .int .i64 d.size, .int .i64 d.day, .int .i64 d.leap, .int .i64 d.agree] 63)).alloc (.cells #[.string (ba [100, 105, 115, 107]), .slice (some ⟨ab, ao, none⟩) 2 cA] 39)) 63 #[.slice none 0 0, .slice none 0 0, .slice none 0 0, .int .i64 0, .string ⟨#[]⟩, .int .i64 0, .int .i64 0, .int .i64 0, .int .i64 0, .int .i64 0, .int .i64 0, .int .i64 0])
  have kw0 := (((Kept.refl NoF w).alloc (.cells #[.slice U1 d.names.length cu1, .slice U2 d.quotas.length cu2, .slice U3 d.vaults.length cu3, .int .i64 d.quorum, .string (ba d.seed), .int .i64 d.bits, .int .i64 d.height, .int .i64 d.sectors, .int .i64 d.size, .int .i64 d.day, .int .i64 d.leap, .int .i64 d.agree] 63)).alloc (.cells #[.string (ba [100, 105, 115, 107]), .slice (some ⟨ab, ao, none⟩) 2 cA] 39)).alloc (.cells #[.slice none 0 0, .slice none 0 0, .slice none 0 0, .int .i64 0, .string ⟨#[]⟩, .int .i64 0, .int .i64 0, .int .i64 0, .int .i64 0, .int .i64 0, .int .i64 0, .int .i64 0] 63)
  show Calls Tryz.prog 52 #[.agg #[.slice U1 d.names.length cu1, .slice U2 d.quotas.length cu2, .slice U3 d.vaults.length cu3, .int .i64 d.quorum, .string (ba d.seed), .int .i64 d.bits, .int .i64 d.height, .int .i64 d.sectors, .int .i64 d.size, .int .i64 d.day, .int .i64 d.leap, .int .i64 d.agree], .agg #[.string (ba [100, 105, 115, 107]), .slice (some ⟨ab, ao, none⟩) 2 cA]] w _
  go_enter Tryz.func52, Tryz.ntmps52
  go_upto_region 1 with fail
  generalize ((w.alloc (.cells #[.slice U1 d.names.length cu1, .slice U2 d.quotas.length cu2, .slice U3 d.vaults.length cu3, .int .i64 d.quorum, .string (ba d.seed), .int .i64 d.bits, .int .i64 d.height, .int .i64 d.sectors, .int .i64 d.size, .int .i64 d.day, .int .i64 d.leap, .int .i64 d.agree] 63)).alloc (.cells #[.string (ba [100, 105, 115, 107]), .slice (some ⟨ab, ao, none⟩) 2 cA] 39)).alloc (.cells #[.slice none 0 0, .slice none 0 0, .slice none 0 0, .int .i64 0, .string ⟨#[]⟩, .int .i64 0, .int .i64 0, .int .i64 0, .int .i64 0, .int .i64 0, .int .i64 0, .int .i64 0] 63) = w0 at bp bs bq kw0 ⊢
  have hBp := hBw
  generalize hqb : w.heap.size + 1 + 1 = qb at bq ⊢
  generalize hsb : w.heap.size + 1 = sb at bs ⊢
  generalize hpb : w.heap.size = pb at bp hBp ⊢
  have hpw : w.heap.size ≤ pb ∧ pb < sb ∧ sb < qb := by omega
  clear hpb hsb hqb
  obtain ⟨hpw, hps, hsq⟩ := hpw
  have e2 := (bp.cell 2).trans (show _ = some (.slice U3 d.vaults.length cu3) from rfl)
  have s0 := (bs.cell 0).trans (show _ = some (.string (ba [100, 105, 115, 107])) from rfl)
  have s1 := (bs.cell 1).trans (show _ = some (.slice (some ⟨ab, ao, none⟩) 2 cA) from rfl)
  have q_device : ((ba [100, 105, 115, 107]).toList == [100, 101, 118, 105, 99, 101]) = false := by rw [cmp_ba]; decide
  have q_vault : ((ba [100, 105, 115, 107]).toList == [118, 97, 117, 108, 116]) = false := by rw [cmp_ba]; decide
  have q_cutting : ((ba [100, 105, 115, 107]).toList == [99, 117, 116, 116, 105, 110, 103]) = false := by rw [cmp_ba]; decide
  have q_rules : ((ba [100, 105, 115, 107]).toList == [114, 117, 108, 101, 115]) = false := by rw [cmp_ba]; decide
  have q_quorum : ((ba [100, 105, 115, 107]).toList == [113, 117, 111, 114, 117, 109]) = false := by rw [cmp_ba]; decide
  have q_seed : ((ba [100, 105, 115, 107]).toList == [115, 101, 101, 100]) = false := by rw [cmp_ba]; decide
  have q_scheme : ((ba [100, 105, 115, 107]).toList == [115, 99, 104, 101, 109, 101]) = false := by rw [cmp_ba]; decide
  have q_disk : ((ba [100, 105, 115, 107]).toList == [100, 105, 115, 107]) = true := by rw [cmp_ba]; decide
  clear hA hs
  go_upto_region 19 with fail
  have awq := hr.away (p := qb) (by omega)
  have SA := Lib.hid (fun (W : World) (k : Kept (fun b => b = pb) w0 W) => (⟨k.cell s0 (by show ¬ sb = pb; omega), k.cell s1 (by show ¬ sb = pb; omega)⟩ : (fun (w' : World) => w'.cell? ⟨sb, 0, none⟩ = some (.string (ba [100, 105, 115, 107])) ∧ w'.cell? ⟨sb, 1, none⟩ = some (.slice (some ⟨ab, ao, none⟩) 2 cA)) W))
  have kd := (Kept.refl NoF w0).drew
  have bp0 := kd.blk bp (fun h => h)
  have bq0 := kd.blk bq (fun h => h)
  have kww0 := kw0.trans kd (fun _ h => .inl h)
  have kx0 := kd.mono (G := fun b => b = pb) (fun _ h => h.elim)
  refine wp_region_noPanic ?_
  refine wp_region_held_drew (S := (fun (w' : World) => w'.cell? ⟨sb, 0, none⟩ = some (.string (ba [100, 105, 115, 107])) ∧ w'.cell? ⟨sb, 1, none⟩ = some (.slice (some ⟨ab, ao, none⟩) 2 cA))) (by kernel_rfl) ?_ (fun hHeld => ?_)
  · exact SA.out _ kx0
  refine wpAnyH_take (i := 0) (v := ?_) rfl (by kernel_rfl) (by kernel_rfl) (by kernel_rfl) (fun _ _ _ h => h) (Or.inl ⟨by rfl, ?_⟩) hHeld ?_
  rotate_left
  · (intro w hSw; (try dsimp only at hSw); go_simp; try (with_reducible rfl))
  simp only [Act.put, List.getElem_toArray, List.getElem_cons_zero, List.setIfInBounds_toArray, List.set_cons_zero, List.set_cons_succ]
  refine wpAnyH_take (i := 2) (v := ?_) rfl (by kernel_rfl) (by kernel_rfl) (by kernel_rfl) (fun _ _ _ h => h) (Or.inl ⟨by rfl, ?_⟩) hHeld ?_
  rotate_left
  · (intro w hSw; (try dsimp only at hSw); go_simp; try (with_reducible rfl))
  simp only [Act.put, List.getElem_toArray, List.getElem_cons_zero, List.getElem_cons_succ, List.setIfInBounds_toArray, List.set_cons_zero, List.set_cons_succ]
  refine wpAnyH_ready (rs := [1]) (by kernel_rfl) (by simp) ?_
  refine AllReadyH.cons rfl (fun K hK => ?_) AllReadyH.nil
  go_simp
  refine (CN0.out _ kww0.below_mono).mono ?_
  rintro e w1 ⟨rfl, kc1⟩
  have bp1 := kc1.blk bp0 (fun h => h)
  have bq1 := kc1.blk bq0 (fun h => h)
  have kww1 := kww0.trans kc1 (fun _ h => .inl h)
  have kx1 := kx0.trans kc1 (fun _ h => h.elim)
  go_wp2_with fail
  refine hK.out _ _ (SA.out _ kx1) (fun hHeld => ?_)
  clear hK K
  try simp only [Act.put, List.getElem_toArray, List.getElem_cons_zero, List.getElem_cons_succ, List.setIfInBounds_toArray, List.set_cons_zero, List.set_cons_succ]
  refine wpAnyH_take (i := 4) (v := ?_) rfl (by kernel_rfl) (by kernel_rfl) (by kernel_rfl) (fun _ _ _ h => h) (Or.inl ⟨by rfl, ?_⟩) hHeld ?_
  rotate_left
  · (intro w hSw; (try dsimp only at hSw); go_simp; try (with_reducible rfl))
  simp only [Act.put, List.getElem_toArray, List.getElem_cons_zero, List.getElem_cons_succ, List.setIfInBounds_toArray, List.set_cons_zero, List.set_cons_succ]
  refine wpAnyH_ready (rs := [3]) (by kernel_rfl) (by simp) ?_
  refine AllReadyH.cons rfl (fun K hK => ?_) AllReadyH.nil
  go_simp
  refine (CN1.out _ kww1.below_mono).mono ?_
  rintro e w2 ⟨rfl, kc2⟩
  have bp2 := kc2.blk bp1 (fun h => h)
  have bq2 := kc2.blk bq1 (fun h => h)
  have kww2 := kww1.trans kc2 (fun _ h => .inl h)
  have kx2 := kx1.trans kc2 (fun _ h => h.elim)
  have z2 : ∀ i, w2.frozen? ⟨pb, i, none⟩ = false := fun i => bp2.frozen i
  have g7 := (bp2.cell 7).trans (show _ = some (.int .i64 d.sectors) from rfl)
  have g8 := (bp2.cell 8).trans (show _ = some (.int .i64 d.size) from rfl)
  go_wp2_with fail
  refine hK.out _ _ (SA.out _ kx2) (fun hHeld => ?_)
  clear hK K
  try simp only [Act.put, List.getElem_toArray, List.getElem_cons_zero, List.getElem_cons_succ, List.setIfInBounds_toArray, List.set_cons_zero, List.set_cons_succ]
  refine wpAnyH_ready (rs := [5]) (by kernel_rfl) (by simp) ?_
  refine AllReadyH.cons rfl (fun K hK => ?_) AllReadyH.nil
  go_simp
  refine hK.out _ _ (SA.out _ (Kept.setCell (p := ⟨pb, 7, none⟩) kx2 (.inl rfl) (.int .i64 (nv a0)))) (fun hHeld => ?_)
  clear hK K
  try simp only [Act.put, List.getElem_toArray, List.getElem_cons_zero, List.getElem_cons_succ, List.setIfInBounds_toArray, List.set_cons_zero, List.set_cons_succ]
  refine wpAnyH_take (i := 6) (v := ?_) rfl (by kernel_rfl) (by kernel_rfl) (by kernel_rfl) (fun _ _ _ h => h) (Or.inl ⟨by rfl, ?_⟩) hHeld ?_
  rotate_left
  · (intro w hSw; (try dsimp only at hSw); go_simp; try (with_reducible rfl))
  simp only [Act.put, List.getElem_toArray, List.getElem_cons_zero, List.getElem_cons_succ, List.setIfInBounds_toArray, List.set_cons_zero, List.set_cons_succ]
  refine wpAnyH_ready (rs := [7]) (by kernel_rfl) (by simp) ?_
  refine AllReadyH.cons rfl (fun K hK => ?_) AllReadyH.nil
  go_simp
  refine hK.out _ _ (SA.out _ (Kept.setCell (p := ⟨pb, 8, none⟩) (Kept.setCell (p := ⟨pb, 7, none⟩) kx2 (.inl rfl) (.int .i64 (nv a0))) (.inl rfl) (.int .i64 (nv a1)))) (fun hHeld => ?_)
  clear hK K
  try simp only [Act.put, List.getElem_toArray, List.getElem_cons_zero, List.getElem_cons_succ, List.setIfInBounds_toArray, List.set_cons_zero, List.set_cons_succ]
  refine wpAnyH_done (by kernel_rfl) ?_ _
  refine NoPanic.normal ?_
  have bf := (Blk.set_ (Blk.set_ bp2 7 (.int .i64 (nv a0))) 8 (.int .i64 (nv a1)))
  have bqf := (Blk.far (Blk.far bq2 (p := ⟨pb, 7, none⟩) (by show qb ≠ pb; omega) (.int .i64 (nv a0))) (p := ⟨pb, 8, none⟩) (by show qb ≠ pb; omega) (.int .i64 (nv a1)))
  have kN := Kept.trans kww2 (Kept.setCell (p := ⟨pb, 8, none⟩) (Kept.setCell (p := ⟨pb, 7, none⟩) (Kept.refl (fun b => b = pb) w2) (.inl rfl) (.int .i64 (nv a0))) (.inl rfl) (.int .i64 (nv a1))) (fun x e => .inr (by show w.heap.size ≤ x; omega))
  have hrf0 := hr.same kN
  have hrf : RowsAt ((w2.setCell ⟨pb, 7, none⟩ (.int .i64 (nv a0))).setCell ⟨pb, 8, none⟩ (.int .i64 (nv a1))) B { d with sectors := (nv a0), size := (nv a1) } (.slice U1 d.names.length cu1) (.slice U2 d.quotas.length cu2) (.slice U3 d.vaults.length cu3) vl := ⟨hrf0.n0, hrf0.n1, hrf0.n2, hrf0.n3, hrf0.n4⟩
  have kf : Kept (fun k => B ≤ k) w ((w2.setCell ⟨pb, 7, none⟩ (.int .i64 (nv a0))).setCell ⟨pb, 8, none⟩ (.int .i64 (nv a1))) := kN.below_mono
  clear kN hrf0
  go_upto_region 22 with fail
  generalize ((w2.setCell ⟨pb, 7, none⟩ (.int .i64 (nv a0))).setCell ⟨pb, 8, none⟩ (.int .i64 (nv a1))) = Wf at bf bqf hrf kf ⊢
  have zr : ∀ i, Wf.frozen? ⟨qb, i, none⟩ = false := fun i => bqf.frozen i
  have f0 := (bf.cell 0).trans (show _ = some (.slice U1 d.names.length cu1) from rfl)
  have f1 := (bf.cell 1).trans (show _ = some (.slice U2 d.quotas.length cu2) from rfl)
  have f2 := (bf.cell 2).trans (show _ = some (.slice U3 d.vaults.length cu3) from rfl)
  have f3 := (bf.cell 3).trans (show _ = some (.int .i64 d.quorum) from rfl)
  have f4 := (bf.cell 4).trans (show _ = some (.string (ba d.seed)) from rfl)
  have f5 := (bf.cell 5).trans (show _ = some (.int .i64 d.bits) from rfl)
  have f6 := (bf.cell 6).trans (show _ = some (.int .i64 d.height) from rfl)
  have f7 := (bf.cell 7).trans (show _ = some (.int .i64 (nv a0)) from rfl)
  have f8 := (bf.cell 8).trans (show _ = some (.int .i64 (nv a1)) from rfl)
  have f9 := (bf.cell 9).trans (show _ = some (.int .i64 d.day) from rfl)
  have f10 := (bf.cell 10).trans (show _ = some (.int .i64 d.leap) from rfl)
  have f11 := (bf.cell 11).trans (show _ = some (.int .i64 d.agree) from rfl)
  have r0 := (bqf.cell 0).trans (show _ = some (.slice none 0 0) from rfl)
  have r1 := (bqf.cell 1).trans (show _ = some (.slice none 0 0) from rfl)
  have r2 := (bqf.cell 2).trans (show _ = some (.slice none 0 0) from rfl)
  have r3 := (bqf.cell 3).trans (show _ = some (.int .i64 0) from rfl)
  have r4 := (bqf.cell 4).trans (show _ = some (.string ⟨#[]⟩) from rfl)
  have r5 := (bqf.cell 5).trans (show _ = some (.int .i64 0) from rfl)
  have r6 := (bqf.cell 6).trans (show _ = some (.int .i64 0) from rfl)
  have r7 := (bqf.cell 7).trans (show _ = some (.int .i64 0) from rfl)
  have r8 := (bqf.cell 8).trans (show _ = some (.int .i64 0) from rfl)
  have r9 := (bqf.cell 9).trans (show _ = some (.int .i64 0) from rfl)
  have r10 := (bqf.cell 10).trans (show _ = some (.int .i64 0) from rfl)
  have r11 := (bqf.cell 11).trans (show _ = some (.int .i64 0) from rfl)
  have HBQ := Lib.hid (show Blk Wf qb 63 (setZ.cells (.slice none 0 0) (.slice none 0 0) (.slice none 0 0)) from bqf)
  have HRF := Lib.hid hrf
  have HKF := Lib.hid kf
  have HAW := Lib.hid awq
  clear bf bqf hrf kf awq
  go_wp2_with fail
  have hbz := rblk_puts HBQ.out (rsetList { d with sectors := (nv a0), size := (nv a1) } (.slice U1 d.names.length cu1) (.slice U2 d.quotas.length cu2) (.slice U3 d.vaults.length cu3))
  have kz := rkept_puts0 (Kept.refl (fun b => b = qb) Wf) qb rfl (rsetList { d with sectors := (nv a0), size := (nv a1) } (.slice U1 d.names.length cu1) (.slice U2 d.quotas.length cu2) (.slice U3 d.vaults.length cu3))
  have hz := RowsAt.boxed HRF.out kz HBQ.out HAW.out
  rw [rsetList_cells] at hbz
  simp only [rsetList, List.foldl_cons, List.foldl_nil] at hbz kz hz
  refine bodyPost_ret (results_decl (cs := SetD.cells { d with sectors := (nv a0), size := (nv a1) } (.slice U1 d.names.length cu1) (.slice U2 d.quotas.length cu2) (.slice U3 d.vaults.length cu3)) rfl rfl hbz) rfl ?_
  rw [HDC.out]
  exact ⟨(.slice U1 d.names.length cu1), (.slice U2 d.quotas.length cu2), (.slice U3 d.vaults.length cu3), vl, rfl, ⟨hz.n0, hz.n1, hz.n2, hz.n3, hz.n4⟩, HKF.out.trans kz (fun x e => .inl (by show B ≤ x; omega))⟩

set_option maxHeartbeats 4000000 in
set_option maxRecDepth 100000 in
theorem rdecl_days {w : World} {B : Nat} {d : SetD} {nm qs vs : Value} {vl : List (VaultD × Option Addr × Nat)} (hr : RowsAt w B d nm qs vs vl) (hBw : B ≤ w.heap.size) (ab ao cA : Nat) (a0 a1 a2 : List UInt8) (hA : StrsAt w (some ⟨ab, ao, none⟩) [a0, a1, a2]) (hab : ab < B) (hs : ∀ a ∈ [a0, a1, a2], a.length ≤ 65536) :
    Calls Tryz.prog 52 #[.agg (d.cells nm qs vs), .agg #[.string (ba [100, 97, 121, 115]), .slice (some ⟨ab, ao, none⟩) 3 cA]] w (DeclPost (decl d [100, 97, 121, 115] [a0, a1, a2]) B w) := by
  obtain ⟨U3, cu3, rfl, _, _⟩ := own_form hr.n3
  have hi := decl_wrap (decl_slen hr)
  obtain ⟨U1, cu1, rfl, _, _⟩ := own_form hr.n1
  obtain ⟨U2, cu2, rfl, _, _⟩ := own_form hr.n2
  have HDC := Lib.hid (decl_days d a0 a1 a2)
  have CN0 := Lib.hid (fun (W : World) (k : Kept (fun b => B ≤ b) w W) => (show Calls Tryz.prog 47 #[.agg #[.string (ba [100, 97, 121, 115]), .slice (some ⟨ab, ao, none⟩) 3 cA], .int .i64 0] W fun e W' => e = .returned (.int .i64 (nv a0)) ∧ Kept NoF W W' from
    (rnumber_any (ba [100, 97, 121, 115]) (some ⟨ab, ao, none⟩) cA [a0, a1, a2] W (k.src hA (fun ad e _ hf => by cases e; exact absurd hf (by show ¬ B ≤ ab; omega))) 0 (by simp) (fun a ha => by have := hs a ha; omega)).mono (fun e W' h => ⟨h.1, Kept.of_below h.2⟩)))
  have CN1 := Lib.hid (fun (W : World) (k : Kept (fun b => B ≤ b) w W) => (show Calls Tryz.prog 47 #[.agg #[.string (ba [100, 97, 121, 115]), .slice (some ⟨ab, ao, none⟩) 3 cA], .int .i64 1] W fun e W' => e = .returned (.int .i64 (nv a1)) ∧ Kept NoF W W' from
    (rnumber_any (ba [100, 97, 121, 115]) (some ⟨ab, ao, none⟩) cA [a0, a1, a2] W (k.src hA (fun ad e _ hf => by cases e; exact absurd hf (by show ¬ B ≤ ab; omega))) 1 (by simp) (fun a ha => by have := hs a ha; omega)).mono (fun e W' h => ⟨h.1, Kept.of_below h.2⟩)))
  have CN2 := Lib.hid (fun (W : World) (k : Kept (fun b => B ≤ b) w W) => (show Calls Tryz.prog 47 #[.agg #[.string (ba [100, 97, 121, 115]), .slice (some ⟨ab, ao, none⟩) 3 cA], .int .i64 2] W fun e W' => e = .returned (.int .i64 (nv a2)) ∧ Kept NoF W W' from
    (rnumber_any (ba [100, 97, 121, 115]) (some ⟨ab, ao, none⟩) cA [a0, a1, a2] W (k.src hA (fun ad e _ hf => by cases e; exact absurd hf (by show ¬ B ≤ ab; omega))) 2 (by simp) (fun a ha => by have := hs a ha; omega)).mono (fun e W' h => ⟨h.1, Kept.of_below h.2⟩)))
  have bp := ((Blk.new w 63 #[.slice U1 d.names.length cu1, .slice U2 d.quotas.length cu2, .slice U3 d.vaults.length cu3, .int .i64 d.quorum, .string (ba d.seed), .int .i64 d.bits, .int .i64 d.height, .int .i64 d.sectors, .int .i64 d.size, .int .i64 d.day, .int .i64 d.leap, .int .i64 d.agree]).alloc (.cells #[.string (ba [100, 97, 121, 115]), .slice (some ⟨ab, ao, none⟩) 3 cA] 39)).alloc (.cells #[.slice none 0 0, .slice none 0 0, .slice none 0 0, .int .i64 0, .string ⟨#[]⟩, .int .i64 0, .int .i64 0, .int .i64 0, .int .i64 0, .int .i64 0, .int .i64 0, .int .i64 0] 63)
  have bs := at_size (b := w.heap.size + 1) (by simp) ((Blk.new (w.alloc (.cells #[.slice U1 d.names.length cu1, .slice U2 d.quotas.length cu2, .slice U3 d.vaults.length cu3, .int .i64 d.quorum, .string (ba d.seed), .int .i64 d.bits, .int .i64 d.height, .int .i64 d.sectors, .int .i64 d.size, .int .i64 d.day, .int .i64 d.leap, .int .i64 d.agree] 63)) 39 #[.string (ba [100, 97, 121, 115]), .slice (some ⟨ab, ao, none⟩) 3 cA]).alloc (.cells #[.slice none 0 0, .slice none 0 0, .slice none 0 0, .int .i64 0, .string ⟨#[]⟩, .int .i64 0, .int .i64 0, .int .i64 0, .int .i64 0, .int .i64 0, .int .i64 0, .int .i64 0] 63))
  have bq := at_size (b := w.heap.size + 1 + 1) (by simp) (Blk.new ((w.alloc (.cells #[.slice U1 d.names.length cu1, .slice U2 d.quotas.length cu2, .slice U3 d.vaults.length cu3, .int .i64 d.quorum, .string (ba d.seed), .int .i64 d.bits, .int .i64 d.height, .int .i64 d.sectors, .int .i64 d.size, .int .i64 d.day, .int .i64 d.leap, .int .i64 d.agree] 63)).alloc (.cells #[.string (ba [100, 97, 121, 115]), .slice (some ⟨ab, ao, none⟩) 3 cA] 39)) 63 #[.slice none 0 0, .slice none 0 0, .slice none 0 0, .int .i64 0, .string ⟨#[]⟩, .int .i64 0, .int .i64 0, .int .i64 0, .int .i64 0, .int .i64 0, .int .i64 0, .int .i64 0])
  have kw0 := (((Kept.refl NoF w).alloc (.cells #[.slice U1 d.names.length cu1, .slice U2 d.quotas.length cu2, .slice U3 d.vaults.length cu3, .int .i64 d.quorum, .string (ba d.seed), .int .i64 d.bits, .int .i64 d.height, .int .i64 d.sectors, .int .i64 d.size, .int .i64 d.day, .int .i64 d.leap, .int .i64 d.agree] 63)).alloc (.cells #[.string (ba [100, 97, 121, 115]), .slice (some ⟨ab, ao, none⟩) 3 cA] 39)).alloc (.cells #[.slice none 0 0, .slice none 0 0, .slice none 0 0, .int .i64 0, .string ⟨#[]⟩, .int .i64 0, .int .i64 0, .int .i64 0, .int .i64 0, .int .i64 0, .int .i64 0, .int .i64 0] 63)
  show Calls Tryz.prog 52 #[.agg #[.slice U1 d.names.length cu1, .slice U2 d.quotas.length cu2, .slice U3 d.vaults.length cu3, .int .i64 d.quorum, .string (ba d.seed), .int .i64 d.bits, .int .i64 d.height, .int .i64 d.sectors, .int .i64 d.size, .int .i64 d.day, .int .i64 d.leap, .int .i64 d.agree], .agg #[.string (ba [100, 97, 121, 115]), .slice (some ⟨ab, ao, none⟩) 3 cA]] w _
  go_enter Tryz.func52, Tryz.ntmps52
  go_upto_region 1 with fail
  generalize ((w.alloc (.cells #[.slice U1 d.names.length cu1, .slice U2 d.quotas.length cu2, .slice U3 d.vaults.length cu3, .int .i64 d.quorum, .string (ba d.seed), .int .i64 d.bits, .int .i64 d.height, .int .i64 d.sectors, .int .i64 d.size, .int .i64 d.day, .int .i64 d.leap, .int .i64 d.agree] 63)).alloc (.cells #[.string (ba [100, 97, 121, 115]), .slice (some ⟨ab, ao, none⟩) 3 cA] 39)).alloc (.cells #[.slice none 0 0, .slice none 0 0, .slice none 0 0, .int .i64 0, .string ⟨#[]⟩, .int .i64 0, .int .i64 0, .int .i64 0, .int .i64 0, .int .i64 0, .int .i64 0, .int .i64 0] 63) = w0 at bp bs bq kw0 ⊢
  have hBp := hBw
  generalize hqb : w.heap.size + 1 + 1 = qb at bq ⊢
  generalize hsb : w.heap.size + 1 = sb at bs ⊢
  generalize hpb : w.heap.size = pb at bp hBp ⊢
  have hpw : w.heap.size ≤ pb ∧ pb < sb ∧ sb < qb := by omega
  clear hpb hsb hqb
  obtain ⟨hpw, hps, hsq⟩ := hpw
  have e2 := (bp.cell 2).trans (show _ = some (.slice U3 d.vaults.length cu3) from rfl)
  have s0 := (bs.cell 0).trans (show _ = some (.string (ba [100, 97, 121, 115])) from rfl)
  have s1 := (bs.cell 1).trans (show _ = some (.slice (some ⟨ab, ao, none⟩) 3 cA) from rfl)
  have q_device : ((ba [100, 97, 121, 115]).toList == [100, 101, 118, 105, 99, 101]) = false := by rw [cmp_ba]; decide
  have q_vault : ((ba [100, 97, 121, 115]).toList == [118, 97, 117, 108, 116]) = false := by rw [cmp_ba]; decide
  have q_cutting : ((ba [100, 97, 121, 115]).toList == [99, 117, 116, 116, 105, 110, 103]) = false := by rw [cmp_ba]; decide
  have q_rules : ((ba [100, 97, 121, 115]).toList == [114, 117, 108, 101, 115]) = false := by rw [cmp_ba]; decide
  have q_quorum : ((ba [100, 97, 121, 115]).toList == [113, 117, 111, 114, 117, 109]) = false := by rw [cmp_ba]; decide
  have q_seed : ((ba [100, 97, 121, 115]).toList == [115, 101, 101, 100]) = false := by rw [cmp_ba]; decide
  have q_scheme : ((ba [100, 97, 121, 115]).toList == [115, 99, 104, 101, 109, 101]) = false := by rw [cmp_ba]; decide
  have q_disk : ((ba [100, 97, 121, 115]).toList == [100, 105, 115, 107]) = false := by rw [cmp_ba]; decide
  have q_days : ((ba [100, 97, 121, 115]).toList == [100, 97, 121, 115]) = true := by rw [cmp_ba]; decide
  clear hA hs
  go_upto_region 21 with fail
  have awq := hr.away (p := qb) (by omega)
  have SA := Lib.hid (fun (W : World) (k : Kept (fun b => b = pb) w0 W) => (⟨k.cell s0 (by show ¬ sb = pb; omega), k.cell s1 (by show ¬ sb = pb; omega)⟩ : (fun (w' : World) => w'.cell? ⟨sb, 0, none⟩ = some (.string (ba [100, 97, 121, 115])) ∧ w'.cell? ⟨sb, 1, none⟩ = some (.slice (some ⟨ab, ao, none⟩) 3 cA)) W))
  have kd := (Kept.refl NoF w0).drew
  have bp0 := kd.blk bp (fun h => h)
  have bq0 := kd.blk bq (fun h => h)
  have kww0 := kw0.trans kd (fun _ h => .inl h)
  have kx0 := kd.mono (G := fun b => b = pb) (fun _ h => h.elim)
  refine wp_region_noPanic ?_
  refine wp_region_held_drew (S := (fun (w' : World) => w'.cell? ⟨sb, 0, none⟩ = some (.string (ba [100, 97, 121, 115])) ∧ w'.cell? ⟨sb, 1, none⟩ = some (.slice (some ⟨ab, ao, none⟩) 3 cA))) (by kernel_rfl) ?_ (fun hHeld => ?_)
  · exact SA.out _ kx0
  refine wpAnyH_take (i := 0) (v := ?_) rfl (by kernel_rfl) (by kernel_rfl) (by kernel_rfl) (fun _ _ _ h => h) (Or.inl ⟨by rfl, ?_⟩) hHeld ?_
  rotate_left
  · (intro w hSw; (try dsimp only at hSw); go_simp; try (with_reducible rfl))
  simp only [Act.put, List.getElem_toArray, List.getElem_cons_zero, List.setIfInBounds_toArray, List.set_cons_zero, List.set_cons_succ]
  refine wpAnyH_take (i := 2) (v := ?_) rfl (by kernel_rfl) (by kernel_rfl) (by kernel_rfl) (fun _ _ _ h => h) (Or.inl ⟨by rfl, ?_⟩) hHeld ?_
  rotate_left
  · (intro w hSw; (try dsimp only at hSw); go_simp; try (with_reducible rfl))
  simp only [Act.put, List.getElem_toArray, List.getElem_cons_zero, List.getElem_cons_succ, List.setIfInBounds_toArray, List.set_cons_zero, List.set_cons_succ]
  refine wpAnyH_take (i := 4) (v := ?_) rfl (by kernel_rfl) (by kernel_rfl) (by kernel_rfl) (fun _ _ _ h => h) (Or.inl ⟨by rfl, ?_⟩) hHeld ?_
  rotate_left
  · (intro w hSw; (try dsimp only at hSw); go_simp; try (with_reducible rfl))
  simp only [Act.put, List.getElem_toArray, List.getElem_cons_zero, List.getElem_cons_succ, List.setIfInBounds_toArray, List.set_cons_zero, List.set_cons_succ]
  refine wpAnyH_ready (rs := [1]) (by kernel_rfl) (by simp) ?_
  refine AllReadyH.cons rfl (fun K hK => ?_) AllReadyH.nil
  go_simp
  refine (CN0.out _ kww0.below_mono).mono ?_
  rintro e w1 ⟨rfl, kc1⟩
  have bp1 := kc1.blk bp0 (fun h => h)
  have bq1 := kc1.blk bq0 (fun h => h)
  have kww1 := kww0.trans kc1 (fun _ h => .inl h)
  have kx1 := kx0.trans kc1 (fun _ h => h.elim)
  go_wp2_with fail
  refine hK.out _ _ (SA.out _ kx1) (fun hHeld => ?_)
  clear hK K
  try simp only [Act.put, List.getElem_toArray, List.getElem_cons_zero, List.getElem_cons_succ, List.setIfInBounds_toArray, List.set_cons_zero, List.set_cons_succ]
  refine wpAnyH_take (i := 6) (v := ?_) rfl (by kernel_rfl) (by kernel_rfl) (by kernel_rfl) (fun _ _ _ h => h) (Or.inl ⟨by rfl, ?_⟩) hHeld ?_
  rotate_left
  · (intro w hSw; (try dsimp only at hSw); go_simp; try (with_reducible rfl))
  simp only [Act.put, List.getElem_toArray, List.getElem_cons_zero, List.getElem_cons_succ, List.setIfInBounds_toArray, List.set_cons_zero, List.set_cons_succ]
  refine wpAnyH_ready (rs := [3]) (by kernel_rfl) (by simp) ?_
  refine AllReadyH.cons rfl (fun K hK => ?_) AllReadyH.nil
  go_simp
  refine (CN1.out _ kww1.below_mono).mono ?_
  rintro e w2 ⟨rfl, kc2⟩
  have bp2 := kc2.blk bp1 (fun h => h)
  have bq2 := kc2.blk bq1 (fun h => h)
  have kww2 := kww1.trans kc2 (fun _ h => .inl h)
  have kx2 := kx1.trans kc2 (fun _ h => h.elim)
  go_wp2_with fail
  refine hK.out _ _ (SA.out _ kx2) (fun hHeld => ?_)
  clear hK K
  try simp only [Act.put, List.getElem_toArray, List.getElem_cons_zero, List.getElem_cons_succ, List.setIfInBounds_toArray, List.set_cons_zero, List.set_cons_succ]
  refine wpAnyH_ready (rs := [5]) (by kernel_rfl) (by simp) ?_
  refine AllReadyH.cons rfl (fun K hK => ?_) AllReadyH.nil
  go_simp
  refine (CN2.out _ kww2.below_mono).mono ?_
  rintro e w3 ⟨rfl, kc3⟩
  have bp3 := kc3.blk bp2 (fun h => h)
  have bq3 := kc3.blk bq2 (fun h => h)
  have kww3 := kww2.trans kc3 (fun _ h => .inl h)
  have kx3 := kx2.trans kc3 (fun _ h => h.elim)
  have z3 : ∀ i, w3.frozen? ⟨pb, i, none⟩ = false := fun i => bp3.frozen i
  have g9 := (bp3.cell 9).trans (show _ = some (.int .i64 d.day) from rfl)
  have g10 := (bp3.cell 10).trans (show _ = some (.int .i64 d.leap) from rfl)
  have g11 := (bp3.cell 11).trans (show _ = some (.int .i64 d.agree) from rfl)
  go_wp2_with fail
  refine hK.out _ _ (SA.out _ kx3) (fun hHeld => ?_)
  clear hK K
  try simp only [Act.put, List.getElem_toArray, List.getElem_cons_zero, List.getElem_cons_succ, List.setIfInBounds_toArray, List.set_cons_zero, List.set_cons_succ]
  refine wpAnyH_ready (rs := [7]) (by kernel_rfl) (by simp) ?_
  refine AllReadyH.cons rfl (fun K hK => ?_) AllReadyH.nil
  go_simp
  refine hK.out _ _ (SA.out _ (Kept.setCell (p := ⟨pb, 9, none⟩) kx3 (.inl rfl) (.int .i64 (nv a0)))) (fun hHeld => ?_)
  clear hK K
  try simp only [Act.put, List.getElem_toArray, List.getElem_cons_zero, List.getElem_cons_succ, List.setIfInBounds_toArray, List.set_cons_zero, List.set_cons_succ]
  refine wpAnyH_take (i := 8) (v := ?_) rfl (by kernel_rfl) (by kernel_rfl) (by kernel_rfl) (fun _ _ _ h => h) (Or.inl ⟨by rfl, ?_⟩) hHeld ?_
  rotate_left
  · (intro w hSw; (try dsimp only at hSw); go_simp; try (with_reducible rfl))
  simp only [Act.put, List.getElem_toArray, List.getElem_cons_zero, List.getElem_cons_succ, List.setIfInBounds_toArray, List.set_cons_zero, List.set_cons_succ]
  refine wpAnyH_ready (rs := [9]) (by kernel_rfl) (by simp) ?_
  refine AllReadyH.cons rfl (fun K hK => ?_) AllReadyH.nil
  go_simp
  refine hK.out _ _ (SA.out _ (Kept.setCell (p := ⟨pb, 10, none⟩) (Kept.setCell (p := ⟨pb, 9, none⟩) kx3 (.inl rfl) (.int .i64 (nv a0))) (.inl rfl) (.int .i64 (nv a1)))) (fun hHeld => ?_)
  clear hK K
  try simp only [Act.put, List.getElem_toArray, List.getElem_cons_zero, List.getElem_cons_succ, List.setIfInBounds_toArray, List.set_cons_zero, List.set_cons_succ]
  refine wpAnyH_take (i := 10) (v := ?_) rfl (by kernel_rfl) (by kernel_rfl) (by kernel_rfl) (fun _ _ _ h => h) (Or.inl ⟨by rfl, ?_⟩) hHeld ?_
  rotate_left
  · (intro w hSw; (try dsimp only at hSw); go_simp; try (with_reducible rfl))
  simp only [Act.put, List.getElem_toArray, List.getElem_cons_zero, List.getElem_cons_succ, List.setIfInBounds_toArray, List.set_cons_zero, List.set_cons_succ]
  refine wpAnyH_ready (rs := [11]) (by kernel_rfl) (by simp) ?_
  refine AllReadyH.cons rfl (fun K hK => ?_) AllReadyH.nil
  go_simp
  refine hK.out _ _ (SA.out _ (Kept.setCell (p := ⟨pb, 11, none⟩) (Kept.setCell (p := ⟨pb, 10, none⟩) (Kept.setCell (p := ⟨pb, 9, none⟩) kx3 (.inl rfl) (.int .i64 (nv a0))) (.inl rfl) (.int .i64 (nv a1))) (.inl rfl) (.int .i64 (nv a2)))) (fun hHeld => ?_)
  clear hK K
  try simp only [Act.put, List.getElem_toArray, List.getElem_cons_zero, List.getElem_cons_succ, List.setIfInBounds_toArray, List.set_cons_zero, List.set_cons_succ]
  refine wpAnyH_done (by kernel_rfl) ?_ _
  refine NoPanic.normal ?_
  have bf := (Blk.set_ (Blk.set_ (Blk.set_ bp3 9 (.int .i64 (nv a0))) 10 (.int .i64 (nv a1))) 11 (.int .i64 (nv a2)))
  have bqf := (Blk.far (Blk.far (Blk.far bq3 (p := ⟨pb, 9, none⟩) (by show qb ≠ pb; omega) (.int .i64 (nv a0))) (p := ⟨pb, 10, none⟩) (by show qb ≠ pb; omega) (.int .i64 (nv a1))) (p := ⟨pb, 11, none⟩) (by show qb ≠ pb; omega) (.int .i64 (nv a2)))
  have kN := Kept.trans kww3 (Kept.setCell (p := ⟨pb, 11, none⟩) (Kept.setCell (p := ⟨pb, 10, none⟩) (Kept.setCell (p := ⟨pb, 9, none⟩) (Kept.refl (fun b => b = pb) w3) (.inl rfl) (.int .i64 (nv a0))) (.inl rfl) (.int .i64 (nv a1))) (.inl rfl) (.int .i64 (nv a2))) (fun x e => .inr (by show w.heap.size ≤ x; omega))
  have hrf0 := hr.same kN
  have hrf : RowsAt (((w3.setCell ⟨pb, 9, none⟩ (.int .i64 (nv a0))).setCell ⟨pb, 10, none⟩ (.int .i64 (nv a1))).setCell ⟨pb, 11, none⟩ (.int .i64 (nv a2))) B { d with day := (nv a0), leap := (nv a1), agree := (nv a2) } (.slice U1 d.names.length cu1) (.slice U2 d.quotas.length cu2) (.slice U3 d.vaults.length cu3) vl := ⟨hrf0.n0, hrf0.n1, hrf0.n2, hrf0.n3, hrf0.n4⟩
  have kf : Kept (fun k => B ≤ k) w (((w3.setCell ⟨pb, 9, none⟩ (.int .i64 (nv a0))).setCell ⟨pb, 10, none⟩ (.int .i64 (nv a1))).setCell ⟨pb, 11, none⟩ (.int .i64 (nv a2))) := kN.below_mono
  clear kN hrf0
  go_upto_region 22 with fail
  generalize (((w3.setCell ⟨pb, 9, none⟩ (.int .i64 (nv a0))).setCell ⟨pb, 10, none⟩ (.int .i64 (nv a1))).setCell ⟨pb, 11, none⟩ (.int .i64 (nv a2))) = Wf at bf bqf hrf kf ⊢
  have zr : ∀ i, Wf.frozen? ⟨qb, i, none⟩ = false := fun i => bqf.frozen i
  have f0 := (bf.cell 0).trans (show _ = some (.slice U1 d.names.length cu1) from rfl)
  have f1 := (bf.cell 1).trans (show _ = some (.slice U2 d.quotas.length cu2) from rfl)
  have f2 := (bf.cell 2).trans (show _ = some (.slice U3 d.vaults.length cu3) from rfl)
  have f3 := (bf.cell 3).trans (show _ = some (.int .i64 d.quorum) from rfl)
  have f4 := (bf.cell 4).trans (show _ = some (.string (ba d.seed)) from rfl)
  have f5 := (bf.cell 5).trans (show _ = some (.int .i64 d.bits) from rfl)
  have f6 := (bf.cell 6).trans (show _ = some (.int .i64 d.height) from rfl)
  have f7 := (bf.cell 7).trans (show _ = some (.int .i64 d.sectors) from rfl)
  have f8 := (bf.cell 8).trans (show _ = some (.int .i64 d.size) from rfl)
  have f9 := (bf.cell 9).trans (show _ = some (.int .i64 (nv a0)) from rfl)
  have f10 := (bf.cell 10).trans (show _ = some (.int .i64 (nv a1)) from rfl)
  have f11 := (bf.cell 11).trans (show _ = some (.int .i64 (nv a2)) from rfl)
  have r0 := (bqf.cell 0).trans (show _ = some (.slice none 0 0) from rfl)
  have r1 := (bqf.cell 1).trans (show _ = some (.slice none 0 0) from rfl)
  have r2 := (bqf.cell 2).trans (show _ = some (.slice none 0 0) from rfl)
  have r3 := (bqf.cell 3).trans (show _ = some (.int .i64 0) from rfl)
  have r4 := (bqf.cell 4).trans (show _ = some (.string ⟨#[]⟩) from rfl)
  have r5 := (bqf.cell 5).trans (show _ = some (.int .i64 0) from rfl)
  have r6 := (bqf.cell 6).trans (show _ = some (.int .i64 0) from rfl)
  have r7 := (bqf.cell 7).trans (show _ = some (.int .i64 0) from rfl)
  have r8 := (bqf.cell 8).trans (show _ = some (.int .i64 0) from rfl)
  have r9 := (bqf.cell 9).trans (show _ = some (.int .i64 0) from rfl)
  have r10 := (bqf.cell 10).trans (show _ = some (.int .i64 0) from rfl)
  have r11 := (bqf.cell 11).trans (show _ = some (.int .i64 0) from rfl)
  have HBQ := Lib.hid (show Blk Wf qb 63 (setZ.cells (.slice none 0 0) (.slice none 0 0) (.slice none 0 0)) from bqf)
  have HRF := Lib.hid hrf
  have HKF := Lib.hid kf
  have HAW := Lib.hid awq
  clear bf bqf hrf kf awq
  go_wp2_with fail
  have hbz := rblk_puts HBQ.out (rsetList { d with day := (nv a0), leap := (nv a1), agree := (nv a2) } (.slice U1 d.names.length cu1) (.slice U2 d.quotas.length cu2) (.slice U3 d.vaults.length cu3))
  have kz := rkept_puts0 (Kept.refl (fun b => b = qb) Wf) qb rfl (rsetList { d with day := (nv a0), leap := (nv a1), agree := (nv a2) } (.slice U1 d.names.length cu1) (.slice U2 d.quotas.length cu2) (.slice U3 d.vaults.length cu3))
  have hz := RowsAt.boxed HRF.out kz HBQ.out HAW.out
  rw [rsetList_cells] at hbz
  simp only [rsetList, List.foldl_cons, List.foldl_nil] at hbz kz hz
  refine bodyPost_ret (results_decl (cs := SetD.cells { d with day := (nv a0), leap := (nv a1), agree := (nv a2) } (.slice U1 d.names.length cu1) (.slice U2 d.quotas.length cu2) (.slice U3 d.vaults.length cu3)) rfl rfl hbz) rfl ?_
  rw [HDC.out]
  exact ⟨(.slice U1 d.names.length cu1), (.slice U2 d.quotas.length cu2), (.slice U3 d.vaults.length cu3), vl, rfl, ⟨hz.n0, hz.n1, hz.n2, hz.n3, hz.n4⟩, HKF.out.trans kz (fun x e => .inl (by show B ≤ x; omega))⟩

end Go.Proofs.YtfnfjfcncijapaaGreatDoor

namespace Go.Proofs.YtfnfjfcncijapaaGreatDoor
open Go.RowKit Go.Shelf
attribute [local go_sem] Oper.semAt_some

set_option maxHeartbeats 4000000 in
set_option maxRecDepth 100000 in
theorem rdecl_cutting {w : World} {B : Nat} {d : SetD} {nm qs vs : Value} {vl : List (VaultD × Option Addr × Nat)} (hr : RowsAt w B d nm qs vs vl) (hBw : B ≤ w.heap.size) (ab ao cA : Nat) (a0 a1 a2 a3 : List UInt8) (hA : StrsAt w (some ⟨ab, ao, none⟩) [a0, a1, a2, a3]) (hab : ab < B) (hs : ∀ a ∈ [a0, a1, a2, a3], a.length ≤ 65536) (hne : d.vaults.isEmpty = false) :
    Calls Tryz.prog 52 #[.agg (d.cells nm qs vs), .agg #[.string (ba [99, 117, 116, 116, 105, 110, 103]), .slice (some ⟨ab, ao, none⟩) 4 cA]] w (DeclPost (decl d [99, 117, 116, 116, 105, 110, 103] [a0, a1, a2, a3]) B w) := by
  obtain ⟨l, v, hl⟩ := snoc_of hne
  obtain ⟨g, cap, rfl, hgB, _⟩ := vrow_form (xb := B - 1) hr hl (by omega)
  have hi : IntKind.i64.wrap (l.length : Int) = (l.length : Int) := by have := vrow_small hr hl; exact wrap_len this
  have hi1 : (l.length : Int) < (l.length : Int) + 1 := by omega
  have hgw : g < w.heap.size := (hr.n3.lt g rfl).2
  obtain ⟨U1, cu1, rfl, _, _⟩ := own_form hr.n1
  obtain ⟨U2, cu2, rfl, _, _⟩ := own_form hr.n2
  have HDC := Lib.hid (decl_cutting d a0 a1 a2 a3)
  have CN0 := Lib.hid (fun (W : World) (k : Kept (fun b => B ≤ b) w W) => (show Calls Tryz.prog 47 #[.agg #[.string (ba [99, 117, 116, 116, 105, 110, 103]), .slice (some ⟨ab, ao, none⟩) 4 cA], .int .i64 0] W fun e W' => e = .returned (.int .i64 (nv a0)) ∧ Kept NoF W W' from
    (rnumber_any (ba [99, 117, 116, 116, 105, 110, 103]) (some ⟨ab, ao, none⟩) cA [a0, a1, a2, a3] W (k.src hA (fun ad e _ hf => by cases e; exact absurd hf (by show ¬ B ≤ ab; omega))) 0 (by simp) (fun a ha => by have := hs a ha; omega)).mono (fun e W' h => ⟨h.1, Kept.of_below h.2⟩)))
  have CN1 := Lib.hid (fun (W : World) (k : Kept (fun b => B ≤ b) w W) => (show Calls Tryz.prog 47 #[.agg #[.string (ba [99, 117, 116, 116, 105, 110, 103]), .slice (some ⟨ab, ao, none⟩) 4 cA], .int .i64 1] W fun e W' => e = .returned (.int .i64 (nv a1)) ∧ Kept NoF W W' from
    (rnumber_any (ba [99, 117, 116, 116, 105, 110, 103]) (some ⟨ab, ao, none⟩) cA [a0, a1, a2, a3] W (k.src hA (fun ad e _ hf => by cases e; exact absurd hf (by show ¬ B ≤ ab; omega))) 1 (by simp) (fun a ha => by have := hs a ha; omega)).mono (fun e W' h => ⟨h.1, Kept.of_below h.2⟩)))
  have CN2 := Lib.hid (fun (W : World) (k : Kept (fun b => B ≤ b) w W) => (show Calls Tryz.prog 47 #[.agg #[.string (ba [99, 117, 116, 116, 105, 110, 103]), .slice (some ⟨ab, ao, none⟩) 4 cA], .int .i64 2] W fun e W' => e = .returned (.int .i64 (nv a2)) ∧ Kept NoF W W' from
    (rnumber_any (ba [99, 117, 116, 116, 105, 110, 103]) (some ⟨ab, ao, none⟩) cA [a0, a1, a2, a3] W (k.src hA (fun ad e _ hf => by cases e; exact absurd hf (by show ¬ B ≤ ab; omega))) 2 (by simp) (fun a ha => by have := hs a ha; omega)).mono (fun e W' h => ⟨h.1, Kept.of_below h.2⟩)))
  have CN3 := Lib.hid (fun (W : World) (k : Kept (fun b => B ≤ b) w W) => (show Calls Tryz.prog 47 #[.agg #[.string (ba [99, 117, 116, 116, 105, 110, 103]), .slice (some ⟨ab, ao, none⟩) 4 cA], .int .i64 3] W fun e W' => e = .returned (.int .i64 (nv a3)) ∧ Kept NoF W W' from
    (rnumber_any (ba [99, 117, 116, 116, 105, 110, 103]) (some ⟨ab, ao, none⟩) cA [a0, a1, a2, a3] W (k.src hA (fun ad e _ hf => by cases e; exact absurd hf (by show ¬ B ≤ ab; omega))) 3 (by simp) (fun a ha => by have := hs a ha; omega)).mono (fun e W' h => ⟨h.1, Kept.of_below h.2⟩)))
  have bp := ((Blk.new w 63 #[.slice U1 d.names.length cu1, .slice U2 d.quotas.length cu2, .slice (some ⟨g, 0, none⟩) (l.length + 1) cap, .int .i64 d.quorum, .string (ba d.seed), .int .i64 d.bits, .int .i64 d.height, .int .i64 d.sectors, .int .i64 d.size, .int .i64 d.day, .int .i64 d.leap, .int .i64 d.agree]).alloc (.cells #[.string (ba [99, 117, 116, 116, 105, 110, 103]), .slice (some ⟨ab, ao, none⟩) 4 cA] 39)).alloc (.cells #[.slice none 0 0, .slice none 0 0, .slice none 0 0, .int .i64 0, .string ⟨#[]⟩, .int .i64 0, .int .i64 0, .int .i64 0, .int .i64 0, .int .i64 0, .int .i64 0, .int .i64 0] 63)
  have bs := at_size (b := w.heap.size + 1) (by simp) ((Blk.new (w.alloc (.cells #[.slice U1 d.names.length cu1, .slice U2 d.quotas.length cu2, .slice (some ⟨g, 0, none⟩) (l.length + 1) cap, .int .i64 d.quorum, .string (ba d.seed), .int .i64 d.bits, .int .i64 d.height, .int .i64 d.sectors, .int .i64 d.size, .int .i64 d.day, .int .i64 d.leap, .int .i64 d.agree] 63)) 39 #[.string (ba [99, 117, 116, 116, 105, 110, 103]), .slice (some ⟨ab, ao, none⟩) 4 cA]).alloc (.cells #[.slice none 0 0, .slice none 0 0, .slice none 0 0, .int .i64 0, .string ⟨#[]⟩, .int .i64 0, .int .i64 0, .int .i64 0, .int .i64 0, .int .i64 0, .int .i64 0, .int .i64 0] 63))
  have bq := at_size (b := w.heap.size + 1 + 1) (by simp) (Blk.new ((w.alloc (.cells #[.slice U1 d.names.length cu1, .slice U2 d.quotas.length cu2, .slice (some ⟨g, 0, none⟩) (l.length + 1) cap, .int .i64 d.quorum, .string (ba d.seed), .int .i64 d.bits, .int .i64 d.height, .int .i64 d.sectors, .int .i64 d.size, .int .i64 d.day, .int .i64 d.leap, .int .i64 d.agree] 63)).alloc (.cells #[.string (ba [99, 117, 116, 116, 105, 110, 103]), .slice (some ⟨ab, ao, none⟩) 4 cA] 39)) 63 #[.slice none 0 0, .slice none 0 0, .slice none 0 0, .int .i64 0, .string ⟨#[]⟩, .int .i64 0, .int .i64 0, .int .i64 0, .int .i64 0, .int .i64 0, .int .i64 0, .int .i64 0])
  have kw0 := (((Kept.refl NoF w).alloc (.cells #[.slice U1 d.names.length cu1, .slice U2 d.quotas.length cu2, .slice (some ⟨g, 0, none⟩) (l.length + 1) cap, .int .i64 d.quorum, .string (ba d.seed), .int .i64 d.bits, .int .i64 d.height, .int .i64 d.sectors, .int .i64 d.size, .int .i64 d.day, .int .i64 d.leap, .int .i64 d.agree] 63)).alloc (.cells #[.string (ba [99, 117, 116, 116, 105, 110, 103]), .slice (some ⟨ab, ao, none⟩) 4 cA] 39)).alloc (.cells #[.slice none 0 0, .slice none 0 0, .slice none 0 0, .int .i64 0, .string ⟨#[]⟩, .int .i64 0, .int .i64 0, .int .i64 0, .int .i64 0, .int .i64 0, .int .i64 0, .int .i64 0] 63)
  show Calls Tryz.prog 52 #[.agg #[.slice U1 d.names.length cu1, .slice U2 d.quotas.length cu2, .slice (some ⟨g, 0, none⟩) (l.length + 1) cap, .int .i64 d.quorum, .string (ba d.seed), .int .i64 d.bits, .int .i64 d.height, .int .i64 d.sectors, .int .i64 d.size, .int .i64 d.day, .int .i64 d.leap, .int .i64 d.agree], .agg #[.string (ba [99, 117, 116, 116, 105, 110, 103]), .slice (some ⟨ab, ao, none⟩) 4 cA]] w _
  go_enter Tryz.func52, Tryz.ntmps52
  go_upto_region 1 with fail
  generalize ((w.alloc (.cells #[.slice U1 d.names.length cu1, .slice U2 d.quotas.length cu2, .slice (some ⟨g, 0, none⟩) (l.length + 1) cap, .int .i64 d.quorum, .string (ba d.seed), .int .i64 d.bits, .int .i64 d.height, .int .i64 d.sectors, .int .i64 d.size, .int .i64 d.day, .int .i64 d.leap, .int .i64 d.agree] 63)).alloc (.cells #[.string (ba [99, 117, 116, 116, 105, 110, 103]), .slice (some ⟨ab, ao, none⟩) 4 cA] 39)).alloc (.cells #[.slice none 0 0, .slice none 0 0, .slice none 0 0, .int .i64 0, .string ⟨#[]⟩, .int .i64 0, .int .i64 0, .int .i64 0, .int .i64 0, .int .i64 0, .int .i64 0, .int .i64 0] 63) = w0 at bp bs bq kw0 ⊢
  have hBp := hBw
  generalize hqb : w.heap.size + 1 + 1 = qb at bq ⊢
  generalize hsb : w.heap.size + 1 = sb at bs ⊢
  generalize hpb : w.heap.size = pb at bp hBp hgw ⊢
  have hpw : w.heap.size ≤ pb ∧ pb < sb ∧ sb < qb := by omega
  clear hpb hsb hqb
  obtain ⟨hpw, hps, hsq⟩ := hpw
  have e2 := (bp.cell 2).trans (show _ = some (.slice (some ⟨g, 0, none⟩) (l.length + 1) cap) from rfl)
  have s0 := (bs.cell 0).trans (show _ = some (.string (ba [99, 117, 116, 116, 105, 110, 103])) from rfl)
  have s1 := (bs.cell 1).trans (show _ = some (.slice (some ⟨ab, ao, none⟩) 4 cA) from rfl)
  have q_device : ((ba [99, 117, 116, 116, 105, 110, 103]).toList == [100, 101, 118, 105, 99, 101]) = false := by rw [cmp_ba]; decide
  have q_vault : ((ba [99, 117, 116, 116, 105, 110, 103]).toList == [118, 97, 117, 108, 116]) = false := by rw [cmp_ba]; decide
  have q_cutting : ((ba [99, 117, 116, 116, 105, 110, 103]).toList == [99, 117, 116, 116, 105, 110, 103]) = true := by rw [cmp_ba]; decide
  clear hA hs
  go_upto_region 9 with fail
  have awq0 := hr.away (p := qb) (by omega)
  have SA := Lib.hid (fun (W : World) (k : Kept (fun b => b = g) w0 W) => (⟨k.cell e2 (by show ¬ pb = g; omega), k.cell s0 (by show ¬ sb = g; omega), k.cell s1 (by show ¬ sb = g; omega)⟩ : (fun (w' : World) => w'.cell? ⟨pb, 2, none⟩ = some (.slice (some ⟨g, 0, none⟩) (l.length + 1) cap) ∧ w'.cell? ⟨sb, 0, none⟩ = some (.string (ba [99, 117, 116, 116, 105, 110, 103])) ∧ w'.cell? ⟨sb, 1, none⟩ = some (.slice (some ⟨ab, ao, none⟩) 4 cA)) W))
  have kd := (Kept.refl NoF w0).drew
  have bp0 := kd.blk bp (fun h => h)
  have bq0 := kd.blk bq (fun h => h)
  have kww0 := kw0.trans kd (fun _ h => .inl h)
  have kx0 := kd.mono (G := fun b => b = g) (fun _ h => h.elim)
  refine wp_region_noPanic ?_
  refine wp_region_held_drew (S := (fun (w' : World) => w'.cell? ⟨pb, 2, none⟩ = some (.slice (some ⟨g, 0, none⟩) (l.length + 1) cap) ∧ w'.cell? ⟨sb, 0, none⟩ = some (.string (ba [99, 117, 116, 116, 105, 110, 103])) ∧ w'.cell? ⟨sb, 1, none⟩ = some (.slice (some ⟨ab, ao, none⟩) 4 cA))) (by kernel_rfl) ?_ (fun hHeld => ?_)
  · exact SA.out _ kx0
  refine wpAnyH_take (i := 0) (v := ?_) rfl (by kernel_rfl) (by kernel_rfl) (by kernel_rfl) (fun _ _ _ h => h) (Or.inl ⟨by rfl, ?_⟩) hHeld ?_
  rotate_left
  · (intro w hSw; (try dsimp only at hSw); go_simp; try (with_reducible rfl))
  simp only [Act.put, List.getElem_toArray, List.getElem_cons_zero, List.setIfInBounds_toArray, List.set_cons_zero, List.set_cons_succ]
  refine wpAnyH_take (i := 1) (v := ?_) rfl (by kernel_rfl) (by kernel_rfl) (by kernel_rfl) (fun _ _ _ h => h) (Or.inl ⟨by rfl, ?_⟩) hHeld ?_
  rotate_left
  · (intro w hSw; (try dsimp only at hSw); go_simp; try (with_reducible rfl))
  simp only [Act.put, List.getElem_toArray, List.getElem_cons_zero, List.getElem_cons_succ, List.setIfInBounds_toArray, List.set_cons_zero, List.set_cons_succ]
  refine wpAnyH_take (i := 2) (v := ?_) rfl (by kernel_rfl) (by kernel_rfl) (by kernel_rfl) (fun _ _ _ h => h) (Or.inl ⟨by rfl, ?_⟩) hHeld ?_
  rotate_left
  · (intro w hSw; (try dsimp only at hSw); go_simp; try (with_reducible rfl))
  simp only [Act.put, List.getElem_toArray, List.getElem_cons_zero, List.getElem_cons_succ, List.setIfInBounds_toArray, List.set_cons_zero, List.set_cons_succ]
  refine wpAnyH_take (i := 3) (v := ?_) rfl (by kernel_rfl) (by kernel_rfl) (by kernel_rfl) (fun _ _ _ h => h) (Or.inl ⟨by rfl, ?_⟩) hHeld ?_
  rotate_left
  · (intro w hSw; (try dsimp only at hSw); go_simp; try (with_reducible rfl))
  simp only [Act.put, List.getElem_toArray, List.getElem_cons_zero, List.getElem_cons_succ, List.setIfInBounds_toArray, List.set_cons_zero, List.set_cons_succ]
  refine wpAnyH_take (i := 5) (v := ?_) rfl (by kernel_rfl) (by kernel_rfl) (by kernel_rfl) (fun _ _ _ h => h) (Or.inl ⟨by rfl, ?_⟩) hHeld ?_
  rotate_left
  · (intro w hSw; (try dsimp only at hSw); go_simp; try (with_reducible rfl))
  simp only [Act.put, List.getElem_toArray, List.getElem_cons_zero, List.getElem_cons_succ, List.setIfInBounds_toArray, List.set_cons_zero, List.set_cons_succ]
  refine wpAnyH_take (i := 7) (v := ?_) rfl (by kernel_rfl) (by kernel_rfl) (by kernel_rfl) (fun _ _ _ h => h) (Or.inl ⟨by rfl, ?_⟩) hHeld ?_
  rotate_left
  · (intro w hSw; (try dsimp only at hSw); go_simp; try (with_reducible rfl))
  simp only [Act.put, List.getElem_toArray, List.getElem_cons_zero, List.getElem_cons_succ, List.setIfInBounds_toArray, List.set_cons_zero, List.set_cons_succ]
  refine wpAnyH_take (i := 9) (v := ?_) rfl (by kernel_rfl) (by kernel_rfl) (by kernel_rfl) (fun _ _ _ h => h) (Or.inl ⟨by rfl, ?_⟩) hHeld ?_
  rotate_left
  · (intro w hSw; (try dsimp only at hSw); go_simp; try (with_reducible rfl))
  simp only [Act.put, List.getElem_toArray, List.getElem_cons_zero, List.getElem_cons_succ, List.setIfInBounds_toArray, List.set_cons_zero, List.set_cons_succ]
  refine wpAnyH_ready (rs := [4]) (by kernel_rfl) (by simp) ?_
  refine AllReadyH.cons rfl (fun K hK => ?_) AllReadyH.nil
  go_simp
  refine (CN0.out _ kww0.below_mono).mono ?_
  rintro e w1 ⟨rfl, kc1⟩
  have bp1 := kc1.blk bp0 (fun h => h)
  have bq1 := kc1.blk bq0 (fun h => h)
  have kww1 := kww0.trans kc1 (fun _ h => .inl h)
  have kx1 := kx0.trans kc1 (fun _ h => h.elim)
  go_wp2_with fail
  refine hK.out _ _ (SA.out _ kx1) (fun hHeld => ?_)
  clear hK K
  try simp only [Act.put, List.getElem_toArray, List.getElem_cons_zero, List.getElem_cons_succ, List.setIfInBounds_toArray, List.set_cons_zero, List.set_cons_succ]
  refine wpAnyH_ready (rs := [6]) (by kernel_rfl) (by simp) ?_
  refine AllReadyH.cons rfl (fun K hK => ?_) AllReadyH.nil
  go_simp
  refine (CN1.out _ kww1.below_mono).mono ?_
  rintro e w2 ⟨rfl, kc2⟩
  have bp2 := kc2.blk bp1 (fun h => h)
  have bq2 := kc2.blk bq1 (fun h => h)
  have kww2 := kww1.trans kc2 (fun _ h => .inl h)
  have kx2 := kx1.trans kc2 (fun _ h => h.elim)
  go_wp2_with fail
  refine hK.out _ _ (SA.out _ kx2) (fun hHeld => ?_)
  clear hK K
  try simp only [Act.put, List.getElem_toArray, List.getElem_cons_zero, List.getElem_cons_succ, List.setIfInBounds_toArray, List.set_cons_zero, List.set_cons_succ]
  refine wpAnyH_ready (rs := [8]) (by kernel_rfl) (by simp) ?_
  refine AllReadyH.cons rfl (fun K hK => ?_) AllReadyH.nil
  go_simp
  refine (CN2.out _ kww2.below_mono).mono ?_
  rintro e w3 ⟨rfl, kc3⟩
  have bp3 := kc3.blk bp2 (fun h => h)
  have bq3 := kc3.blk bq2 (fun h => h)
  have kww3 := kww2.trans kc3 (fun _ h => .inl h)
  have kx3 := kx2.trans kc3 (fun _ h => h.elim)
  go_wp2_with fail
  refine hK.out _ _ (SA.out _ kx3) (fun hHeld => ?_)
  clear hK K
  try simp only [Act.put, List.getElem_toArray, List.getElem_cons_zero, List.getElem_cons_succ, List.setIfInBounds_toArray, List.set_cons_zero, List.set_cons_succ]
  refine wpAnyH_ready (rs := [10]) (by kernel_rfl) (by simp) ?_
  refine AllReadyH.cons rfl (fun K hK => ?_) AllReadyH.nil
  go_simp
  refine (CN3.out _ kww3.below_mono).mono ?_
  rintro e w4 ⟨rfl, kc4⟩
  have bp4 := kc4.blk bp3 (fun h => h)
  have bq4 := kc4.blk bq3 (fun h => h)
  have kww4 := kww3.trans kc4 (fun _ h => .inl h)
  have kx4 := kx3.trans kc4 (fun _ h => h.elim)
  have hr4 := hr.same kww4
  have z4 : ∀ i, w4.frozen? ⟨g, i, none⟩ = false := fun i => vrow_frozen hr4 hl i
  obtain ⟨u0, f0⟩ := vrow_cell hr4 hl 6 (by omega)
  obtain ⟨u1, f1⟩ := vrow_cell hr4 hl 7 (by omega)
  obtain ⟨u2, f2⟩ := vrow_cell hr4 hl 8 (by omega)
  obtain ⟨u3, f3⟩ := vrow_cell hr4 hl 9 (by omega)
  obtain ⟨u4, f4⟩ := vrow_cell hr4 hl 10 (by omega)
  go_wp2_with fail
  refine hK.out _ _ (SA.out _ kx4) (fun hHeld => ?_)
  clear hK K
  try simp only [Act.put, List.getElem_toArray, List.getElem_cons_zero, List.getElem_cons_succ, List.setIfInBounds_toArray, List.set_cons_zero, List.set_cons_succ]
  refine wpAnyH_take (i := 11) (v := ?_) rfl (by kernel_rfl) (by kernel_rfl) (by kernel_rfl) (fun _ _ _ h => h) (Or.inl ⟨by rfl, ?_⟩) hHeld ?_
  rotate_left
  · (intro w hSw; (try dsimp only at hSw); go_simp; try (with_reducible rfl))
  simp only [Act.put, List.getElem_toArray, List.getElem_cons_zero, List.getElem_cons_succ, List.setIfInBounds_toArray, List.set_cons_zero, List.set_cons_succ]
  refine wpAnyH_take (i := 12) (v := ?_) rfl (by kernel_rfl) (by kernel_rfl) (by kernel_rfl) (fun _ _ _ h => h) (Or.inl ⟨by rfl, ?_⟩) hHeld ?_
  rotate_left
  · (intro w hSw; (try dsimp only at hSw); go_simp; try (with_reducible rfl))
  simp only [Act.put, List.getElem_toArray, List.getElem_cons_zero, List.getElem_cons_succ, List.setIfInBounds_toArray, List.set_cons_zero, List.set_cons_succ]
  refine wpAnyH_take (i := 13) (v := ?_) rfl (by kernel_rfl) (by kernel_rfl) (by kernel_rfl) (fun _ _ _ h => h) (Or.inl ⟨by rfl, ?_⟩) hHeld ?_
  rotate_left
  · (intro w hSw; (try dsimp only at hSw); go_simp; try (with_reducible rfl))
  simp only [Act.put, List.getElem_toArray, List.getElem_cons_zero, List.getElem_cons_succ, List.setIfInBounds_toArray, List.set_cons_zero, List.set_cons_succ]
  refine wpAnyH_ready (rs := [14]) (by kernel_rfl) (by simp) ?_
  refine AllReadyH.cons rfl (fun K hK => ?_) AllReadyH.nil
  go_simp
  refine hK.out _ _ (SA.out _ (kept_puts (m := l.length * 15) kx4 [(6, .int .i64 (nv a0)), (7, .int .i64 (nv a1)), (8, .int .i64 (nv a2)), (9, .int .i64 (nv a3)), (10, .int .u64 0)])) (fun hHeld => ?_)
  clear hK K
  try simp only [Act.put, List.getElem_toArray, List.getElem_cons_zero, List.getElem_cons_succ, List.setIfInBounds_toArray, List.set_cons_zero, List.set_cons_succ]
  refine wpAnyH_done (by kernel_rfl) ?_ _
  refine NoPanic.normal ?_
  obtain ⟨vl', hp, kp, haw⟩ := RowsAt.put2 (v' := { v with c0 := nv a0, c1 := nv a1, c2 := nv a2, c3 := nv a3 }) [(6, .int .i64 (nv a0)), (7, .int .i64 (nv a1)), (8, .int .i64 (nv a2)), (9, .int .i64 (nv a3)), (10, .int .u64 0)] hr4 hl rfl rfl (fun _ _ => rfl)
  have bf := kp.blk bp4 (by show ¬ pb = g; omega)
  have bqf := kp.blk bq4 (by show ¬ qb = g; omega)
  have kf : Kept (fun k => B ≤ k) w _ := kww4.below_mono.trans kp (fun x e => .inl (by show B ≤ x; omega))
  have awq := haw qb awq0
  have hrf := hp
  simp only [List.foldl_cons, List.foldl_nil] at bf bqf kf hrf
  clear hp kp haw awq0 f0 f1 f2 f3 f4
  go_upto_region 22 with fail
  generalize (((((w4.setCell ⟨g, l.length * 15 + 6, none⟩ (.int .i64 (nv a0))).setCell ⟨g, l.length * 15 + 7, none⟩ (.int .i64 (nv a1))).setCell ⟨g, l.length * 15 + 8, none⟩ (.int .i64 (nv a2))).setCell ⟨g, l.length * 15 + 9, none⟩ (.int .i64 (nv a3))).setCell ⟨g, l.length * 15 + 10, none⟩ (.int .u64 0)) = Wf at bf bqf hrf kf ⊢
  have zr : ∀ i, Wf.frozen? ⟨qb, i, none⟩ = false := fun i => bqf.frozen i
  have f0 := (bf.cell 0).trans (show _ = some (.slice U1 d.names.length cu1) from rfl)
  have f1 := (bf.cell 1).trans (show _ = some (.slice U2 d.quotas.length cu2) from rfl)
  have f2 := (bf.cell 2).trans (show _ = some (.slice (some ⟨g, 0, none⟩) (l.length + 1) cap) from rfl)
  have f3 := (bf.cell 3).trans (show _ = some (.int .i64 d.quorum) from rfl)
  have f4 := (bf.cell 4).trans (show _ = some (.string (ba d.seed)) from rfl)
  have f5 := (bf.cell 5).trans (show _ = some (.int .i64 d.bits) from rfl)
  have f6 := (bf.cell 6).trans (show _ = some (.int .i64 d.height) from rfl)
  have f7 := (bf.cell 7).trans (show _ = some (.int .i64 d.sectors) from rfl)
  have f8 := (bf.cell 8).trans (show _ = some (.int .i64 d.size) from rfl)
  have f9 := (bf.cell 9).trans (show _ = some (.int .i64 d.day) from rfl)
  have f10 := (bf.cell 10).trans (show _ = some (.int .i64 d.leap) from rfl)
  have f11 := (bf.cell 11).trans (show _ = some (.int .i64 d.agree) from rfl)
  have r0 := (bqf.cell 0).trans (show _ = some (.slice none 0 0) from rfl)
  have r1 := (bqf.cell 1).trans (show _ = some (.slice none 0 0) from rfl)
  have r2 := (bqf.cell 2).trans (show _ = some (.slice none 0 0) from rfl)
  have r3 := (bqf.cell 3).trans (show _ = some (.int .i64 0) from rfl)
  have r4 := (bqf.cell 4).trans (show _ = some (.string ⟨#[]⟩) from rfl)
  have r5 := (bqf.cell 5).trans (show _ = some (.int .i64 0) from rfl)
  have r6 := (bqf.cell 6).trans (show _ = some (.int .i64 0) from rfl)
  have r7 := (bqf.cell 7).trans (show _ = some (.int .i64 0) from rfl)
  have r8 := (bqf.cell 8).trans (show _ = some (.int .i64 0) from rfl)
  have r9 := (bqf.cell 9).trans (show _ = some (.int .i64 0) from rfl)
  have r10 := (bqf.cell 10).trans (show _ = some (.int .i64 0) from rfl)
  have r11 := (bqf.cell 11).trans (show _ = some (.int .i64 0) from rfl)
  have HBQ := Lib.hid (show Blk Wf qb 63 (setZ.cells (.slice none 0 0) (.slice none 0 0) (.slice none 0 0)) from bqf)
  have HRF := Lib.hid hrf
  have HKF := Lib.hid kf
  have HAW := Lib.hid awq
  clear bf bqf hrf kf awq
  go_wp2_with fail
  have hbz := rblk_puts HBQ.out (rsetList { d with vaults := l ++ [{ v with c0 := nv a0, c1 := nv a1, c2 := nv a2, c3 := nv a3 }] } (.slice U1 d.names.length cu1) (.slice U2 d.quotas.length cu2) (.slice (some ⟨g, 0, none⟩) (l.length + 1) cap))
  have kz := rkept_puts0 (Kept.refl (fun b => b = qb) Wf) qb rfl (rsetList { d with vaults := l ++ [{ v with c0 := nv a0, c1 := nv a1, c2 := nv a2, c3 := nv a3 }] } (.slice U1 d.names.length cu1) (.slice U2 d.quotas.length cu2) (.slice (some ⟨g, 0, none⟩) (l.length + 1) cap))
  have hz := RowsAt.boxed HRF.out kz HBQ.out HAW.out
  rw [rsetList_cells] at hbz
  simp only [rsetList, List.foldl_cons, List.foldl_nil] at hbz kz hz
  refine bodyPost_ret (results_decl (cs := SetD.cells { d with vaults := l ++ [{ v with c0 := nv a0, c1 := nv a1, c2 := nv a2, c3 := nv a3 }] } (.slice U1 d.names.length cu1) (.slice U2 d.quotas.length cu2) (.slice (some ⟨g, 0, none⟩) (l.length + 1) cap)) rfl rfl hbz) rfl ?_
  rw [HDC.out, hl, lastV_snoc]
  exact ⟨(.slice U1 d.names.length cu1), (.slice U2 d.quotas.length cu2), (.slice (some ⟨g, 0, none⟩) (l.length + 1) cap), vl', rfl, ⟨hz.n0, hz.n1, hz.n2, hz.n3, hz.n4⟩, HKF.out.trans kz (fun x e => .inl (by show B ≤ x; omega))⟩

set_option maxHeartbeats 4000000 in
set_option maxRecDepth 100000 in
theorem rdecl_rules {w : World} {B : Nat} {d : SetD} {nm qs vs : Value} {vl : List (VaultD × Option Addr × Nat)} (hr : RowsAt w B d nm qs vs vl) (hBw : B ≤ w.heap.size) (ab ao cA : Nat) (a0 a1 a2 a3 : List UInt8) (hA : StrsAt w (some ⟨ab, ao, none⟩) [a0, a1, a2, a3]) (hab : ab < B) (hs : ∀ a ∈ [a0, a1, a2, a3], a.length ≤ 65536) (hne : d.vaults.isEmpty = false) :
    Calls Tryz.prog 52 #[.agg (d.cells nm qs vs), .agg #[.string (ba [114, 117, 108, 101, 115]), .slice (some ⟨ab, ao, none⟩) 4 cA]] w (DeclPost (decl d [114, 117, 108, 101, 115] [a0, a1, a2, a3]) B w) := by
  obtain ⟨l, v, hl⟩ := snoc_of hne
  obtain ⟨g, cap, rfl, hgB, _⟩ := vrow_form (xb := B - 1) hr hl (by omega)
  have hi : IntKind.i64.wrap (l.length : Int) = (l.length : Int) := by have := vrow_small hr hl; exact wrap_len this
  have hi1 : (l.length : Int) < (l.length : Int) + 1 := by omega
  have hgw : g < w.heap.size := (hr.n3.lt g rfl).2
  obtain ⟨U1, cu1, rfl, _, _⟩ := own_form hr.n1
  obtain ⟨U2, cu2, rfl, _, _⟩ := own_form hr.n2
  have HDC := Lib.hid (decl_rules d a0 a1 a2 a3)
  have CN0 := Lib.hid (fun (W : World) (k : Kept (fun b => B ≤ b) w W) => (show Calls Tryz.prog 47 #[.agg #[.string (ba [114, 117, 108, 101, 115]), .slice (some ⟨ab, ao, none⟩) 4 cA], .int .i64 0] W fun e W' => e = .returned (.int .i64 (nv a0)) ∧ Kept NoF W W' from
    (rnumber_any (ba [114, 117, 108, 101, 115]) (some ⟨ab, ao, none⟩) cA [a0, a1, a2, a3] W (k.src hA (fun ad e _ hf => by cases e; exact absurd hf (by show ¬ B ≤ ab; omega))) 0 (by simp) (fun a ha => by have := hs a ha; omega)).mono (fun e W' h => ⟨h.1, Kept.of_below h.2⟩)))
  have CN1 := Lib.hid (fun (W : World) (k : Kept (fun b => B ≤ b) w W) => (show Calls Tryz.prog 47 #[.agg #[.string (ba [114, 117, 108, 101, 115]), .slice (some ⟨ab, ao, none⟩) 4 cA], .int .i64 1] W fun e W' => e = .returned (.int .i64 (nv a1)) ∧ Kept NoF W W' from
    (rnumber_any (ba [114, 117, 108, 101, 115]) (some ⟨ab, ao, none⟩) cA [a0, a1, a2, a3] W (k.src hA (fun ad e _ hf => by cases e; exact absurd hf (by show ¬ B ≤ ab; omega))) 1 (by simp) (fun a ha => by have := hs a ha; omega)).mono (fun e W' h => ⟨h.1, Kept.of_below h.2⟩)))
  have CN2 := Lib.hid (fun (W : World) (k : Kept (fun b => B ≤ b) w W) => (show Calls Tryz.prog 47 #[.agg #[.string (ba [114, 117, 108, 101, 115]), .slice (some ⟨ab, ao, none⟩) 4 cA], .int .i64 2] W fun e W' => e = .returned (.int .i64 (nv a2)) ∧ Kept NoF W W' from
    (rnumber_any (ba [114, 117, 108, 101, 115]) (some ⟨ab, ao, none⟩) cA [a0, a1, a2, a3] W (k.src hA (fun ad e _ hf => by cases e; exact absurd hf (by show ¬ B ≤ ab; omega))) 2 (by simp) (fun a ha => by have := hs a ha; omega)).mono (fun e W' h => ⟨h.1, Kept.of_below h.2⟩)))
  have CN3 := Lib.hid (fun (W : World) (k : Kept (fun b => B ≤ b) w W) => (show Calls Tryz.prog 47 #[.agg #[.string (ba [114, 117, 108, 101, 115]), .slice (some ⟨ab, ao, none⟩) 4 cA], .int .i64 3] W fun e W' => e = .returned (.int .i64 (nv a3)) ∧ Kept NoF W W' from
    (rnumber_any (ba [114, 117, 108, 101, 115]) (some ⟨ab, ao, none⟩) cA [a0, a1, a2, a3] W (k.src hA (fun ad e _ hf => by cases e; exact absurd hf (by show ¬ B ≤ ab; omega))) 3 (by simp) (fun a ha => by have := hs a ha; omega)).mono (fun e W' h => ⟨h.1, Kept.of_below h.2⟩)))
  have bp := ((Blk.new w 63 #[.slice U1 d.names.length cu1, .slice U2 d.quotas.length cu2, .slice (some ⟨g, 0, none⟩) (l.length + 1) cap, .int .i64 d.quorum, .string (ba d.seed), .int .i64 d.bits, .int .i64 d.height, .int .i64 d.sectors, .int .i64 d.size, .int .i64 d.day, .int .i64 d.leap, .int .i64 d.agree]).alloc (.cells #[.string (ba [114, 117, 108, 101, 115]), .slice (some ⟨ab, ao, none⟩) 4 cA] 39)).alloc (.cells #[.slice none 0 0, .slice none 0 0, .slice none 0 0, .int .i64 0, .string ⟨#[]⟩, .int .i64 0, .int .i64 0, .int .i64 0, .int .i64 0, .int .i64 0, .int .i64 0, .int .i64 0] 63)
  have bs := at_size (b := w.heap.size + 1) (by simp) ((Blk.new (w.alloc (.cells #[.slice U1 d.names.length cu1, .slice U2 d.quotas.length cu2, .slice (some ⟨g, 0, none⟩) (l.length + 1) cap, .int .i64 d.quorum, .string (ba d.seed), .int .i64 d.bits, .int .i64 d.height, .int .i64 d.sectors, .int .i64 d.size, .int .i64 d.day, .int .i64 d.leap, .int .i64 d.agree] 63)) 39 #[.string (ba [114, 117, 108, 101, 115]), .slice (some ⟨ab, ao, none⟩) 4 cA]).alloc (.cells #[.slice none 0 0, .slice none 0 0, .slice none 0 0, .int .i64 0, .string ⟨#[]⟩, .int .i64 0, .int .i64 0, .int .i64 0, .int .i64 0, .int .i64 0, .int .i64 0, .int .i64 0] 63))
  have bq := at_size (b := w.heap.size + 1 + 1) (by simp) (Blk.new ((w.alloc (.cells #[.slice U1 d.names.length cu1, .slice U2 d.quotas.length cu2, .slice (some ⟨g, 0, none⟩) (l.length + 1) cap, .int .i64 d.quorum, .string (ba d.seed), .int .i64 d.bits, .int .i64 d.height, .int .i64 d.sectors, .int .i64 d.size, .int .i64 d.day, .int .i64 d.leap, .int .i64 d.agree] 63)).alloc (.cells #[.string (ba [114, 117, 108, 101, 115]), .slice (some ⟨ab, ao, none⟩) 4 cA] 39)) 63 #[.slice none 0 0, .slice none 0 0, .slice none 0 0, .int .i64 0, .string ⟨#[]⟩, .int .i64 0, .int .i64 0, .int .i64 0, .int .i64 0, .int .i64 0, .int .i64 0, .int .i64 0])
  have kw0 := (((Kept.refl NoF w).alloc (.cells #[.slice U1 d.names.length cu1, .slice U2 d.quotas.length cu2, .slice (some ⟨g, 0, none⟩) (l.length + 1) cap, .int .i64 d.quorum, .string (ba d.seed), .int .i64 d.bits, .int .i64 d.height, .int .i64 d.sectors, .int .i64 d.size, .int .i64 d.day, .int .i64 d.leap, .int .i64 d.agree] 63)).alloc (.cells #[.string (ba [114, 117, 108, 101, 115]), .slice (some ⟨ab, ao, none⟩) 4 cA] 39)).alloc (.cells #[.slice none 0 0, .slice none 0 0, .slice none 0 0, .int .i64 0, .string ⟨#[]⟩, .int .i64 0, .int .i64 0, .int .i64 0, .int .i64 0, .int .i64 0, .int .i64 0, .int .i64 0] 63)
  show Calls Tryz.prog 52 #[.agg #[.slice U1 d.names.length cu1, .slice U2 d.quotas.length cu2, .slice (some ⟨g, 0, none⟩) (l.length + 1) cap, .int .i64 d.quorum, .string (ba d.seed), .int .i64 d.bits, .int .i64 d.height, .int .i64 d.sectors, .int .i64 d.size, .int .i64 d.day, .int .i64 d.leap, .int .i64 d.agree], .agg #[.string (ba [114, 117, 108, 101, 115]), .slice (some ⟨ab, ao, none⟩) 4 cA]] w _
  go_enter Tryz.func52, Tryz.ntmps52
  go_upto_region 1 with fail
  generalize ((w.alloc (.cells #[.slice U1 d.names.length cu1, .slice U2 d.quotas.length cu2, .slice (some ⟨g, 0, none⟩) (l.length + 1) cap, .int .i64 d.quorum, .string (ba d.seed), .int .i64 d.bits, .int .i64 d.height, .int .i64 d.sectors, .int .i64 d.size, .int .i64 d.day, .int .i64 d.leap, .int .i64 d.agree] 63)).alloc (.cells #[.string (ba [114, 117, 108, 101, 115]), .slice (some ⟨ab, ao, none⟩) 4 cA] 39)).alloc (.cells #[.slice none 0 0, .slice none 0 0, .slice none 0 0, .int .i64 0, .string ⟨#[]⟩, .int .i64 0, .int .i64 0, .int .i64 0, .int .i64 0, .int .i64 0, .int .i64 0, .int .i64 0] 63) = w0 at bp bs bq kw0 ⊢
  have hBp := hBw
  generalize hqb : w.heap.size + 1 + 1 = qb at bq ⊢
  generalize hsb : w.heap.size + 1 = sb at bs ⊢
  generalize hpb : w.heap.size = pb at bp hBp hgw ⊢
  have hpw : w.heap.size ≤ pb ∧ pb < sb ∧ sb < qb := by omega
  clear hpb hsb hqb
  obtain ⟨hpw, hps, hsq⟩ := hpw
  have e2 := (bp.cell 2).trans (show _ = some (.slice (some ⟨g, 0, none⟩) (l.length + 1) cap) from rfl)
  have s0 := (bs.cell 0).trans (show _ = some (.string (ba [114, 117, 108, 101, 115])) from rfl)
  have s1 := (bs.cell 1).trans (show _ = some (.slice (some ⟨ab, ao, none⟩) 4 cA) from rfl)
  have q_device : ((ba [114, 117, 108, 101, 115]).toList == [100, 101, 118, 105, 99, 101]) = false := by rw [cmp_ba]; decide
  have q_vault : ((ba [114, 117, 108, 101, 115]).toList == [118, 97, 117, 108, 116]) = false := by rw [cmp_ba]; decide
  have q_cutting : ((ba [114, 117, 108, 101, 115]).toList == [99, 117, 116, 116, 105, 110, 103]) = false := by rw [cmp_ba]; decide
  have q_rules : ((ba [114, 117, 108, 101, 115]).toList == [114, 117, 108, 101, 115]) = true := by rw [cmp_ba]; decide
  clear hA hs
  go_upto_region 11 with fail
  have awq0 := hr.away (p := qb) (by omega)
  have SA := Lib.hid (fun (W : World) (k : Kept (fun b => b = g) w0 W) => (⟨k.cell e2 (by show ¬ pb = g; omega), k.cell s0 (by show ¬ sb = g; omega), k.cell s1 (by show ¬ sb = g; omega)⟩ : (fun (w' : World) => w'.cell? ⟨pb, 2, none⟩ = some (.slice (some ⟨g, 0, none⟩) (l.length + 1) cap) ∧ w'.cell? ⟨sb, 0, none⟩ = some (.string (ba [114, 117, 108, 101, 115])) ∧ w'.cell? ⟨sb, 1, none⟩ = some (.slice (some ⟨ab, ao, none⟩) 4 cA)) W))
  have kd := (Kept.refl NoF w0).drew
  have bp0 := kd.blk bp (fun h => h)
  have bq0 := kd.blk bq (fun h => h)
  have kww0 := kw0.trans kd (fun _ h => .inl h)
  have kx0 := kd.mono (G := fun b => b = g) (fun _ h => h.elim)
  refine wp_region_noPanic ?_
  refine wp_region_held_drew (S := (fun (w' : World) => w'.cell? ⟨pb, 2, none⟩ = some (.slice (some ⟨g, 0, none⟩) (l.length + 1) cap) ∧ w'.cell? ⟨sb, 0, none⟩ = some (.string (ba [114, 117, 108, 101, 115])) ∧ w'.cell? ⟨sb, 1, none⟩ = some (.slice (some ⟨ab, ao, none⟩) 4 cA))) (by kernel_rfl) ?_ (fun hHeld => ?_)
  · exact SA.out _ kx0
  refine wpAnyH_take (i := 0) (v := ?_) rfl (by kernel_rfl) (by kernel_rfl) (by kernel_rfl) (fun _ _ _ h => h) (Or.inl ⟨by rfl, ?_⟩) hHeld ?_
  rotate_left
  · (intro w hSw; (try dsimp only at hSw); go_simp; try (with_reducible rfl))
  simp only [Act.put, List.getElem_toArray, List.getElem_cons_zero, List.setIfInBounds_toArray, List.set_cons_zero, List.set_cons_succ]
  refine wpAnyH_take (i := 1) (v := ?_) rfl (by kernel_rfl) (by kernel_rfl) (by kernel_rfl) (fun _ _ _ h => h) (Or.inl ⟨by rfl, ?_⟩) hHeld ?_
  rotate_left
  · (intro w hSw; (try dsimp only at hSw); go_simp; try (with_reducible rfl))
  simp only [Act.put, List.getElem_toArray, List.getElem_cons_zero, List.getElem_cons_succ, List.setIfInBounds_toArray, List.set_cons_zero, List.set_cons_succ]
  refine wpAnyH_take (i := 2) (v := ?_) rfl (by kernel_rfl) (by kernel_rfl) (by kernel_rfl) (fun _ _ _ h => h) (Or.inl ⟨by rfl, ?_⟩) hHeld ?_
  rotate_left
  · (intro w hSw; (try dsimp only at hSw); go_simp; try (with_reducible rfl))
  simp only [Act.put, List.getElem_toArray, List.getElem_cons_zero, List.getElem_cons_succ, List.setIfInBounds_toArray, List.set_cons_zero, List.set_cons_succ]
  refine wpAnyH_take (i := 3) (v := ?_) rfl (by kernel_rfl) (by kernel_rfl) (by kernel_rfl) (fun _ _ _ h => h) (Or.inl ⟨by rfl, ?_⟩) hHeld ?_
  rotate_left
  · (intro w hSw; (try dsimp only at hSw); go_simp; try (with_reducible rfl))
  simp only [Act.put, List.getElem_toArray, List.getElem_cons_zero, List.getElem_cons_succ, List.setIfInBounds_toArray, List.set_cons_zero, List.set_cons_succ]
  refine wpAnyH_take (i := 5) (v := ?_) rfl (by kernel_rfl) (by kernel_rfl) (by kernel_rfl) (fun _ _ _ h => h) (Or.inl ⟨by rfl, ?_⟩) hHeld ?_
  rotate_left
  · (intro w hSw; (try dsimp only at hSw); go_simp; try (with_reducible rfl))
  simp only [Act.put, List.getElem_toArray, List.getElem_cons_zero, List.getElem_cons_succ, List.setIfInBounds_toArray, List.set_cons_zero, List.set_cons_succ]
  refine wpAnyH_take (i := 7) (v := ?_) rfl (by kernel_rfl) (by kernel_rfl) (by kernel_rfl) (fun _ _ _ h => h) (Or.inl ⟨by rfl, ?_⟩) hHeld ?_
  rotate_left
  · (intro w hSw; (try dsimp only at hSw); go_simp; try (with_reducible rfl))
  simp only [Act.put, List.getElem_toArray, List.getElem_cons_zero, List.getElem_cons_succ, List.setIfInBounds_toArray, List.set_cons_zero, List.set_cons_succ]
  refine wpAnyH_take (i := 9) (v := ?_) rfl (by kernel_rfl) (by kernel_rfl) (by kernel_rfl) (fun _ _ _ h => h) (Or.inl ⟨by rfl, ?_⟩) hHeld ?_
  rotate_left
  · (intro w hSw; (try dsimp only at hSw); go_simp; try (with_reducible rfl))
  simp only [Act.put, List.getElem_toArray, List.getElem_cons_zero, List.getElem_cons_succ, List.setIfInBounds_toArray, List.set_cons_zero, List.set_cons_succ]
  refine wpAnyH_ready (rs := [4]) (by kernel_rfl) (by simp) ?_
  refine AllReadyH.cons rfl (fun K hK => ?_) AllReadyH.nil
  go_simp
  refine (CN0.out _ kww0.below_mono).mono ?_
  rintro e w1 ⟨rfl, kc1⟩
  have bp1 := kc1.blk bp0 (fun h => h)
  have bq1 := kc1.blk bq0 (fun h => h)
  have kww1 := kww0.trans kc1 (fun _ h => .inl h)
  have kx1 := kx0.trans kc1 (fun _ h => h.elim)
  go_wp2_with fail
  refine hK.out _ _ (SA.out _ kx1) (fun hHeld => ?_)
  clear hK K
  try simp only [Act.put, List.getElem_toArray, List.getElem_cons_zero, List.getElem_cons_succ, List.setIfInBounds_toArray, List.set_cons_zero, List.set_cons_succ]
  refine wpAnyH_ready (rs := [6]) (by kernel_rfl) (by simp) ?_
  refine AllReadyH.cons rfl (fun K hK => ?_) AllReadyH.nil
  go_simp
  refine (CN1.out _ kww1.below_mono).mono ?_
  rintro e w2 ⟨rfl, kc2⟩
  have bp2 := kc2.blk bp1 (fun h => h)
  have bq2 := kc2.blk bq1 (fun h => h)
  have kww2 := kww1.trans kc2 (fun _ h => .inl h)
  have kx2 := kx1.trans kc2 (fun _ h => h.elim)
  go_wp2_with fail
  refine hK.out _ _ (SA.out _ kx2) (fun hHeld => ?_)
  clear hK K
  try simp only [Act.put, List.getElem_toArray, List.getElem_cons_zero, List.getElem_cons_succ, List.setIfInBounds_toArray, List.set_cons_zero, List.set_cons_succ]
  refine wpAnyH_ready (rs := [8]) (by kernel_rfl) (by simp) ?_
  refine AllReadyH.cons rfl (fun K hK => ?_) AllReadyH.nil
  go_simp
  refine (CN2.out _ kww2.below_mono).mono ?_
  rintro e w3 ⟨rfl, kc3⟩
  have bp3 := kc3.blk bp2 (fun h => h)
  have bq3 := kc3.blk bq2 (fun h => h)
  have kww3 := kww2.trans kc3 (fun _ h => .inl h)
  have kx3 := kx2.trans kc3 (fun _ h => h.elim)
  go_wp2_with fail
  refine hK.out _ _ (SA.out _ kx3) (fun hHeld => ?_)
  clear hK K
  try simp only [Act.put, List.getElem_toArray, List.getElem_cons_zero, List.getElem_cons_succ, List.setIfInBounds_toArray, List.set_cons_zero, List.set_cons_succ]
  refine wpAnyH_ready (rs := [10]) (by kernel_rfl) (by simp) ?_
  refine AllReadyH.cons rfl (fun K hK => ?_) AllReadyH.nil
  go_simp
  refine (CN3.out _ kww3.below_mono).mono ?_
  rintro e w4 ⟨rfl, kc4⟩
  have bp4 := kc4.blk bp3 (fun h => h)
  have bq4 := kc4.blk bq3 (fun h => h)
  have kww4 := kww3.trans kc4 (fun _ h => .inl h)
  have kx4 := kx3.trans kc4 (fun _ h => h.elim)
  have hr4 := hr.same kww4
  have z4 : ∀ i, w4.frozen? ⟨g, i, none⟩ = false := fun i => vrow_frozen hr4 hl i
  obtain ⟨u0, f0⟩ := vrow_cell hr4 hl 11 (by omega)
  obtain ⟨u1, f1⟩ := vrow_cell hr4 hl 12 (by omega)
  obtain ⟨u2, f2⟩ := vrow_cell hr4 hl 13 (by omega)
  obtain ⟨u3, f3⟩ := vrow_cell hr4 hl 14 (by omega)
  go_wp2_with fail
  refine hK.out _ _ (SA.out _ kx4) (fun hHeld => ?_)
  clear hK K
  try simp only [Act.put, List.getElem_toArray, List.getElem_cons_zero, List.getElem_cons_succ, List.setIfInBounds_toArray, List.set_cons_zero, List.set_cons_succ]
  refine wpAnyH_take (i := 11) (v := ?_) rfl (by kernel_rfl) (by kernel_rfl) (by kernel_rfl) (fun _ _ _ h => h) (Or.inl ⟨by rfl, ?_⟩) hHeld ?_
  rotate_left
  · (intro w hSw; (try dsimp only at hSw); go_simp; try (with_reducible rfl))
  simp only [Act.put, List.getElem_toArray, List.getElem_cons_zero, List.getElem_cons_succ, List.setIfInBounds_toArray, List.set_cons_zero, List.set_cons_succ]
  refine wpAnyH_take (i := 12) (v := ?_) rfl (by kernel_rfl) (by kernel_rfl) (by kernel_rfl) (fun _ _ _ h => h) (Or.inl ⟨by rfl, ?_⟩) hHeld ?_
  rotate_left
  · (intro w hSw; (try dsimp only at hSw); go_simp; try (with_reducible rfl))
  simp only [Act.put, List.getElem_toArray, List.getElem_cons_zero, List.getElem_cons_succ, List.setIfInBounds_toArray, List.set_cons_zero, List.set_cons_succ]
  refine wpAnyH_take (i := 13) (v := ?_) rfl (by kernel_rfl) (by kernel_rfl) (by kernel_rfl) (fun _ _ _ h => h) (Or.inl ⟨by rfl, ?_⟩) hHeld ?_
  rotate_left
  · (intro w hSw; (try dsimp only at hSw); go_simp; try (with_reducible rfl))
  simp only [Act.put, List.getElem_toArray, List.getElem_cons_zero, List.getElem_cons_succ, List.setIfInBounds_toArray, List.set_cons_zero, List.set_cons_succ]
  refine wpAnyH_ready (rs := [14]) (by kernel_rfl) (by simp) ?_
  refine AllReadyH.cons rfl (fun K hK => ?_) AllReadyH.nil
  go_simp
  refine hK.out _ _ (SA.out _ (kept_puts (m := l.length * 15) kx4 [(11, .int .i64 (nv a0)), (12, .int .i64 (nv a1)), (13, .int .i64 (nv a2)), (14, .int .i64 (nv a3))])) (fun hHeld => ?_)
  clear hK K
  try simp only [Act.put, List.getElem_toArray, List.getElem_cons_zero, List.getElem_cons_succ, List.setIfInBounds_toArray, List.set_cons_zero, List.set_cons_succ]
  refine wpAnyH_done (by kernel_rfl) ?_ _
  refine NoPanic.normal ?_
  obtain ⟨vl', hp, kp, haw⟩ := RowsAt.put2 (v' := { v with r0 := nv a0, r1 := nv a1, r2 := nv a2, r3 := nv a3 }) [(11, .int .i64 (nv a0)), (12, .int .i64 (nv a1)), (13, .int .i64 (nv a2)), (14, .int .i64 (nv a3))] hr4 hl rfl rfl (fun _ _ => rfl)
  have bf := kp.blk bp4 (by show ¬ pb = g; omega)
  have bqf := kp.blk bq4 (by show ¬ qb = g; omega)
  have kf : Kept (fun k => B ≤ k) w _ := kww4.below_mono.trans kp (fun x e => .inl (by show B ≤ x; omega))
  have awq := haw qb awq0
  have hrf := hp
  simp only [List.foldl_cons, List.foldl_nil] at bf bqf kf hrf
  clear hp kp haw awq0 f0 f1 f2 f3
  go_upto_region 22 with fail
  generalize ((((w4.setCell ⟨g, l.length * 15 + 11, none⟩ (.int .i64 (nv a0))).setCell ⟨g, l.length * 15 + 12, none⟩ (.int .i64 (nv a1))).setCell ⟨g, l.length * 15 + 13, none⟩ (.int .i64 (nv a2))).setCell ⟨g, l.length * 15 + 14, none⟩ (.int .i64 (nv a3))) = Wf at bf bqf hrf kf ⊢
  have zr : ∀ i, Wf.frozen? ⟨qb, i, none⟩ = false := fun i => bqf.frozen i
  have f0 := (bf.cell 0).trans (show _ = some (.slice U1 d.names.length cu1) from rfl)
  have f1 := (bf.cell 1).trans (show _ = some (.slice U2 d.quotas.length cu2) from rfl)
  have f2 := (bf.cell 2).trans (show _ = some (.slice (some ⟨g, 0, none⟩) (l.length + 1) cap) from rfl)
  have f3 := (bf.cell 3).trans (show _ = some (.int .i64 d.quorum) from rfl)
  have f4 := (bf.cell 4).trans (show _ = some (.string (ba d.seed)) from rfl)
  have f5 := (bf.cell 5).trans (show _ = some (.int .i64 d.bits) from rfl)
  have f6 := (bf.cell 6).trans (show _ = some (.int .i64 d.height) from rfl)
  have f7 := (bf.cell 7).trans (show _ = some (.int .i64 d.sectors) from rfl)
  have f8 := (bf.cell 8).trans (show _ = some (.int .i64 d.size) from rfl)
  have f9 := (bf.cell 9).trans (show _ = some (.int .i64 d.day) from rfl)
  have f10 := (bf.cell 10).trans (show _ = some (.int .i64 d.leap) from rfl)
  have f11 := (bf.cell 11).trans (show _ = some (.int .i64 d.agree) from rfl)
  have r0 := (bqf.cell 0).trans (show _ = some (.slice none 0 0) from rfl)
  have r1 := (bqf.cell 1).trans (show _ = some (.slice none 0 0) from rfl)
  have r2 := (bqf.cell 2).trans (show _ = some (.slice none 0 0) from rfl)
  have r3 := (bqf.cell 3).trans (show _ = some (.int .i64 0) from rfl)
  have r4 := (bqf.cell 4).trans (show _ = some (.string ⟨#[]⟩) from rfl)
  have r5 := (bqf.cell 5).trans (show _ = some (.int .i64 0) from rfl)
  have r6 := (bqf.cell 6).trans (show _ = some (.int .i64 0) from rfl)
  have r7 := (bqf.cell 7).trans (show _ = some (.int .i64 0) from rfl)
  have r8 := (bqf.cell 8).trans (show _ = some (.int .i64 0) from rfl)
  have r9 := (bqf.cell 9).trans (show _ = some (.int .i64 0) from rfl)
  have r10 := (bqf.cell 10).trans (show _ = some (.int .i64 0) from rfl)
  have r11 := (bqf.cell 11).trans (show _ = some (.int .i64 0) from rfl)
  have HBQ := Lib.hid (show Blk Wf qb 63 (setZ.cells (.slice none 0 0) (.slice none 0 0) (.slice none 0 0)) from bqf)
  have HRF := Lib.hid hrf
  have HKF := Lib.hid kf
  have HAW := Lib.hid awq
  clear bf bqf hrf kf awq
  go_wp2_with fail
  have hbz := rblk_puts HBQ.out (rsetList { d with vaults := l ++ [{ v with r0 := nv a0, r1 := nv a1, r2 := nv a2, r3 := nv a3 }] } (.slice U1 d.names.length cu1) (.slice U2 d.quotas.length cu2) (.slice (some ⟨g, 0, none⟩) (l.length + 1) cap))
  have kz := rkept_puts0 (Kept.refl (fun b => b = qb) Wf) qb rfl (rsetList { d with vaults := l ++ [{ v with r0 := nv a0, r1 := nv a1, r2 := nv a2, r3 := nv a3 }] } (.slice U1 d.names.length cu1) (.slice U2 d.quotas.length cu2) (.slice (some ⟨g, 0, none⟩) (l.length + 1) cap))
  have hz := RowsAt.boxed HRF.out kz HBQ.out HAW.out
  rw [rsetList_cells] at hbz
  simp only [rsetList, List.foldl_cons, List.foldl_nil] at hbz kz hz
  refine bodyPost_ret (results_decl (cs := SetD.cells { d with vaults := l ++ [{ v with r0 := nv a0, r1 := nv a1, r2 := nv a2, r3 := nv a3 }] } (.slice U1 d.names.length cu1) (.slice U2 d.quotas.length cu2) (.slice (some ⟨g, 0, none⟩) (l.length + 1) cap)) rfl rfl hbz) rfl ?_
  rw [HDC.out, hl, lastV_snoc]
  exact ⟨(.slice U1 d.names.length cu1), (.slice U2 d.quotas.length cu2), (.slice (some ⟨g, 0, none⟩) (l.length + 1) cap), vl', rfl, ⟨hz.n0, hz.n1, hz.n2, hz.n3, hz.n4⟩, HKF.out.trans kz (fun x e => .inl (by show B ≤ x; omega))⟩

set_option maxHeartbeats 4000000 in
set_option maxRecDepth 100000 in
theorem rdecl_device {w : World} {B : Nat} {d : SetD} {nm qs vs : Value} {vl : List (VaultD × Option Addr × Nat)} (hr : RowsAt w B d nm qs vs vl) (hBw : B ≤ w.heap.size) (ab ao cA : Nat) (a0 a1 : List UInt8) (hA : StrsAt w (some ⟨ab, ao, none⟩) [a0, a1]) (hab : ab < B) (hs : ∀ a ∈ [a0, a1], a.length ≤ 65536) (hN : d.names.length ≤ 100000) (hQ : d.quotas.length ≤ 100000) :
    Calls Tryz.prog 52 #[.agg (d.cells nm qs vs), .agg #[.string (ba [100, 101, 118, 105, 99, 101]), .slice (some ⟨ab, ao, none⟩) 2 cA]] w (DeclPost (decl d [100, 101, 118, 105, 99, 101] [a0, a1]) B w) := by
  obtain ⟨U3, cu3, rfl, _, _⟩ := own_form hr.n3
  have hi := decl_wrap (decl_slen hr)
  obtain ⟨U1, cu1, rfl, _, _⟩ := own_form hr.n1
  obtain ⟨U2, cu2, rfl, _, _⟩ := own_form hr.n2
  have HDC := Lib.hid (decl_device d a0 a1)
  have CN1 := Lib.hid (fun (W : World) (k : Kept (fun b => B ≤ b) w W) => (show Calls Tryz.prog 47 #[.agg #[.string (ba [100, 101, 118, 105, 99, 101]), .slice (some ⟨ab, ao, none⟩) 2 cA], .int .i64 1] W fun e W' => e = .returned (.int .i64 (nv a1)) ∧ Kept NoF W W' from
    (rnumber_any (ba [100, 101, 118, 105, 99, 101]) (some ⟨ab, ao, none⟩) cA [a0, a1] W (k.src hA (fun ad e _ hf => by cases e; exact absurd hf (by show ¬ B ≤ ab; omega))) 1 (by simp) (fun a ha => by have := hs a ha; omega)).mono (fun e W' h => ⟨h.1, Kept.of_below h.2⟩)))
  have bp := ((Blk.new w 63 #[.slice U1 d.names.length cu1, .slice U2 d.quotas.length cu2, .slice U3 d.vaults.length cu3, .int .i64 d.quorum, .string (ba d.seed), .int .i64 d.bits, .int .i64 d.height, .int .i64 d.sectors, .int .i64 d.size, .int .i64 d.day, .int .i64 d.leap, .int .i64 d.agree]).alloc (.cells #[.string (ba [100, 101, 118, 105, 99, 101]), .slice (some ⟨ab, ao, none⟩) 2 cA] 39)).alloc (.cells #[.slice none 0 0, .slice none 0 0, .slice none 0 0, .int .i64 0, .string ⟨#[]⟩, .int .i64 0, .int .i64 0, .int .i64 0, .int .i64 0, .int .i64 0, .int .i64 0, .int .i64 0] 63)
  have bs := at_size (b := w.heap.size + 1) (by simp) ((Blk.new (w.alloc (.cells #[.slice U1 d.names.length cu1, .slice U2 d.quotas.length cu2, .slice U3 d.vaults.length cu3, .int .i64 d.quorum, .string (ba d.seed), .int .i64 d.bits, .int .i64 d.height, .int .i64 d.sectors, .int .i64 d.size, .int .i64 d.day, .int .i64 d.leap, .int .i64 d.agree] 63)) 39 #[.string (ba [100, 101, 118, 105, 99, 101]), .slice (some ⟨ab, ao, none⟩) 2 cA]).alloc (.cells #[.slice none 0 0, .slice none 0 0, .slice none 0 0, .int .i64 0, .string ⟨#[]⟩, .int .i64 0, .int .i64 0, .int .i64 0, .int .i64 0, .int .i64 0, .int .i64 0, .int .i64 0] 63))
  have bq := at_size (b := w.heap.size + 1 + 1) (by simp) (Blk.new ((w.alloc (.cells #[.slice U1 d.names.length cu1, .slice U2 d.quotas.length cu2, .slice U3 d.vaults.length cu3, .int .i64 d.quorum, .string (ba d.seed), .int .i64 d.bits, .int .i64 d.height, .int .i64 d.sectors, .int .i64 d.size, .int .i64 d.day, .int .i64 d.leap, .int .i64 d.agree] 63)).alloc (.cells #[.string (ba [100, 101, 118, 105, 99, 101]), .slice (some ⟨ab, ao, none⟩) 2 cA] 39)) 63 #[.slice none 0 0, .slice none 0 0, .slice none 0 0, .int .i64 0, .string ⟨#[]⟩, .int .i64 0, .int .i64 0, .int .i64 0, .int .i64 0, .int .i64 0, .int .i64 0, .int .i64 0])
  have kw0 := (((Kept.refl NoF w).alloc (.cells #[.slice U1 d.names.length cu1, .slice U2 d.quotas.length cu2, .slice U3 d.vaults.length cu3, .int .i64 d.quorum, .string (ba d.seed), .int .i64 d.bits, .int .i64 d.height, .int .i64 d.sectors, .int .i64 d.size, .int .i64 d.day, .int .i64 d.leap, .int .i64 d.agree] 63)).alloc (.cells #[.string (ba [100, 101, 118, 105, 99, 101]), .slice (some ⟨ab, ao, none⟩) 2 cA] 39)).alloc (.cells #[.slice none 0 0, .slice none 0 0, .slice none 0 0, .int .i64 0, .string ⟨#[]⟩, .int .i64 0, .int .i64 0, .int .i64 0, .int .i64 0, .int .i64 0, .int .i64 0, .int .i64 0] 63)
  show Calls Tryz.prog 52 #[.agg #[.slice U1 d.names.length cu1, .slice U2 d.quotas.length cu2, .slice U3 d.vaults.length cu3, .int .i64 d.quorum, .string (ba d.seed), .int .i64 d.bits, .int .i64 d.height, .int .i64 d.sectors, .int .i64 d.size, .int .i64 d.day, .int .i64 d.leap, .int .i64 d.agree], .agg #[.string (ba [100, 101, 118, 105, 99, 101]), .slice (some ⟨ab, ao, none⟩) 2 cA]] w _
  go_enter Tryz.func52, Tryz.ntmps52
  go_upto_region 1 with fail
  generalize ((w.alloc (.cells #[.slice U1 d.names.length cu1, .slice U2 d.quotas.length cu2, .slice U3 d.vaults.length cu3, .int .i64 d.quorum, .string (ba d.seed), .int .i64 d.bits, .int .i64 d.height, .int .i64 d.sectors, .int .i64 d.size, .int .i64 d.day, .int .i64 d.leap, .int .i64 d.agree] 63)).alloc (.cells #[.string (ba [100, 101, 118, 105, 99, 101]), .slice (some ⟨ab, ao, none⟩) 2 cA] 39)).alloc (.cells #[.slice none 0 0, .slice none 0 0, .slice none 0 0, .int .i64 0, .string ⟨#[]⟩, .int .i64 0, .int .i64 0, .int .i64 0, .int .i64 0, .int .i64 0, .int .i64 0, .int .i64 0] 63) = w0 at bp bs bq kw0 ⊢
  have hBp := hBw
  generalize hqb : w.heap.size + 1 + 1 = qb at bq ⊢
  generalize hsb : w.heap.size + 1 = sb at bs ⊢
  generalize hpb : w.heap.size = pb at bp hBp ⊢
  have hpw : w.heap.size ≤ pb ∧ pb < sb ∧ sb < qb := by omega
  clear hpb hsb hqb
  obtain ⟨hpw, hps, hsq⟩ := hpw
  have e2 := (bp.cell 2).trans (show _ = some (.slice U3 d.vaults.length cu3) from rfl)
  have s0 := (bs.cell 0).trans (show _ = some (.string (ba [100, 101, 118, 105, 99, 101])) from rfl)
  have s1 := (bs.cell 1).trans (show _ = some (.slice (some ⟨ab, ao, none⟩) 2 cA) from rfl)
  have q_device : ((ba [100, 101, 118, 105, 99, 101]).toList == [100, 101, 118, 105, 99, 101]) = true := by rw [cmp_ba]; decide
  have cx0 : w0.cell? ⟨ab, ao, none⟩ = some (.string (ba a0)) := kw0.cell (hA.cell_ (k := 0) (by simp)) (fun h => h)
  clear hA hs
  go_upto_region 4 with fail
  obtain ⟨i0, hi0, hi1, hi2, hi3⟩ := info_parts info9
  obtain ⟨j0, hj0, hj1, hj2, hj3⟩ := info_parts info3
  have awq := hr.away (p := qb) (by omega)
  have awp := hr.away (p := pb) (by omega)
  have kd := (Kept.refl NoF w0).drew
  have bp0 := kd.blk bp (fun h => h)
  have bs0 := kd.blk bs (fun h => h)
  have bq0 := kd.blk bq (fun h => h)
  have kww0 := kw0.trans kd (fun _ h => .inl h)
  refine wp_region_noPanic ?_
  refine wp_region_until (by kernel_rfl) 15 (fun (w' : World) => w'.cell? ⟨pb, 0, none⟩ = some (.slice U1 d.names.length cu1) ∧ w'.cell? ⟨pb, 1, none⟩ = some (.slice U2 d.quotas.length cu2) ∧ w'.cell? ⟨sb, 0, none⟩ = some (.string (ba [100, 101, 118, 105, 99, 101])) ∧ w'.cell? ⟨sb, 1, none⟩ = some (.slice (some ⟨ab, ao, none⟩) 2 cA) ∧ w'.cell? ⟨ab, ao, none⟩ = some (.string (ba a0))) ⟨(bp0.cell 0).trans rfl, (bp0.cell 1).trans rfl, (bs0.cell 0).trans rfl, (bs0.cell 1).trans rfl, kd.cell cx0 (fun h => h)⟩ (fun hHeld => ?_)
  have cx00 := kd.cell cx0 (fun h => h)
  generalize w0.drew = W0 at hHeld bp0 bs0 bq0 kww0 cx00 ⊢
  refine wpAnyU_take (i := 0) (v := ?_) rfl (by kernel_rfl) (by kernel_rfl) (by kernel_rfl) (by kernel_rfl) (by kernel_rfl) (fun _ _ _ h => h) (Or.inl ⟨by rfl, ?_⟩) hHeld ?_
  rotate_left
  · (intro w hSw; (try dsimp only at hSw); go_simp; try (with_reducible rfl))
  simp only [Act.put, List.getElem_toArray, List.getElem_cons_zero, List.setIfInBounds_toArray, List.set_cons_zero, List.set_cons_succ]
  refine wpAnyU_take (i := 1) (v := ?_) rfl (by kernel_rfl) (by kernel_rfl) (by kernel_rfl) (by kernel_rfl) (by kernel_rfl) (fun _ _ _ h => h) (Or.inl ⟨by rfl, ?_⟩) hHeld ?_
  rotate_left
  · (intro w hSw; (try dsimp only at hSw); go_simp; try (with_reducible rfl))
  simp only [Act.put, List.getElem_toArray, List.getElem_cons_zero, List.getElem_cons_succ, List.setIfInBounds_toArray, List.set_cons_zero, List.set_cons_succ]
  refine wpAnyU_take (i := 2) (v := ?_) rfl (by kernel_rfl) (by kernel_rfl) (by kernel_rfl) (by kernel_rfl) (by kernel_rfl) (fun _ _ _ h => h) (Or.inl ⟨by rfl, ?_⟩) hHeld ?_
  rotate_left
  · (intro w hSw; (try dsimp only at hSw); go_simp; try (with_reducible rfl))
  simp only [Act.put, List.getElem_toArray, List.getElem_cons_zero, List.getElem_cons_succ, List.setIfInBounds_toArray, List.set_cons_zero, List.set_cons_succ]
  refine wpAnyU_take (i := 3) (v := ?_) rfl (by kernel_rfl) (by kernel_rfl) (by kernel_rfl) (by kernel_rfl) (by kernel_rfl) (fun _ _ _ h => h) (Or.inl ⟨by rfl, ?_⟩) hHeld ?_
  rotate_left
  · (intro w hSw; (try dsimp only at hSw); go_simp; try (with_reducible rfl))
  simp only [Act.put, List.getElem_toArray, List.getElem_cons_zero, List.getElem_cons_succ, List.setIfInBounds_toArray, List.set_cons_zero, List.set_cons_succ]
  refine wpAnyU_take (i := 4) (v := ?_) rfl (by kernel_rfl) (by kernel_rfl) (by kernel_rfl) (by kernel_rfl) (by kernel_rfl) (fun _ _ _ h => h) (Or.inl ⟨by rfl, ?_⟩) hHeld ?_
  rotate_left
  · (intro w hSw; (try dsimp only at hSw); go_simp; try (with_reducible rfl))
  simp only [Act.put, List.getElem_toArray, List.getElem_cons_zero, List.getElem_cons_succ, List.setIfInBounds_toArray, List.set_cons_zero, List.set_cons_succ]
  refine wpAnyU_take (i := 5) (v := ?_) rfl (by kernel_rfl) (by kernel_rfl) (by kernel_rfl) (by kernel_rfl) (by kernel_rfl) (fun _ _ _ h => h) (Or.inl ⟨by rfl, ?_⟩) hHeld ?_
  rotate_left
  · (intro w hSw; (try dsimp only at hSw); go_simp; try (with_reducible rfl))
  simp only [Act.put, List.getElem_toArray, List.getElem_cons_zero, List.getElem_cons_succ, List.setIfInBounds_toArray, List.set_cons_zero, List.set_cons_succ]
  refine wpAnyU_take (i := 8) (v := ?_) rfl (by kernel_rfl) (by kernel_rfl) (by kernel_rfl) (by kernel_rfl) (by kernel_rfl) (fun _ _ _ h => h) (Or.inl ⟨by rfl, ?_⟩) hHeld ?_
  rotate_left
  · (intro w hSw; (try dsimp only at hSw); go_simp; try (with_reducible rfl))
  simp only [Act.put, List.getElem_toArray, List.getElem_cons_zero, List.getElem_cons_succ, List.setIfInBounds_toArray, List.set_cons_zero, List.set_cons_succ]
  refine wpAnyU_take (i := 9) (v := ?_) rfl (by kernel_rfl) (by kernel_rfl) (by kernel_rfl) (by kernel_rfl) (by kernel_rfl) (fun _ _ _ h => h) (Or.inl ⟨by rfl, ?_⟩) hHeld ?_
  rotate_left
  · (intro w hSw; (try dsimp only at hSw); go_simp; try (with_reducible rfl))
  simp only [Act.put, List.getElem_toArray, List.getElem_cons_zero, List.getElem_cons_succ, List.setIfInBounds_toArray, List.set_cons_zero, List.set_cons_succ]
  refine wpAnyU_takeD (i := 10) [15, 13, 11] (v := ?_) rfl (by kernel_rfl) (by kernel_rfl) (by kernel_rfl) (by kernel_rfl) (by kernel_rfl) (fun _ _ _ h => h) (Or.inl ⟨by rfl, ?_⟩) hHeld ?_
  rotate_left
  · (intro w hSw; (try dsimp only at hSw); go_simp; try (with_reducible rfl))
  simp only [Act.put, List.getElem_toArray, List.getElem_cons_zero, List.getElem_cons_succ, List.setIfInBounds_toArray, List.set_cons_zero, List.set_cons_succ]
  refine wpAnyU_alone (i := 6) (by kernel_rfl) rfl (fun K hK => ?_)
  go_simp
  have bz := Blk.new W0 9 #[.string (ba a0)]
  have kz := (Kept.refl NoF W0).alloc (.cells #[.string (ba a0)] 9)
  generalize W0.alloc (.cells #[.string (ba a0)] 9) = W1 at bz kz ⊢
  have bp1 := kz.blk bp0 (fun h => h)
  have bs1 := kz.blk bs0 (fun h => h)
  have bq1 := kz.blk bq0 (fun h => h)
  have cx01 := kz.cell cx00 (fun h => h)
  have kww1 := kww0.trans kz (fun _ h => .inl h)
  refine hK.out _ _ (fun _ => (⟨(bp1.cell 0).trans rfl, (bp1.cell 1).trans rfl, (bs1.cell 0).trans rfl, (bs1.cell 1).trans rfl, cx01⟩ : (fun (w' : World) => w'.cell? ⟨pb, 0, none⟩ = some (.slice U1 d.names.length cu1) ∧ w'.cell? ⟨pb, 1, none⟩ = some (.slice U2 d.quotas.length cu2) ∧ w'.cell? ⟨sb, 0, none⟩ = some (.string (ba [100, 101, 118, 105, 99, 101])) ∧ w'.cell? ⟨sb, 1, none⟩ = some (.slice (some ⟨ab, ao, none⟩) 2 cA) ∧ w'.cell? ⟨ab, ao, none⟩ = some (.string (ba a0))) W1)) ?_
  clear hK K
  try simp only [Act.put, List.getElem_toArray, List.getElem_cons_zero, List.getElem_cons_succ, List.setIfInBounds_toArray, List.set_cons_zero, List.set_cons_succ]
  have hr1 := hr.same kww1
  have hB1 := Nat.le_trans hBw kww1.size
  generalize W0.heap.size = zb at bz ⊢
  refine wpAnyU_alone (i := 7) (by kernel_rfl) rfl (fun K hK => ?_)
  refine step_append_any _ rfl _ _ 37 rfl B 9 i0 (.string ⟨#[]⟩) 1 16 Tryz.underlying37 hi0 hi1 hi2 hi3 rfl (by omega) _ d.names.length (strs d.names) rfl hr1.n1 W1.heap.size (some ⟨zb, 0, none⟩) 1 1 [.string (ba a0)] rfl ?_ ?_ ?_ ?_ hB1 ?_
  · refine ⟨by simp, fun _ => ⟨_, rfl, bz.lt, fun j u hu => ?_⟩⟩
    rw [Addr.add_lit, bz.cell, Nat.zero_add, ← Array.getElem?_toList]
    exact hu
  · intro u hu; simp at hu; subst hu; rfl
  · unfold maxLen; omega
  · omega
  intro v' W2 own2 grw at2
  have hr2 := hr1.name own2 grw at2
  have k12 := Kept.of_grown grw
  have bp2 := k12.blk bp1 (fun e => own_not bp1 hr1.n1 (by decide) e)
  have bs2 := k12.blk bs1 (fun e => own_not bs1 hr1.n1 (by decide) e)
  have bq2 := k12.blk bq1 (fun e => own_not bq1 hr1.n1 (by decide) e)
  have cx02 := k12.cell cx01 (fun e => by have := (hr1.n1.lt ab e).1; omega)
  have kb2 : Kept (fun b => B ≤ b) w W2 := kww1.below_mono.trans (k12.mono (G := fun b => B ≤ b) (fun b e => (hr1.n1.lt b e).1)) (fun x h => .inl h)
  obtain ⟨g', cap', rfl⟩ := ownsRow_succ own2
  have hHeld := (⟨(bp2.cell 0).trans rfl, (bp2.cell 1).trans rfl, (bs2.cell 0).trans rfl, (bs2.cell 1).trans rfl, cx02⟩ : (fun (w' : World) => w'.cell? ⟨pb, 0, none⟩ = some (.slice U1 d.names.length cu1) ∧ w'.cell? ⟨pb, 1, none⟩ = some (.slice U2 d.quotas.length cu2) ∧ w'.cell? ⟨sb, 0, none⟩ = some (.string (ba [100, 101, 118, 105, 99, 101])) ∧ w'.cell? ⟨sb, 1, none⟩ = some (.slice (some ⟨ab, ao, none⟩) 2 cA) ∧ w'.cell? ⟨ab, ao, none⟩ = some (.string (ba a0))) W2)
  refine hK.out _ _ (fun _ => hHeld) ?_
  clear hK K
  try simp only [Act.put, List.getElem_toArray, List.getElem_cons_zero, List.getElem_cons_succ, List.setIfInBounds_toArray, List.set_cons_zero, List.set_cons_succ]
  refine wpAnyU_take (i := 14) (v := ?_) rfl (by kernel_rfl) (by kernel_rfl) (by kernel_rfl) (by kernel_rfl) (by kernel_rfl) (fun _ _ _ h => h) (Or.inl ⟨by rfl, ?_⟩) hHeld ?_
  rotate_left
  · (intro w hSw; (try dsimp only at hSw); go_simp; try (with_reducible rfl))
  simp only [Act.put, List.getElem_toArray, List.getElem_cons_zero, List.getElem_cons_succ, List.setIfInBounds_toArray, List.set_cons_zero, List.set_cons_succ]
  refine wpAnyU_alone (i := 11) (by kernel_rfl) rfl (fun K hK => ?_)
  go_simp
  refine (CN1.out _ kb2).mono ?_
  rintro e W3 ⟨rfl, k3⟩
  have bp3 := k3.blk bp2 (fun h => h)
  have bs3 := k3.blk bs2 (fun h => h)
  have bq3 := k3.blk bq2 (fun h => h)
  have cx03 := k3.cell cx02 (fun h => h)
  have hS3 := (⟨(bp3.cell 0).trans rfl, (bp3.cell 1).trans rfl, (bs3.cell 0).trans rfl, (bs3.cell 1).trans rfl, cx03⟩ : (fun (w' : World) => w'.cell? ⟨pb, 0, none⟩ = some (.slice U1 d.names.length cu1) ∧ w'.cell? ⟨pb, 1, none⟩ = some (.slice U2 d.quotas.length cu2) ∧ w'.cell? ⟨sb, 0, none⟩ = some (.string (ba [100, 101, 118, 105, 99, 101])) ∧ w'.cell? ⟨sb, 1, none⟩ = some (.slice (some ⟨ab, ao, none⟩) 2 cA) ∧ w'.cell? ⟨ab, ao, none⟩ = some (.string (ba a0))) W3)
  go_wp2_with fail
  refine hK.out _ _ (fun _ => hS3) ?_
  clear hK K
  try simp only [Act.put, List.getElem_toArray, List.getElem_cons_zero, List.getElem_cons_succ, List.setIfInBounds_toArray, List.set_cons_zero, List.set_cons_succ]
  refine wpAnyU_alone (i := 12) (by kernel_rfl) rfl (fun K hK => ?_)
  go_simp
  have bz := Blk.new W3 3 #[.int .i64 (nv a1)]
  have kz := (Kept.refl NoF W3).alloc (.cells #[.int .i64 (nv a1)] 3)
  generalize W3.alloc (.cells #[.int .i64 (nv a1)] 3) = W4 at bz kz ⊢
  have bp4 := kz.blk bp3 (fun h => h)
  have bs4 := kz.blk bs3 (fun h => h)
  have bq4 := kz.blk bq3 (fun h => h)
  have cx04 := kz.cell cx03 (fun h => h)
  have hr4 := hr2.same (k3.trans kz (fun _ h => .inl h))
  have kb4 := kb2.trans (k3.trans kz (fun _ h => .inl h)) (fun _ h => h.elim)
  have hB4 := Nat.le_trans hBw kb4.size
  generalize W3.heap.size = zb2 at bz ⊢
  refine hK.out _ _ (fun _ => (⟨(bp4.cell 0).trans rfl, (bp4.cell 1).trans rfl, (bs4.cell 0).trans rfl, (bs4.cell 1).trans rfl, cx04⟩ : (fun (w' : World) => w'.cell? ⟨pb, 0, none⟩ = some (.slice U1 d.names.length cu1) ∧ w'.cell? ⟨pb, 1, none⟩ = some (.slice U2 d.quotas.length cu2) ∧ w'.cell? ⟨sb, 0, none⟩ = some (.string (ba [100, 101, 118, 105, 99, 101])) ∧ w'.cell? ⟨sb, 1, none⟩ = some (.slice (some ⟨ab, ao, none⟩) 2 cA) ∧ w'.cell? ⟨ab, ao, none⟩ = some (.string (ba a0))) W4)) ?_
  clear hK K
  try simp only [Act.put, List.getElem_toArray, List.getElem_cons_zero, List.getElem_cons_succ, List.setIfInBounds_toArray, List.set_cons_zero, List.set_cons_succ]
  refine wpAnyU_alone (i := 13) (by kernel_rfl) rfl (fun K hK => ?_)
  refine step_append_any _ rfl _ _ 55 rfl B 3 j0 (.int .i64 0) 1 8 Tryz.underlying55 hj0 hj1 hj2 hj3 rfl (by omega) _ d.quotas.length (ints d.quotas) rfl hr4.n2 W4.heap.size (some ⟨zb2, 0, none⟩) 1 1 [.int .i64 (nv a1)] rfl ?_ ?_ ?_ ?_ hB4 ?_
  · refine ⟨by simp, fun _ => ⟨_, rfl, bz.lt, fun j u hu => ?_⟩⟩
    rw [Addr.add_lit, bz.cell, Nat.zero_add, ← Array.getElem?_toList]
    exact hu
  · intro u hu; simp at hu; subst hu; rfl
  · unfold maxLen; omega
  · omega
  intro v' W5 own5 grw5 at5
  have hr5 := hr4.quota own5 grw5 at5
  have k45 := Kept.of_grown grw5
  have bp5 := k45.blk bp4 (fun e => own_not bp4 hr4.n2 (by decide) e)
  have bs5 := k45.blk bs4 (fun e => own_not bs4 hr4.n2 (by decide) e)
  have bq5 := k45.blk bq4 (fun e => own_not bq4 hr4.n2 (by decide) e)
  have cx05 := k45.cell cx04 (fun e => by have := (hr4.n2.lt ab e).1; omega)
  have kb5 : Kept (fun b => B ≤ b) w W5 := kb4.trans (k45.mono (G := fun b => B ≤ b) (fun b e => (hr4.n2.lt b e).1)) (fun x h => .inl h)
  obtain ⟨g5, cap5, rfl⟩ := ownsRow_succ own5
  have hHeld := (⟨(bp5.cell 0).trans rfl, (bp5.cell 1).trans rfl, (bs5.cell 0).trans rfl, (bs5.cell 1).trans rfl, cx05⟩ : (fun (w' : World) => w'.cell? ⟨pb, 0, none⟩ = some (.slice U1 d.names.length cu1) ∧ w'.cell? ⟨pb, 1, none⟩ = some (.slice U2 d.quotas.length cu2) ∧ w'.cell? ⟨sb, 0, none⟩ = some (.string (ba [100, 101, 118, 105, 99, 101])) ∧ w'.cell? ⟨sb, 1, none⟩ = some (.slice (some ⟨ab, ao, none⟩) 2 cA) ∧ w'.cell? ⟨ab, ao, none⟩ = some (.string (ba a0))) W5)
  have fz : ∀ i, W5.frozen? ⟨pb, i, none⟩ = false := fun i => bp5.frozen i
  have cc0 := (bp5.cell 0).trans (show _ = some (.slice U1 d.names.length cu1) from rfl)
  have cc1 := (bp5.cell 1).trans (show _ = some (.slice U2 d.quotas.length cu2) from rfl)
  refine hK.out _ _ (fun _ => hHeld) ?_
  clear hK K
  try simp only [Act.put, List.getElem_toArray, List.getElem_cons_zero, List.getElem_cons_succ, List.setIfInBounds_toArray, List.set_cons_zero, List.set_cons_succ]
  refine wpAnyU_alone (i := 15) (by kernel_rfl) rfl (fun K hK => ?_)
  go_simp
  refine hK.out _ _ (fun h => by cases h) ?_
  clear hK K
  try simp only [Act.put, List.getElem_toArray, List.getElem_cons_zero, List.getElem_cons_succ, List.setIfInBounds_toArray, List.set_cons_zero, List.set_cons_succ]
  refine wpAnyU_alone (i := 16) (by kernel_rfl) rfl (fun K hK => ?_)
  go_simp
  refine hK.out _ _ (fun h => by cases h) ?_
  clear hK K
  try simp only [Act.put, List.getElem_toArray, List.getElem_cons_zero, List.getElem_cons_succ, List.setIfInBounds_toArray, List.set_cons_zero, List.set_cons_succ]
  refine wpAnyU_alone (i := 17) (by kernel_rfl) rfl (fun K hK => ?_)
  go_simp
  refine hK.out _ _ (fun h => by cases h) ?_
  clear hK K
  try simp only [Act.put, List.getElem_toArray, List.getElem_cons_zero, List.getElem_cons_succ, List.setIfInBounds_toArray, List.set_cons_zero, List.set_cons_succ]
  refine wpAnyU_done (by kernel_rfl) ?_ _
  refine NoPanic.normal ?_
  have bf := (bp5.set_ 0 (.slice (some ⟨g', 0, none⟩) (d.names.length + 1) cap')).set_ 1 (.slice (some ⟨g5, 0, none⟩) (d.quotas.length + 1) cap5)
  have bqf := (bq5.far (p := ⟨pb, 0, none⟩) (by show qb ≠ pb; omega) (.slice (some ⟨g', 0, none⟩) (d.names.length + 1) cap')).far (p := ⟨pb, 1, none⟩) (by show qb ≠ pb; omega) (.slice (some ⟨g5, 0, none⟩) (d.quotas.length + 1) cap5)
  have kp := ((Kept.refl (fun b => b = pb) W5).setCell (p := ⟨pb, 0, none⟩) (.inl rfl) (.slice (some ⟨g', 0, none⟩) (d.names.length + 1) cap')).setCell (p := ⟨pb, 1, none⟩) (.inl rfl) (.slice (some ⟨g5, 0, none⟩) (d.quotas.length + 1) cap5)
  have hrf0 := hr5.boxed kp bp5 awp
  have hrf : RowsAt ((W5.setCell ⟨pb, 0, none⟩ (.slice (some ⟨g', 0, none⟩) (d.names.length + 1) cap')).setCell ⟨pb, 1, none⟩ (.slice (some ⟨g5, 0, none⟩) (d.quotas.length + 1) cap5)) B { d with names := d.names ++ [a0], quotas := d.quotas ++ [nv a1] } (.slice (some ⟨g', 0, none⟩) (d.names.length + 1) cap') (.slice (some ⟨g5, 0, none⟩) (d.quotas.length + 1) cap5) (.slice U3 d.vaults.length cu3) vl := ⟨hrf0.n0, by have := hrf0.n1; simp only [List.length_append, List.length_singleton] at this ⊢; exact this, by have := hrf0.n2; simp only [List.length_append, List.length_singleton] at this ⊢; exact this, hrf0.n3, hrf0.n4⟩
  have kf : Kept (fun k => B ≤ k) w ((W5.setCell ⟨pb, 0, none⟩ (.slice (some ⟨g', 0, none⟩) (d.names.length + 1) cap')).setCell ⟨pb, 1, none⟩ (.slice (some ⟨g5, 0, none⟩) (d.quotas.length + 1) cap5)) := kb5.trans kp (fun x e => .inl (by show B ≤ x; omega))
  clear kp hrf0 hHeld hS3 fz cc0 cc1 bs5 bs4 bs3 bs2 bs1 bs0 cx05 cx04 cx03 cx02 cx01 cx00 awp hi0 hi1 hi2 hi3 hj0 hj1 hj2 hj3
  go_upto_region 22 with fail
  generalize ((W5.setCell ⟨pb, 0, none⟩ (.slice (some ⟨g', 0, none⟩) (d.names.length + 1) cap')).setCell ⟨pb, 1, none⟩ (.slice (some ⟨g5, 0, none⟩) (d.quotas.length + 1) cap5)) = Wf at bf bqf hrf kf ⊢
  have zr : ∀ i, Wf.frozen? ⟨qb, i, none⟩ = false := fun i => bqf.frozen i
  have f0 := (bf.cell 0).trans (show _ = some (.slice (some ⟨g', 0, none⟩) (d.names.length + 1) cap') from rfl)
  have f1 := (bf.cell 1).trans (show _ = some (.slice (some ⟨g5, 0, none⟩) (d.quotas.length + 1) cap5) from rfl)
  have f2 := (bf.cell 2).trans (show _ = some (.slice U3 d.vaults.length cu3) from rfl)
  have f3 := (bf.cell 3).trans (show _ = some (.int .i64 d.quorum) from rfl)
  have f4 := (bf.cell 4).trans (show _ = some (.string (ba d.seed)) from rfl)
  have f5 := (bf.cell 5).trans (show _ = some (.int .i64 d.bits) from rfl)
  have f6 := (bf.cell 6).trans (show _ = some (.int .i64 d.height) from rfl)
  have f7 := (bf.cell 7).trans (show _ = some (.int .i64 d.sectors) from rfl)
  have f8 := (bf.cell 8).trans (show _ = some (.int .i64 d.size) from rfl)
  have f9 := (bf.cell 9).trans (show _ = some (.int .i64 d.day) from rfl)
  have f10 := (bf.cell 10).trans (show _ = some (.int .i64 d.leap) from rfl)
  have f11 := (bf.cell 11).trans (show _ = some (.int .i64 d.agree) from rfl)
  have r0 := (bqf.cell 0).trans (show _ = some (.slice none 0 0) from rfl)
  have r1 := (bqf.cell 1).trans (show _ = some (.slice none 0 0) from rfl)
  have r2 := (bqf.cell 2).trans (show _ = some (.slice none 0 0) from rfl)
  have r3 := (bqf.cell 3).trans (show _ = some (.int .i64 0) from rfl)
  have r4 := (bqf.cell 4).trans (show _ = some (.string ⟨#[]⟩) from rfl)
  have r5 := (bqf.cell 5).trans (show _ = some (.int .i64 0) from rfl)
  have r6 := (bqf.cell 6).trans (show _ = some (.int .i64 0) from rfl)
  have r7 := (bqf.cell 7).trans (show _ = some (.int .i64 0) from rfl)
  have r8 := (bqf.cell 8).trans (show _ = some (.int .i64 0) from rfl)
  have r9 := (bqf.cell 9).trans (show _ = some (.int .i64 0) from rfl)
  have r10 := (bqf.cell 10).trans (show _ = some (.int .i64 0) from rfl)
  have r11 := (bqf.cell 11).trans (show _ = some (.int .i64 0) from rfl)
  have HBQ := Lib.hid (show Blk Wf qb 63 (setZ.cells (.slice none 0 0) (.slice none 0 0) (.slice none 0 0)) from bqf)
  have HRF := Lib.hid hrf
  have HKF := Lib.hid kf
  have HAW := Lib.hid awq
  clear bf bqf hrf kf awq
  go_wp2_with fail
  have hbz := rblk_puts HBQ.out (rsetList { d with names := d.names ++ [a0], quotas := d.quotas ++ [nv a1] } (.slice (some ⟨g', 0, none⟩) (d.names.length + 1) cap') (.slice (some ⟨g5, 0, none⟩) (d.quotas.length + 1) cap5) (.slice U3 d.vaults.length cu3))
  have kz := rkept_puts0 (Kept.refl (fun b => b = qb) Wf) qb rfl (rsetList { d with names := d.names ++ [a0], quotas := d.quotas ++ [nv a1] } (.slice (some ⟨g', 0, none⟩) (d.names.length + 1) cap') (.slice (some ⟨g5, 0, none⟩) (d.quotas.length + 1) cap5) (.slice U3 d.vaults.length cu3))
  have hz := RowsAt.boxed HRF.out kz HBQ.out HAW.out
  rw [rsetList_cells] at hbz
  simp only [rsetList, List.foldl_cons, List.foldl_nil] at hbz kz hz
  refine bodyPost_ret (results_decl (cs := SetD.cells { d with names := d.names ++ [a0], quotas := d.quotas ++ [nv a1] } (.slice (some ⟨g', 0, none⟩) (d.names.length + 1) cap') (.slice (some ⟨g5, 0, none⟩) (d.quotas.length + 1) cap5) (.slice U3 d.vaults.length cu3)) rfl rfl hbz) rfl ?_
  rw [HDC.out]
  exact ⟨(.slice (some ⟨g', 0, none⟩) (d.names.length + 1) cap'), (.slice (some ⟨g5, 0, none⟩) (d.quotas.length + 1) cap5), (.slice U3 d.vaults.length cu3), vl, rfl, ⟨hz.n0, hz.n1, hz.n2, hz.n3, hz.n4⟩, HKF.out.trans kz (fun x e => .inl (by show B ≤ x; omega))⟩

end Go.Proofs.YtfnfjfcncijapaaGreatDoor

