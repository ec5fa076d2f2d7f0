/- kinkeepref56.SameEvent at one event; law.ScriptEvents. -/
import Derived.Test.YtfnfjfcncijapaaGreatDoorEvE
import Derived.Test.YtfnfjfcncijapaaGreatDoorHap
import Derived.Test.YtfnfjfcncijapaaGreatDoorAwake
import Derived.Test.YtfnfjfcncijapaaGreatDoorCmdl
namespace Go.Proofs.YtfnfjfcncijapaaGreatDoor
open Go.RowKit Go.Shelf
attribute [local go_sem] Oper.semAt_some

set_option maxHeartbeats 4000000 in
set_option maxRecDepth 100000 in
theorem sameEvent_any (ev : EvD) (A B : Option Addr) (c d : Nat) (w : World) (hA : Reads w w.heap.size 1 A ev.data.length (bvs ev.data)) (hB : Reads w w.heap.size 1 B ev.data.length (bvs ev.data)) :
    Calls Tryz.prog 21 #[.agg (ev.cells (.slice A ev.data.length c)), .agg (ev.cells (.slice B ev.data.length d))] w fun e w' => e = .returned (.bool true) ∧ Below w.heap.size w w' := by
  obtain ⟨k, dv, ot, va, pa, de, da, nu, cu, on⟩ := ev
  dsimp only at hA hB ⊢
  have k1 := (Kept.refl NoF w).alloc (.cells ((⟨k, dv, ot, va, pa, de, da, nu, cu, on⟩ : EvD).cells (.slice A da.length c)) 50)
  have k2 := k1.alloc (.cells ((⟨k, dv, ot, va, pa, de, da, nu, cu, on⟩ : EvD).cells (.slice B da.length d)) 50)
  have hcA := conv_reads (c := c) (k2.src hA (fun _ _ _ h => h))
  have hcB := conv_reads (c := d) (k2.src hB (fun _ _ _ h => h))
  have hbw := k2.below (B := w.heap.size) (Nat.le_refl _) (fun _ h => h.elim)
  unfold EvD.cells at hcA hcB hbw ⊢
  dsimp only at hcA hcB hbw ⊢
  clear hA hB k1 k2
  go_enter Tryz.func21, Tryz.ntmps21
  go_wp2_with fail
  go_ret
  exact ⟨rfl, hbw⟩

set_option maxHeartbeats 4000000 in
set_option maxRecDepth 100000 in
theorem eventsL_any (cmd : ByteArray) (X : Option Addr) (c : Nat) (xs : List (List UInt8)) (w : World) (hE : Env w) (hX : StrsAt w X xs) (hin : ArgsIn ⟨cmd.data.toList, xs⟩) :
    Calls Tryz.prog 6 #[.agg #[.string cmd, .slice X xs.length c]] w fun e w' => e = .returned (.bool true) ∧ Below w.heap.size w w' := by
  obtain ⟨cl, rfl⟩ : ∃ cl, cmd = ba cl := ⟨cmd.data.toList, (ba_data cmd).symm⟩
  rw [ba_toList] at hin
  have bx := Blk.new w 45 #[.string (ba cl), .slice X xs.length c]
  have b0 : Below w.heap.size w (w.alloc (.cells #[.string (ba cl), .slice X xs.length c] 45)) := (Below.refl _ _).alloc (Nat.le_refl _) _
  have hX0 : StrsAt _ X xs := hX.same (Kept.of_below (F := NoF) b0)
  have HE := Lib.hid hE
  have HIN := Lib.hid hin
  clear hX hE hin
  go_enter Tryz.func6, Tryz.ntmps6
  go_upto_region 1 with fail
  generalize w.alloc (.cells #[.string (ba cl), .slice X xs.length c] 45) = w0 at bx b0 hX0 ⊢
  have e0 : w0.cell? ⟨w.heap.size, 0, none⟩ = some (.string (ba cl)) := (bx.cell 0).trans rfl
  have e1 : w0.cell? ⟨w.heap.size, 1, none⟩ = some (.slice X xs.length c) := (bx.cell 1).trans rfl
  have hone := one_step (cmd := ba cl) (c := c) hX0
  rw [ba_toList] at hone
  have CF := Lib.hid (few_any (l := [⟨cl, xs⟩]) 1 (w0.alloc (.cells #[.string (ba cl), .slice X xs.length c] 45)) hone (by simp) (fun s hs => by rw [List.mem_singleton.1 hs]; exact HIN.out))
  have k1 := (Kept.refl NoF w0).alloc (.cells #[.string (ba cl), .slice X xs.length c] 45)
  have b1 := b0.alloc b0.size (.cells #[.string (ba cl), .slice X xs.length c] 45)
  clear hone
  go_wp2_with fail
  generalize w0.alloc (.cells #[.string (ba cl), .slice X xs.length c] 45) = w1 at CF k1 b1 ⊢
  refine CF.out.mono ?_
  clear CF
  rintro e w2 ⟨⟨b, rfl, hfew⟩, rfl⟩
  have bx2 := k1.blk bx (fun h => h)
  have hX2 := hX0.same k1
  clear e0 e1 bx hX0 k1 b0
  cases b
  · clear hfew
    go_wp2_with fail
    refine (awake_any w2 (HE.out.later b1)).mono ?_
    rintro e w3 ⟨rfl, b3⟩
    go_wp2_with fail
    go_ret
    exact ⟨rfl, b1.trans (b3.mono b1.size)⟩
  · obtain ⟨h8, h2k⟩ := few_args (hfew rfl)
    have H2K := Lib.hid h2k
    clear hfew h2k
    have e0 : w2.cell? ⟨w.heap.size, 0, none⟩ = some (.string (ba cl)) := (bx2.cell 0).trans rfl
    have e1 : w2.cell? ⟨w.heap.size, 1, none⟩ = some (.slice X xs.length c) := (bx2.cell 1).trans rfl
    have CE := Lib.hid (event_any (ba cl) X c xs w2 (HE.out.later b1) hX2 (fun a ha => by have := H2K.out a ha; omega))
    rw [ba_toList] at CE
    go_wp2_with fail
    refine CE.out.mono ?_
    clear CE
    have HAG := Lib.hid (ev_agree cl xs)
    generalize evS cl xs = r at HAG ⊢
    obtain ⟨ev, er⟩ := r
    rintro e w3 ⟨v, D, cd, rfl, rfl, hD, b3⟩
    dsimp only at hD ⊢
    have k3 : Kept NoF w2 w3 := Kept.of_below b3
    have bx3 := k3.blk bx2 (fun h => h)
    have hX3 := hX2.same k3
    have bw3 := b1.trans (b3.mono b1.size)
    have k4 := (Kept.refl NoF w3).alloc (.cells (ev.cells (.slice D ev.data.length cd)) 47)
    have b4 := Blk.new w3 47 (ev.cells (.slice D ev.data.length cd))
    have bw4 := bw3.alloc bw3.size (.cells (ev.cells (.slice D ev.data.length cd)) 47)
    clear b3 k3 bx2 hX2 b1 e0 e1
    unfold EvD.cells
    go_upto_region 4 with fail
    unfold EvD.cells at k4 b4 bw4
    generalize w3.alloc (.cells #[.int .i64 ev.kind, .int .i64 ev.dev, .int .i64 ev.oth, .int .i64 ev.vault, .string (ba ev.path), .string (ba ev.dest), .slice D ev.data.length cd, .int .i64 ev.num, .int .i64 ev.cut, .bool ev.on] 47) = w4 at k4 b4 bw4 ⊢
    have bx4 := k4.blk bx3 (fun h => h)
    have hX4 := hX3.same k4
    have hD4 := k4.src hD (fun _ _ _ h => h)
    generalize w3.heap.size = pb at b4 ⊢
    clear k4 bx3 hX3 hD bw3
    have e0 : w4.cell? ⟨w.heap.size, 0, none⟩ = some (.string (ba cl)) := (bx4.cell 0).trans rfl
    have e1 : w4.cell? ⟨w.heap.size, 1, none⟩ = some (.slice X xs.length c) := (bx4.cell 1).trans rfl
    have CH := Lib.hid (happens_any cl X c xs w4 hX4 (by omega) (fun a ha => by have := H2K.out a ha; omega))
    rw [HAG.out] at CH
    go_wp2_with fail
    refine CH.out.mono ?_
    clear CH HAG
    rintro e w5 ⟨v, F, cf, rfl, rfl, hF, b5⟩
    dsimp only at hF ⊢
    have k5 : Kept NoF w4 w5 := Kept.of_below b5
    have b45 := k5.blk b4 (fun h => h)
    have hD5 := k5.src hD4 (fun _ _ _ h => h)
    have bw5 := bw4.trans (b5.mono bw4.size)
    have k6 := (Kept.refl NoF w5).alloc (.cells (ev.cells (.slice F ev.data.length cf)) 50)
    have b6 := Blk.new w5 50 (ev.cells (.slice F ev.data.length cf))
    have bw6 := bw5.alloc bw5.size (.cells (ev.cells (.slice F ev.data.length cf)) 50)
    clear b5 k5 b4 hD4 bw4 bx4 hX4 e0 e1
    unfold EvD.cells
    go_upto_region 5 with fail
    unfold EvD.cells at k6 b6 bw6
    generalize w5.alloc (.cells #[.int .i64 ev.kind, .int .i64 ev.dev, .int .i64 ev.oth, .int .i64 ev.vault, .string (ba ev.path), .string (ba ev.dest), .slice F ev.data.length cf, .int .i64 ev.num, .int .i64 ev.cut, .bool ev.on] 50) = w6 at k6 b6 bw6 ⊢
    have b46 := k6.blk b45 (fun h => h)
    have hD6 := k6.src hD5 (fun _ _ _ h => h)
    have hF6 := k6.src hF (fun _ _ _ h => h)
    generalize w5.heap.size = qb at b6 ⊢
    clear k6 b45 hD5 hF bw5
    go_wp2_with fail
    refine (awake_any w6 (HE.out.later bw6)).mono ?_
    rintro e w7 ⟨rfl, b7⟩
    have k7 : Kept NoF w6 w7 := Kept.of_below b7
    have b47 := k7.blk b46 (fun h => h)
    have b57 := k7.blk b6 (fun h => h)
    have hD7 := k7.src hD6 (fun _ _ _ h => h)
    have hF7 := k7.src hF6 (fun _ _ _ h => h)
    have bw7 := bw6.trans (b7.mono bw6.size)
    clear k7 b46 b6 hD6 hF6 b7 bw6
    have CS := Lib.hid (sameEvent_any ev D F cd cf w7 hD7 hF7)
    unfold EvD.cells at CS
    obtain ⟨k, dv, ot, va, pa, de, da, nu, cu, on⟩ := ev
    dsimp only at CS b47 b57 ⊢
    clear hD7 hF7
    have p0 := (b47.cell 0).trans (show _ = some (.int .i64 k) from rfl)
    have p1 := (b47.cell 1).trans (show _ = some (.int .i64 dv) from rfl)
    have p2 := (b47.cell 2).trans (show _ = some (.int .i64 ot) from rfl)
    have p3 := (b47.cell 3).trans (show _ = some (.int .i64 va) from rfl)
    have p4 := (b47.cell 4).trans (show _ = some (.string (ba pa)) from rfl)
    have p5 := (b47.cell 5).trans (show _ = some (.string (ba de)) from rfl)
    have p6 := (b47.cell 6).trans (show _ = some (.slice D da.length cd) from rfl)
    have p7 := (b47.cell 7).trans (show _ = some (.int .i64 nu) from rfl)
    have p8 := (b47.cell 8).trans (show _ = some (.int .i64 cu) from rfl)
    have p9 := (b47.cell 9).trans (show _ = some (.bool on) from rfl)
    have s0 := (b57.cell 0).trans (show _ = some (.int .i64 k) from rfl)
    have s1 := (b57.cell 1).trans (show _ = some (.int .i64 dv) from rfl)
    have s2 := (b57.cell 2).trans (show _ = some (.int .i64 ot) from rfl)
    have s3 := (b57.cell 3).trans (show _ = some (.int .i64 va) from rfl)
    have s4 := (b57.cell 4).trans (show _ = some (.string (ba pa)) from rfl)
    have s5 := (b57.cell 5).trans (show _ = some (.string (ba de)) from rfl)
    have s6 := (b57.cell 6).trans (show _ = some (.slice F da.length cf) from rfl)
    have s7 := (b57.cell 7).trans (show _ = some (.int .i64 nu) from rfl)
    have s8 := (b57.cell 8).trans (show _ = some (.int .i64 cu) from rfl)
    have s9 := (b57.cell 9).trans (show _ = some (.bool on) from rfl)
    clear b47 b57
    go_wp2_with fail
    refine CS.out.mono ?_
    rintro e w8 ⟨rfl, b8⟩
    go_wp2_with fail
    go_ret
    exact ⟨rfl, bw7.trans (b8.mono bw7.size)⟩

end Go.Proofs.YtfnfjfcncijapaaGreatDoor
