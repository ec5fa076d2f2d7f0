/- The reference's Send from side 1: the loop (printed by genrefE.py). -/
import Derived.Test.YtchchgdkejolaaaRefE
namespace Go.Proofs.Ytchchgdkejolaaa
open Go.RowKit

set_option maxHeartbeats 4000000 in
set_option maxRecDepth 100000 in
theorem rsend_go1 {F : Nat → Prop} (X : Option Addr) (cx : Nat) (xs : List UInt8) (r : RV) (L : LS) (w : World) (hok : L.ok) (hr : RefOk w F L r) (hF : ∀ k, F k → k < w.heap.size) (hd : L.down = false)
    (hx : Reads w w.heap.size 1 X xs.length (bvs xs)) (hf : (xs.length : Int) ≤ L.budget - ((L.s0.length : Int) + L.s1.length)) :
    Calls Try.prog 21 #[.agg (r.cells L), .int .i64 1, .slice X xs.length cx] w fun e w' => ∃ r', e = .returned (.tuple #[.agg (r'.cells (L.send 1 xs).1), .int .i64 (L.send 1 xs).2.1, .int .i64 (L.send 1 xs).2.2]) ∧ RefOk w' F (L.send 1 xs).1 r' ∧ Kept NoF w w' := by
  obtain ⟨i0, hi0, hz0, hz1, hz2⟩ := info_parts info5
  have hput := put_nil 1 hd
  have hcells : r.cells L = #[.int .i64 L.budget, .int .i64 L.cut, .slice r.A0 L.s0.length r.c0, .slice r.A1 L.s1.length r.c1, .slice r.A2 L.w0.length r.c2, .slice r.A3 L.w1.length r.c3, .bool false] := by rw [RV.cells, hd]
  rw [hcells]
  have HD := Lib.hid hd
  clear hd
  have b0 := hok.b0
  have b1 := hok.b1
  have b2 := hok.tot
  have l0 := hok.c0
  have l1 := hok.c1
  have kW : Kept NoF w ((w.alloc (.cells #[.int .i64 L.budget, .int .i64 L.cut, .slice r.A0 L.s0.length r.c0, .slice r.A1 L.s1.length r.c1, .slice r.A2 L.w0.length r.c2, .slice r.A3 L.w1.length r.c3, .bool false] 46)).alloc (.cells #[.int .i64 0, .int .i64 0, .slice none 0 0, .slice none 0 0, .slice none 0 0, .slice none 0 0, .bool false] 46)) := ((Kept.refl NoF w).alloc _).alloc _
  have bx : Blk ((w.alloc (.cells #[.int .i64 L.budget, .int .i64 L.cut, .slice r.A0 L.s0.length r.c0, .slice r.A1 L.s1.length r.c1, .slice r.A2 L.w0.length r.c2, .slice r.A3 L.w1.length r.c3, .bool false] 46)).alloc (.cells #[.int .i64 0, .int .i64 0, .slice none 0 0, .slice none 0 0, .slice none 0 0, .slice none 0 0, .bool false] 46)) w.heap.size 46 #[.int .i64 L.budget, .int .i64 L.cut, .slice r.A0 L.s0.length r.c0, .slice r.A1 L.s1.length r.c1, .slice r.A2 L.w0.length r.c2, .slice r.A3 L.w1.length r.c3, .bool false] := (Blk.new w 46 _).alloc _
  have bz : Blk ((w.alloc (.cells #[.int .i64 L.budget, .int .i64 L.cut, .slice r.A0 L.s0.length r.c0, .slice r.A1 L.s1.length r.c1, .slice r.A2 L.w0.length r.c2, .slice r.A3 L.w1.length r.c3, .bool false] 46)).alloc (.cells #[.int .i64 0, .int .i64 0, .slice none 0 0, .slice none 0 0, .slice none 0 0, .slice none 0 0, .bool false] 46)) (w.heap.size + 1) 46 #[.int .i64 0, .int .i64 0, .slice none 0 0, .slice none 0 0, .slice none 0 0, .slice none 0 0, .bool false] := by
    have := Blk.new (w.alloc (.cells #[.int .i64 L.budget, .int .i64 L.cut, .slice r.A0 L.s0.length r.c0, .slice r.A1 L.s1.length r.c1, .slice r.A2 L.w0.length r.c2, .slice r.A3 L.w1.length r.c3, .bool false] 46)) 46 #[.int .i64 0, .int .i64 0, .slice none 0 0, .slice none 0 0, .slice none 0 0, .slice none 0 0, .bool false]
    rwa [show (w.alloc (.cells #[.int .i64 L.budget, .int .i64 L.cut, .slice r.A0 L.s0.length r.c0, .slice r.A1 L.s1.length r.c1, .slice r.A2 L.w0.length r.c2, .slice r.A3 L.w1.length r.c3, .bool false] 46)).heap.size = w.heap.size + 1 by simp] at this
  have hsz : w.heap.size + 2 ≤ ((w.alloc (.cells #[.int .i64 L.budget, .int .i64 L.cut, .slice r.A0 L.s0.length r.c0, .slice r.A1 L.s1.length r.c1, .slice r.A2 L.w0.length r.c2, .slice r.A3 L.w1.length r.c3, .bool false] 46)).alloc (.cells #[.int .i64 0, .int .i64 0, .slice none 0 0, .slice none 0 0, .slice none 0 0, .slice none 0 0, .bool false] 46)).heap.size := by simp
  have KW := Lib.hid kW
  have BX := Lib.hid bx
  have BZ := Lib.hid bz
  have HZ := Lib.hid hsz
  clear kW bx bz hsz
  go_enter Try.func21, Try.ntmps21
  go_upto_region 5 with (go_at_call 27; refine (side_yes 1 _ (.inr rfl)).mono ?_; rintro e w' ⟨rfl, rfl⟩)
  have kw2 := KW.out
  have bx2 := BX.out
  have bz2 := BZ.out
  have hzz2 := HZ.out
  clear KW BX BZ HZ
  generalize (w.alloc (.cells #[.int .i64 L.budget, .int .i64 L.cut, .slice r.A0 L.s0.length r.c0, .slice r.A1 L.s1.length r.c1, .slice r.A2 L.w0.length r.c2, .slice r.A3 L.w1.length r.c3, .bool false] 46)).alloc (.cells #[.int .i64 0, .int .i64 0, .slice none 0 0, .slice none 0 0, .slice none 0 0, .slice none 0 0, .bool false] 46) = w2 at kw2 bx2 bz2 hzz2 ⊢
  have q0 : w2.cell? ⟨w.heap.size, 0, none⟩ = some (.int .i64 L.budget) := (bx2.cell 0).trans rfl
  have q1 : w2.cell? ⟨w.heap.size, 1, none⟩ = some (.int .i64 L.cut) := (bx2.cell 1).trans rfl
  have q2 : w2.cell? ⟨w.heap.size, 2, none⟩ = some (.slice r.A0 L.s0.length r.c0) := (bx2.cell 2).trans rfl
  have q3 : w2.cell? ⟨w.heap.size, 3, none⟩ = some (.slice r.A1 L.s1.length r.c1) := (bx2.cell 3).trans rfl
  have q4 : w2.cell? ⟨w.heap.size, 4, none⟩ = some (.slice r.A2 L.w0.length r.c2) := (bx2.cell 4).trans rfl
  have q5 : w2.cell? ⟨w.heap.size, 5, none⟩ = some (.slice r.A3 L.w1.length r.c3) := (bx2.cell 5).trans rfl
  have q6 : w2.cell? ⟨w.heap.size, 6, none⟩ = some (.bool false) := (bx2.cell 6).trans rfl
  have sall : ∀ W, Kept NoF w2 W → (fun w' => w'.cell? ⟨w.heap.size, 0, none⟩ = some (.int .i64 L.budget) ∧ w'.cell? ⟨w.heap.size, 1, none⟩ = some (.int .i64 L.cut) ∧ w'.cell? ⟨w.heap.size, 2, none⟩ = some (.slice r.A0 L.s0.length r.c0) ∧ w'.cell? ⟨w.heap.size, 3, none⟩ = some (.slice r.A1 L.s1.length r.c1) ∧ w'.cell? ⟨w.heap.size, 4, none⟩ = some (.slice r.A2 L.w0.length r.c2) ∧ w'.cell? ⟨w.heap.size, 5, none⟩ = some (.slice r.A3 L.w1.length r.c3) ∧ w'.cell? ⟨w.heap.size, 6, none⟩ = some (.bool false)) W := fun W k => ⟨k.cell q0 (fun h => h), k.cell q1 (fun h => h), k.cell q2 (fun h => h), k.cell q3 (fun h => h), k.cell q4 (fun h => h), k.cell q5 (fun h => h), k.cell q6 (fun h => h)⟩
  have SA := Lib.hid sall
  have kd := (Kept.refl NoF w2).drew
  clear sall
  have hwr : IntKind.i64.wrap (L.budget - ((L.s0.length : Int) + L.s1.length)) = L.budget - ((L.s0.length : Int) + L.s1.length) := by rw [IntKind.wrap_i64]; omega
  go_region_held3 (fun w' => w'.cell? ⟨w.heap.size, 0, none⟩ = some (.int .i64 L.budget) ∧ w'.cell? ⟨w.heap.size, 1, none⟩ = some (.int .i64 L.cut) ∧ w'.cell? ⟨w.heap.size, 2, none⟩ = some (.slice r.A0 L.s0.length r.c0) ∧ w'.cell? ⟨w.heap.size, 3, none⟩ = some (.slice r.A1 L.s1.length r.c1) ∧ w'.cell? ⟨w.heap.size, 4, none⟩ = some (.slice r.A2 L.w0.length r.c2) ∧ w'.cell? ⟨w.heap.size, 5, none⟩ = some (.slice r.A3 L.w1.length r.c3) ∧ w'.cell? ⟨w.heap.size, 6, none⟩ = some (.bool false)) (first | exact SA.out _ kd | exact SA.out _ (kd.trans k3 (fun _ h => .inl h)))
    (first | (go_at_call 28; refine (rtotal_walk L.budget L.cut r.A0 r.A1 r.A2 r.A3 L.s0.length r.c0 L.s1.length r.c1 L.w0.length r.c2 L.w1.length r.c3 false _ (by omega)).mono ?_; rintro e w3 ⟨rfl, k3⟩))
  clear hwr
  have kw3 := kd.trans k3 (fun _ h => .inl h)
  have bx3 := kw3.blk bx2 (fun h => h)
  have bz3 := kw3.blk bz2 (fun h => h)
  have kw03 := kw2.trans kw3 (fun _ h => .inl h)
  have hz3 : w.heap.size + 2 ≤ w3.heap.size := by have := kw3.size; omega
  clear q0 q1 q2 q3 q4 q5 q6 SA
  go_wp2_with fail
  go_loopw [9] (RSRel w F L 1 xs) (fun i _ => xs.length - (intOf i).toNat)
  case atStart =>
    refine ⟨0, r, Nat.zero_le _, rfl, ?_, bz3, ?_, kw03, hz3, ?_⟩
    · rw [List.take_zero, hput, hcells]; exact bx3
    · rw [List.take_zero, hput]; exact hr.box kw03
    · intro h; have := hok.cuts h; unfold LS.total; omega
  case round =>
    obtain ⟨j, r', hj, rfl, bx, bz, ro, kr, hzr, hcj⟩ := hrel
    have hMok : (L.put 1 (xs.take j) false).ok := by
      refine LS.put_ok hok _ _ _ ?_ ?_
      · rw [List.length_take]; unfold LS.total; omega
      · intro h; have := hcj h; rw [List.length_take]; omega
    have hMb := put_budget L 1 (xs.take j) false
    have hMc := put_cut L 1 (xs.take j) false
    have hMd := put_down L 1 (xs.take j) false
    have hMt := put_total L 1 (xs.take j) false
    rw [List.length_take, Nat.min_eq_left hj] at hMt
    by_cases hlt : j < xs.length
    · have hsnoc := xs_snoc L 1 xs j hlt
      generalize hM : L.put 1 (xs.take j) false = M at hMok hMb hMc hMd hMt bx ro hsnoc
      have HM := Lib.hid hM
      have HMb := Lib.hid hMb
      have HMc := Lib.hid hMc
      have HMd := Lib.hid hMd
      have HMt := Lib.hid hMt
      have HSN := Lib.hid hsnoc
      have bx' : Blk wr w.heap.size 46 #[.int .i64 M.budget, .int .i64 M.cut, .slice r'.A0 M.s0.length r'.c0, .slice r'.A1 M.s1.length r'.c1, .slice r'.A2 M.w0.length r'.c2, .slice r'.A3 M.w1.length r'.c3, .bool false] := by rw [RV.cells, hMd] at bx; exact bx
      clear bx hM hMb hMc hMd hMt hsnoc
      have m1 := hMok.tot
      have m2 := hMok.b1
      have m3 := hMok.c0
      have m4 := hMok.c1
      have m5 := hMok.b0
      have m6 := hMok.q0
      have m7 := hMok.q1
      obtain ⟨adx, ub, hXe, _, hub, hx0⟩ := hx.at_ hlt
      subst hXe
      rw [bvs_get _ _ hlt] at hub
      injection hub with hub
      subst hub
      generalize hxb : xs[j] = b at hx0 HSN
      have hx0' : w.cell? (adx.add j) = some (.int .u8 (b.toNat : Int)) := hx0
      have hxc := kr.cell hx0' (fun h => h)
      have HX0 := Lib.hid hx0'
      clear hx0 hx0'
      have HXB := Lib.hid hxb
      clear hxb
      have q0 : wr.cell? ⟨w.heap.size, 0, none⟩ = some (.int .i64 M.budget) := (bx'.cell 0).trans rfl
      have q1 : wr.cell? ⟨w.heap.size, 1, none⟩ = some (.int .i64 M.cut) := (bx'.cell 1).trans rfl
      have q2 : wr.cell? ⟨w.heap.size, 2, none⟩ = some (.slice r'.A0 M.s0.length r'.c0) := (bx'.cell 2).trans rfl
      have q3 : wr.cell? ⟨w.heap.size, 3, none⟩ = some (.slice r'.A1 M.s1.length r'.c1) := (bx'.cell 3).trans rfl
      have q4 : wr.cell? ⟨w.heap.size, 4, none⟩ = some (.slice r'.A2 M.w0.length r'.c2) := (bx'.cell 4).trans rfl
      have q5 : wr.cell? ⟨w.heap.size, 5, none⟩ = some (.slice r'.A3 M.w1.length r'.c3) := (bx'.cell 5).trans rfl
      have q6 : wr.cell? ⟨w.heap.size, 6, none⟩ = some (.bool false) := (bx'.cell 6).trans rfl
      have sall : ∀ W, Kept NoF wr W → (fun w' => w'.cell? ⟨w.heap.size, 0, none⟩ = some (.int .i64 M.budget) ∧ w'.cell? ⟨w.heap.size, 1, none⟩ = some (.int .i64 M.cut) ∧ w'.cell? ⟨w.heap.size, 2, none⟩ = some (.slice r'.A0 M.s0.length r'.c0) ∧ w'.cell? ⟨w.heap.size, 3, none⟩ = some (.slice r'.A1 M.s1.length r'.c1) ∧ w'.cell? ⟨w.heap.size, 4, none⟩ = some (.slice r'.A2 M.w0.length r'.c2) ∧ w'.cell? ⟨w.heap.size, 5, none⟩ = some (.slice r'.A3 M.w1.length r'.c3) ∧ w'.cell? ⟨w.heap.size, 6, none⟩ = some (.bool false)) W := fun W k => ⟨k.cell q0 (fun h => h), k.cell q1 (fun h => h), k.cell q2 (fun h => h), k.cell q3 (fun h => h), k.cell q4 (fun h => h), k.cell q5 (fun h => h), k.cell q6 (fun h => h)⟩
      have SA := Lib.hid sall
      clear sall
      go_upto_region 10 with fail
      go_cut [41] (fun s41 wx => s41 = .bool (decide (0 ≤ M.cut ∧ M.cut ≤ (M.s0.length : Int) + M.s1.length)) ∧ Kept NoF wr wx)
      case first =>
        by_cases hc : 0 ≤ M.cut
        · have kd' := (Kept.refl NoF wr).drew
          have hcd : decide (0 ≤ M.cut) = true := by simpa using hc
          go_region_held3 (fun w' => w'.cell? ⟨w.heap.size, 0, none⟩ = some (.int .i64 M.budget) ∧ w'.cell? ⟨w.heap.size, 1, none⟩ = some (.int .i64 M.cut) ∧ w'.cell? ⟨w.heap.size, 2, none⟩ = some (.slice r'.A0 M.s0.length r'.c0) ∧ w'.cell? ⟨w.heap.size, 3, none⟩ = some (.slice r'.A1 M.s1.length r'.c1) ∧ w'.cell? ⟨w.heap.size, 4, none⟩ = some (.slice r'.A2 M.w0.length r'.c2) ∧ w'.cell? ⟨w.heap.size, 5, none⟩ = some (.slice r'.A3 M.w1.length r'.c3) ∧ w'.cell? ⟨w.heap.size, 6, none⟩ = some (.bool false)) (first | exact SA.out _ kd' | exact SA.out _ (kd'.trans k4 (fun _ h => .inl h)))
            (first | (go_at_call 28; refine (rtotal_walk M.budget M.cut r'.A0 r'.A1 r'.A2 r'.A3 M.s0.length r'.c0 M.s1.length r'.c1 M.w0.length r'.c2 M.w1.length r'.c3 false _ (by omega)).mono ?_; rintro e w4 ⟨rfl, k4⟩))
          go_wp2_with fail
          go_meet
          case rel => exact ⟨by congr 1; simp [hc], kd'.trans k4 (fun _ h => .inl h)⟩
        · have hcd : decide (0 ≤ M.cut) = false := by simpa using hc
          go_quiet (fail)
          go_wp2_with fail
          go_meet
          case rel => exact ⟨congrArg Value.bool (decide_eq_false (p := 0 ≤ M.cut ∧ M.cut ≤ (M.s0.length : Int) + M.s1.length) (by omega)).symm, (Kept.refl NoF wr).drewN nq⟩
      case rest =>
        obtain ⟨rfl, kx⟩ := hcut
        clear q0 q1 q2 q3 q4 q5 q6
        by_cases hcn : 0 ≤ M.cut ∧ M.cut ≤ (M.s0.length : Int) + M.s1.length
        · have hcn' : decide (0 ≤ M.cut ∧ M.cut ≤ (M.s0.length : Int) + M.s1.length) = true := by simpa using hcn
          have bxx := kx.blk bx' (fun h => h)
          have bzx := kx.blk bz (fun h => h)
          have rox := ro.keptN kx
          have kwx := kr.trans kx (fun _ h => .inl h)
          have hzx : w.heap.size + 2 ≤ wc.heap.size := by have := kx.size; omega
          rw [hcn']
          clear hcn'
          have p6 : wc.cell? ⟨w.heap.size, 6, none⟩ = some (.bool false) := (bxx.cell 6).trans rfl
          have f6 : wc.frozen? ⟨w.heap.size, 6, none⟩ = false := bxx.frozen 6
          go_upto_region 12 with fail
          have bxd := bxx.set_ 6 (.bool true)
          have bzd := bzx.far (p := ⟨w.heap.size, 6, none⟩) (by simp) (.bool true)
          have kwd := kwx.setCell (p := ⟨w.heap.size, 6, none⟩) (.inr (Nat.le_refl _)) (.bool true)
          have rod := rox.kept (Kept.set1 wc w.heap.size 6 (.bool true)) (fun x h => .inr (.inl h))
          clear p6 f6
          generalize wc.setCell ⟨w.heap.size, 6, none⟩ (.bool true) = wd at bxd bzd kwd rod ⊢
          have bxe : Blk wd w.heap.size 46 #[.int .i64 M.budget, .int .i64 M.cut, .slice r'.A0 M.s0.length r'.c0, .slice r'.A1 M.s1.length r'.c1, .slice r'.A2 M.w0.length r'.c2, .slice r'.A3 M.w1.length r'.c3, .bool true] := bxd
          have q0 : wd.cell? ⟨w.heap.size, 0, none⟩ = some (.int .i64 M.budget) := (bxe.cell 0).trans rfl
          have q1 : wd.cell? ⟨w.heap.size, 1, none⟩ = some (.int .i64 M.cut) := (bxe.cell 1).trans rfl
          have q2 : wd.cell? ⟨w.heap.size, 2, none⟩ = some (.slice r'.A0 M.s0.length r'.c0) := (bxe.cell 2).trans rfl
          have q3 : wd.cell? ⟨w.heap.size, 3, none⟩ = some (.slice r'.A1 M.s1.length r'.c1) := (bxe.cell 3).trans rfl
          have q4 : wd.cell? ⟨w.heap.size, 4, none⟩ = some (.slice r'.A2 M.w0.length r'.c2) := (bxe.cell 4).trans rfl
          have q5 : wd.cell? ⟨w.heap.size, 5, none⟩ = some (.slice r'.A3 M.w1.length r'.c3) := (bxe.cell 5).trans rfl
          have q6 : wd.cell? ⟨w.heap.size, 6, none⟩ = some (.bool true) := (bxe.cell 6).trans rfl
          have y0 : wd.cell? ⟨w.heap.size + 1, 0, none⟩ = some (.int .i64 0) := (bzd.cell 0).trans rfl
          have y1 : wd.cell? ⟨w.heap.size + 1, 1, none⟩ = some (.int .i64 0) := (bzd.cell 1).trans rfl
          have y2 : wd.cell? ⟨w.heap.size + 1, 2, none⟩ = some (.slice none 0 0) := (bzd.cell 2).trans rfl
          have y3 : wd.cell? ⟨w.heap.size + 1, 3, none⟩ = some (.slice none 0 0) := (bzd.cell 3).trans rfl
          have y4 : wd.cell? ⟨w.heap.size + 1, 4, none⟩ = some (.slice none 0 0) := (bzd.cell 4).trans rfl
          have y5 : wd.cell? ⟨w.heap.size + 1, 5, none⟩ = some (.slice none 0 0) := (bzd.cell 5).trans rfl
          have y6 : wd.cell? ⟨w.heap.size + 1, 6, none⟩ = some (.bool false) := (bzd.cell 6).trans rfl
          have z : ∀ i, wd.frozen? ⟨w.heap.size + 1, i, none⟩ = false := fun i => bzd.frozen i
          have hfin := send_now L 1 xs j M HM.out HMc.out HMt.out hlt hcn (.inr rfl) HD.out (by unfold LS.total; omega) (hcj (by rw [← HMc.out]; exact hcn.1))
          have HFIN := Lib.hid hfin
          clear hfin bxd bxe bzd bxx bzx
          go_wp2_with fail
          refine bodyPost_ret (v := .tuple #[.agg #[.int .i64 M.budget, .int .i64 M.cut, .slice r'.A0 M.s0.length r'.c0, .slice r'.A1 M.s1.length r'.c1, .slice r'.A2 M.w0.length r'.c2, .slice r'.A3 M.w1.length r'.c3, .bool true], .int .i64 (j : Int), .int .i64 15]) (by simp [results, Try.results21, go_sem, y0, y1, y2, y3, y4, y5, y6]) rfl ?_
          rw [HFIN.out]
          exact ⟨r', rfl, rod.fin kwd (Kept.seven _ _ _ _ _ _ _ _ _) rfl rfl rfl rfl⟩
        · have hcn' : decide (0 ≤ M.cut ∧ M.cut ≤ (M.s0.length : Int) + M.s1.length) = false := by simpa using hcn
          have by_ := kx.blk bx' (fun h => h)
          have bzy := kx.blk bz (fun h => h)
          have roy := ro.keptN kx
          have kwy := kr.trans kx (fun _ h => .inl h)
          have hzy : w.heap.size + 2 ≤ wc.heap.size := by have := kx.size; omega
          have hxy : wc.cell? (adx.add j) = some (.int .u8 (b.toNat : Int)) := kx.cell hxc (fun h => h)
          rw [hcn']
          have HCN := Lib.hid hcn
          clear hcn' hcn bx' bz ro SA hxc
          go_upto_region 13 with fail
          obtain ⟨wy, hwy⟩ : ∃ wy, wy = wc := ⟨_, rfl⟩
          rw [← hwy] at by_ bzy roy kwy hzy hxy ⊢
          clear hwy kx
          have hly : ∀ k, FB F w.heap.size k → k < wy.heap.size := by
            rintro x (h | h | h)
            · have := hF x h; omega
            · omega
            · omega
          go_cut [9] (fun s9 wx => s9 = .int .i64 (j : Int) ∧ ∃ r1 : RV, Blk wx w.heap.size 46 (r1.cells { M with s1 := M.s1 ++ [b] }) ∧ Blk wx (w.heap.size + 1) 46 #[.int .i64 0, .int .i64 0, .slice none 0 0, .slice none 0 0, .slice none 0 0, .slice none 0 0, .bool false] ∧
            RefOk wx (FB F w.heap.size) { M with s1 := M.s1 ++ [b] } r1 ∧ Kept NoF w wx ∧ w.heap.size + 2 ≤ wx.heap.size)
          case first =>
            have sy : ∀ W, Kept NoF wy W → (fun w' => Kept NoF wy w' ∧ w'.cell? ⟨w.heap.size, 3, none⟩ = some (.slice r'.A1 M.s1.length r'.c1) ∧ w'.cell? (adx.add j) = some (.int .u8 (b.toNat : Int))) W := fun W k => ⟨k, k.cell ((by_.cell 3).trans rfl) (fun h => h), k.cell hxy (fun h => h)⟩
            have SY := Lib.hid sy
            clear sy
            refine wp_region_noPanic ?_
            refine wp_region_until (by kernel_rfl) 14 (fun w' => Kept NoF wy w' ∧ w'.cell? ⟨w.heap.size, 3, none⟩ = some (.slice r'.A1 M.s1.length r'.c1) ∧ w'.cell? (adx.add j) = some (.int .u8 (b.toNat : Int))) (SY.out _ (Kept.refl NoF wy).drew) (fun hHeld => ?_)
            refine wpAnyU_take (i := 0) (v := ?_) rfl (by kernel_rfl) (by kernel_rfl) (by kernel_rfl) (by kernel_rfl) (by kernel_rfl) (fun _ _ _ h => h) (Or.inl ⟨by rfl, ?_⟩) hHeld ?_
            rotate_left
            · (intro w hSw; (try dsimp only at hSw); go_simp; try (with_reducible rfl))
            simp only [Act.put, List.getElem_toArray, List.getElem_cons_zero, List.setIfInBounds_toArray, List.set_cons_zero, List.set_cons_succ]
            refine wpAnyU_take (i := 2) (v := ?_) rfl (by kernel_rfl) (by kernel_rfl) (by kernel_rfl) (by kernel_rfl) (by kernel_rfl) (fun _ _ _ h => h) (Or.inl ⟨by rfl, ?_⟩) hHeld ?_
            rotate_left
            · (intro w hSw; (try dsimp only at hSw); go_simp; try (with_reducible rfl))
            simp only [Act.put, List.getElem_toArray, List.getElem_cons_zero, List.getElem_cons_succ, List.setIfInBounds_toArray, List.set_cons_zero, List.set_cons_succ]
            refine wpAnyU_take (i := 3) (v := ?_) rfl (by kernel_rfl) (by kernel_rfl) (by kernel_rfl) (by kernel_rfl) (by kernel_rfl) (fun _ _ _ h => h) (Or.inl ⟨by rfl, ?_⟩) hHeld ?_
            rotate_left
            · (intro w hSw; (try dsimp only at hSw); go_simp; try (with_reducible rfl))
            simp only [Act.put, List.getElem_toArray, List.getElem_cons_zero, List.getElem_cons_succ, List.setIfInBounds_toArray, List.set_cons_zero, List.set_cons_succ]
            refine wpAnyU_take (i := 4) (v := ?_) rfl (by kernel_rfl) (by kernel_rfl) (by kernel_rfl) (by kernel_rfl) (by kernel_rfl) (fun _ _ _ h => h) (Or.inl ⟨by rfl, ?_⟩) hHeld ?_
            rotate_left
            · (intro w hSw; (try dsimp only at hSw); go_simp; try (with_reducible rfl))
            simp only [Act.put, List.getElem_toArray, List.getElem_cons_zero, List.getElem_cons_succ, List.setIfInBounds_toArray, List.set_cons_zero, List.set_cons_succ]
            refine wpAnyU_take (i := 5) (v := ?_) rfl (by kernel_rfl) (by kernel_rfl) (by kernel_rfl) (by kernel_rfl) (by kernel_rfl) (fun _ _ _ h => h) (Or.inl ⟨by rfl, ?_⟩) hHeld ?_
            rotate_left
            · (intro w hSw; (try dsimp only at hSw); go_simp; try (with_reducible rfl))
            simp only [Act.put, List.getElem_toArray, List.getElem_cons_zero, List.getElem_cons_succ, List.setIfInBounds_toArray, List.set_cons_zero, List.set_cons_succ]
            refine wpAnyU_take (i := 7) (v := ?_) rfl (by kernel_rfl) (by kernel_rfl) (by kernel_rfl) (by kernel_rfl) (by kernel_rfl) (fun _ _ _ h => h) (Or.inl ⟨by rfl, ?_⟩) hHeld ?_
            rotate_left
            · (intro w hSw; (try dsimp only at hSw); go_simp; try (with_reducible rfl))
            simp only [Act.put, List.getElem_toArray, List.getElem_cons_zero, List.getElem_cons_succ, List.setIfInBounds_toArray, List.set_cons_zero, List.set_cons_succ]
            refine wpAnyU_take (i := 8) (v := ?_) rfl (by kernel_rfl) (by kernel_rfl) (by kernel_rfl) (by kernel_rfl) (by kernel_rfl) (fun _ _ _ h => h) (Or.inl ⟨by rfl, ?_⟩) hHeld ?_
            rotate_left
            · (intro w hSw; (try dsimp only at hSw); go_simp; try (with_reducible rfl))
            simp only [Act.put, List.getElem_toArray, List.getElem_cons_zero, List.getElem_cons_succ, List.setIfInBounds_toArray, List.set_cons_zero, List.set_cons_succ]
            refine wpAnyU_take (i := 9) (v := ?_) rfl (by kernel_rfl) (by kernel_rfl) (by kernel_rfl) (by kernel_rfl) (by kernel_rfl) (fun _ _ _ h => h) (Or.inl ⟨by rfl, ?_⟩) hHeld ?_
            rotate_left
            · (intro w hSw; (try dsimp only at hSw); go_simp; try (with_reducible rfl))
            simp only [Act.put, List.getElem_toArray, List.getElem_cons_zero, List.getElem_cons_succ, List.setIfInBounds_toArray, List.set_cons_zero, List.set_cons_succ]
            refine wpAnyU_take (i := 10) (v := ?_) rfl (by kernel_rfl) (by kernel_rfl) (by kernel_rfl) (by kernel_rfl) (by kernel_rfl) (fun _ _ _ h => h) (Or.inl ⟨by rfl, ?_⟩) hHeld ?_
            rotate_left
            · (intro w hSw; (try dsimp only at hSw); go_simp; try (with_reducible rfl))
            simp only [Act.put, List.getElem_toArray, List.getElem_cons_zero, List.getElem_cons_succ, List.setIfInBounds_toArray, List.set_cons_zero, List.set_cons_succ]
            refine wpAnyU_take (i := 13) (v := ?_) rfl (by kernel_rfl) (by kernel_rfl) (by kernel_rfl) (by kernel_rfl) (by kernel_rfl) (fun _ _ _ h => h) (Or.inl ⟨by rfl, ?_⟩) hHeld ?_
            rotate_left
            · (intro w hSw; (try dsimp only at hSw); go_simp; try (with_reducible rfl))
            simp only [Act.put, List.getElem_toArray, List.getElem_cons_zero, List.getElem_cons_succ, List.setIfInBounds_toArray, List.set_cons_zero, List.set_cons_succ]
            refine wpAnyU_two (i := 1) (k := 11) (by kernel_rfl) rfl rfl (fun K hK => ?_) (fun K hK => ?_)
            · go_simp
              have kE := ((Kept.refl NoF wy).alloc (.cells #[] 5)).drew
              have ownE := (Kept.refl NoF _).drew.own (mkE wy) (fun _ _ h => h)
              have hbE := hb_new (wy := wy) (Nat.le_refl wy.heap.size)
              refine hK.out _ _ (fun _ => SY.out _ kE) ?_
              clear hK K
              try simp only [Act.put, List.getElem_toArray, List.getElem_cons_zero, List.getElem_cons_succ, List.setIfInBounds_toArray, List.set_cons_zero, List.set_cons_succ]
              generalize (wy.alloc (.cells #[] 5)).drew = wE at kE ownE ⊢
              refine wpAnyU_two (i := 6) (k := 11) (by kernel_rfl) rfl rfl (fun K hK => ?_) (fun K hK => ?_)
              · skip
                refine step_append_any _ rfl (.tmp 46) (.tmp 50) 22 rfl 0 5 i0 (.int .u8 0) 1 1 Try.underlying22 hi0 hz0 hz1 hz2 rfl (by omega) (.slice (some ⟨wy.heap.size, 0, none⟩) 0 0) 0 [] rfl ownE _ r'.A1 M.s1.length r'.c1 (bvs M.s1) rfl (kE.src roy.s1.1 (fun _ _ _ h => h)) (bvs_one _) (by unfold maxLen; omega) (by omega) (Nat.zero_le _) ?_
                intro v6 w6 own6 g6 at6
                rw [Nat.zero_add, List.nil_append] at own6
                obtain ⟨A6, c6, rfl, _⟩ := own_form own6
                have k6 : Kept NoF wy w6 := kE.grown g6 (fun g hg => .inr (hbE g hg))
                have hb6 := hb_next hbE kE.size at6
                refine hK.out _ _ (fun _ => SY.out _ k6) ?_
                clear hK K
                try simp only [Act.put, List.getElem_toArray, List.getElem_cons_zero, List.getElem_cons_succ, List.setIfInBounds_toArray, List.set_cons_zero, List.set_cons_succ]
                clear g6 at6
                refine wpAnyU_alone (i := 11) (by kernel_rfl) rfl (fun K hK => ?_)
                go_simp
                have kB := k6.alloc (.cells #[.int .u8 (b.toNat : Int)] 5)
                have ownB := ((Kept.refl NoF w6).alloc (.cells #[.int .u8 (b.toNat : Int)] 5)).own own6 (fun _ _ h => h)
                have rdB := mkB w6 b
                refine hK.out _ _ (fun _ => SY.out _ kB) ?_
                clear hK K
                try simp only [Act.put, List.getElem_toArray, List.getElem_cons_zero, List.getElem_cons_succ, List.setIfInBounds_toArray, List.set_cons_zero, List.set_cons_succ]
                generalize w6.alloc (.cells #[.int .u8 (b.toNat : Int)] 5) = wB at kB ownB rdB ⊢
                refine wpAnyU_alone (i := 12) (by kernel_rfl) rfl (fun K hK => ?_)
                refine step_append_any _ rfl (.tmp 51) (.tmp 56) 22 rfl 0 5 i0 (.int .u8 0) 1 1 Try.underlying22 hi0 hz0 hz1 hz2 rfl (by omega) (.slice A6 (M.s1.length) c6) (M.s1.length) (bvs M.s1) rfl ownB _ _ 1 1 (bvs [b]) rfl rdB (bvs_one _) (by unfold maxLen; omega) (by omega) (Nat.zero_le _) ?_
                intro v8 w8 own8 g8 at8
                obtain ⟨A8, c8, rfl, _⟩ := own_form own8
                have k8 : Kept NoF wy w8 := kB.grown g8 (fun g hg => .inr (hb6 g hg))
                have hb8 := hb_next hb6 kB.size at8
                have qc : w8.cell? ⟨w.heap.size, 3, none⟩ = some (.slice r'.A1 M.s1.length r'.c1) := (SY.out _ k8).2.1
                have zc : w8.frozen? ⟨w.heap.size, 3, none⟩ = false := (k8.blk by_ (fun h => h)).frozen 3
                refine hK.out _ _ (fun _ => SY.out _ k8) ?_
                clear hK K
                try simp only [Act.put, List.getElem_toArray, List.getElem_cons_zero, List.getElem_cons_succ, List.setIfInBounds_toArray, List.set_cons_zero, List.set_cons_succ]
                clear g8 at8
                refine wpAnyU_alone (i := 14) (by kernel_rfl) rfl (fun K hK => ?_)
                go_simp
                refine hK.out _ _ (fun h => (Bool.false_ne_true (h.symm.trans (by kernel_rfl))).elim) ?_
                clear hK K
                try simp only [Act.put, List.getElem_toArray, List.getElem_cons_zero, List.getElem_cons_succ, List.setIfInBounds_toArray, List.set_cons_zero, List.set_cons_succ]
                refine wpAnyU_alone (i := 15) (by kernel_rfl) rfl (fun K hK => ?_)
                go_simp
                refine hK.out _ _ (fun h => (Bool.false_ne_true (h.symm.trans (by kernel_rfl))).elim) ?_
                clear hK K
                try simp only [Act.put, List.getElem_toArray, List.getElem_cons_zero, List.getElem_cons_succ, List.setIfInBounds_toArray, List.set_cons_zero, List.set_cons_succ]
                refine wpAnyU_done (by kernel_rfl) ?_ _
                refine NoPanic.normal ?_
                go_wp2_with fail
                go_meet
                case rel => exact ⟨rfl, ref_app_s1 HMd.out roy hly by_ bzy k8 own8 hb8 kwy (Nat.le_refl _)⟩
              · go_simp
                have kB := kE.alloc (.cells #[.int .u8 (b.toNat : Int)] 5)
                have ownB := ((Kept.refl NoF wE).alloc (.cells #[.int .u8 (b.toNat : Int)] 5)).own ownE (fun _ _ h => h)
                have rdB := mkB wE b
                have hne : ∀ g, (Value.slice (some ⟨wy.heap.size, 0, none⟩) 0 0).ownBlock = some g → (⟨wE.heap.size, 0, none⟩ : Addr).block ≠ g := fun g hg => Nat.ne_of_gt (own_lt ownE hg)
                refine hK.out _ _ (fun _ => SY.out _ kB) ?_
                clear hK K
                try simp only [Act.put, List.getElem_toArray, List.getElem_cons_zero, List.getElem_cons_succ, List.setIfInBounds_toArray, List.set_cons_zero, List.set_cons_succ]
                generalize wE.alloc (.cells #[.int .u8 (b.toNat : Int)] 5) = wB at kB ownB rdB ⊢
                refine wpAnyU_alone (i := 6) (by kernel_rfl) rfl (fun K hK => ?_)
                refine step_append_any _ rfl (.tmp 46) (.tmp 50) 22 rfl 0 5 i0 (.int .u8 0) 1 1 Try.underlying22 hi0 hz0 hz1 hz2 rfl (by omega) (.slice (some ⟨wy.heap.size, 0, none⟩) 0 0) 0 [] rfl ownB _ r'.A1 M.s1.length r'.c1 (bvs M.s1) rfl (kB.src roy.s1.1 (fun _ _ _ h => h)) (bvs_one _) (by unfold maxLen; omega) (by omega) (Nat.zero_le _) ?_
                intro v6 w6 own6 g6 at6
                rw [Nat.zero_add, List.nil_append] at own6
                obtain ⟨A6, c6, rfl, _⟩ := own_form own6
                have k6 : Kept NoF wy w6 := kB.grown g6 (fun g hg => .inr (hbE g hg))
                have hb6 := hb_next hbE kB.size at6
                have rd6 := rd_next rdB g6 hne
                refine hK.out _ _ (fun _ => SY.out _ k6) ?_
                clear hK K
                try simp only [Act.put, List.getElem_toArray, List.getElem_cons_zero, List.getElem_cons_succ, List.setIfInBounds_toArray, List.set_cons_zero, List.set_cons_succ]
                clear g6 at6
                refine wpAnyU_alone (i := 12) (by kernel_rfl) rfl (fun K hK => ?_)
                refine step_append_any _ rfl (.tmp 51) (.tmp 56) 22 rfl 0 5 i0 (.int .u8 0) 1 1 Try.underlying22 hi0 hz0 hz1 hz2 rfl (by omega) (.slice A6 (M.s1.length) c6) (M.s1.length) (bvs M.s1) rfl own6 _ _ 1 1 (bvs [b]) rfl rd6 (bvs_one _) (by unfold maxLen; omega) (by omega) (Nat.zero_le _) ?_
                intro v8 w8 own8 g8 at8
                obtain ⟨A8, c8, rfl, _⟩ := own_form own8
                have k8 : Kept NoF wy w8 := k6.grown g8 (fun g hg => .inr (hb6 g hg))
                have hb8 := hb_next hb6 k6.size at8
                have qc : w8.cell? ⟨w.heap.size, 3, none⟩ = some (.slice r'.A1 M.s1.length r'.c1) := (SY.out _ k8).2.1
                have zc : w8.frozen? ⟨w.heap.size, 3, none⟩ = false := (k8.blk by_ (fun h => h)).frozen 3
                refine hK.out _ _ (fun _ => SY.out _ k8) ?_
                clear hK K
                try simp only [Act.put, List.getElem_toArray, List.getElem_cons_zero, List.getElem_cons_succ, List.setIfInBounds_toArray, List.set_cons_zero, List.set_cons_succ]
                clear g8 at8
                refine wpAnyU_alone (i := 14) (by kernel_rfl) rfl (fun K hK => ?_)
                go_simp
                refine hK.out _ _ (fun h => (Bool.false_ne_true (h.symm.trans (by kernel_rfl))).elim) ?_
                clear hK K
                try simp only [Act.put, List.getElem_toArray, List.getElem_cons_zero, List.getElem_cons_succ, List.setIfInBounds_toArray, List.set_cons_zero, List.set_cons_succ]
                refine wpAnyU_alone (i := 15) (by kernel_rfl) rfl (fun K hK => ?_)
                go_simp
                refine hK.out _ _ (fun h => (Bool.false_ne_true (h.symm.trans (by kernel_rfl))).elim) ?_
                clear hK K
                try simp only [Act.put, List.getElem_toArray, List.getElem_cons_zero, List.getElem_cons_succ, List.setIfInBounds_toArray, List.set_cons_zero, List.set_cons_succ]
                refine wpAnyU_done (by kernel_rfl) ?_ _
                refine NoPanic.normal ?_
                go_wp2_with fail
                go_meet
                case rel => exact ⟨rfl, ref_app_s1 HMd.out roy hly by_ bzy k8 own8 hb8 kwy (Nat.le_refl _)⟩
            · go_simp
              have kC := ((Kept.refl NoF wy).alloc (.cells #[.int .u8 (b.toNat : Int)] 5)).drew
              have rdC := (Kept.refl NoF _).drew.src (mkB wy b) (fun _ _ _ h => h)
              have hcl : wy.heap.size < (wy.alloc (.cells #[.int .u8 (b.toNat : Int)] 5)).drew.heap.size := (Blk.new wy 5 #[.int .u8 (b.toNat : Int)]).drew.lt
              refine hK.out _ _ (fun _ => SY.out _ kC) ?_
              clear hK K
              try simp only [Act.put, List.getElem_toArray, List.getElem_cons_zero, List.getElem_cons_succ, List.setIfInBounds_toArray, List.set_cons_zero, List.set_cons_succ]
              generalize (wy.alloc (.cells #[.int .u8 (b.toNat : Int)] 5)).drew = wE at kC rdC hcl ⊢
              refine wpAnyU_alone (i := 1) (by kernel_rfl) rfl (fun K hK => ?_)
              go_simp
              have kB := kC.alloc (.cells #[] 5)
              have ownB := mkE wE
              have hbE := hb_new (wy := wy) kC.size
              have rdB := ((Kept.refl NoF wE).alloc (.cells #[] 5)).src rdC (fun _ _ _ h => h)
              have hne : ∀ g, (Value.slice (some ⟨wE.heap.size, 0, none⟩) 0 0).ownBlock = some g → (⟨wy.heap.size, 0, none⟩ : Addr).block ≠ g := fun g hg => by
                simp only [Value.ownBlock] at hg
                injection hg with hg
                exact Nat.ne_of_lt (hg ▸ hcl)
              refine hK.out _ _ (fun _ => SY.out _ kB) ?_
              clear hK K
              try simp only [Act.put, List.getElem_toArray, List.getElem_cons_zero, List.getElem_cons_succ, List.setIfInBounds_toArray, List.set_cons_zero, List.set_cons_succ]
              generalize wE.alloc (.cells #[] 5) = wB at kB ownB rdB ⊢
              refine wpAnyU_alone (i := 6) (by kernel_rfl) rfl (fun K hK => ?_)
              refine step_append_any _ rfl (.tmp 46) (.tmp 50) 22 rfl 0 5 i0 (.int .u8 0) 1 1 Try.underlying22 hi0 hz0 hz1 hz2 rfl (by omega) (.slice (some ⟨wE.heap.size, 0, none⟩) 0 0) 0 [] rfl ownB _ r'.A1 M.s1.length r'.c1 (bvs M.s1) rfl (kB.src roy.s1.1 (fun _ _ _ h => h)) (bvs_one _) (by unfold maxLen; omega) (by omega) (Nat.zero_le _) ?_
              intro v6 w6 own6 g6 at6
              rw [Nat.zero_add, List.nil_append] at own6
              obtain ⟨A6, c6, rfl, _⟩ := own_form own6
              have k6 : Kept NoF wy w6 := kB.grown g6 (fun g hg => .inr (hbE g hg))
              have hb6 := hb_next hbE kB.size at6
              have rd6 := rd_next rdB g6 hne
              refine hK.out _ _ (fun _ => SY.out _ k6) ?_
              clear hK K
              try simp only [Act.put, List.getElem_toArray, List.getElem_cons_zero, List.getElem_cons_succ, List.setIfInBounds_toArray, List.set_cons_zero, List.set_cons_succ]
              clear g6 at6
              refine wpAnyU_alone (i := 12) (by kernel_rfl) rfl (fun K hK => ?_)
              refine step_append_any _ rfl (.tmp 51) (.tmp 56) 22 rfl 0 5 i0 (.int .u8 0) 1 1 Try.underlying22 hi0 hz0 hz1 hz2 rfl (by omega) (.slice A6 (M.s1.length) c6) (M.s1.length) (bvs M.s1) rfl own6 _ _ 1 1 (bvs [b]) rfl rd6 (bvs_one _) (by unfold maxLen; omega) (by omega) (Nat.zero_le _) ?_
              intro v8 w8 own8 g8 at8
              obtain ⟨A8, c8, rfl, _⟩ := own_form own8
              have k8 : Kept NoF wy w8 := k6.grown g8 (fun g hg => .inr (hb6 g hg))
              have hb8 := hb_next hb6 k6.size at8
              have qc : w8.cell? ⟨w.heap.size, 3, none⟩ = some (.slice r'.A1 M.s1.length r'.c1) := (SY.out _ k8).2.1
              have zc : w8.frozen? ⟨w.heap.size, 3, none⟩ = false := (k8.blk by_ (fun h => h)).frozen 3
              refine hK.out _ _ (fun _ => SY.out _ k8) ?_
              clear hK K
              try simp only [Act.put, List.getElem_toArray, List.getElem_cons_zero, List.getElem_cons_succ, List.setIfInBounds_toArray, List.set_cons_zero, List.set_cons_succ]
              clear g8 at8
              refine wpAnyU_alone (i := 14) (by kernel_rfl) rfl (fun K hK => ?_)
              go_simp
              refine hK.out _ _ (fun h => (Bool.false_ne_true (h.symm.trans (by kernel_rfl))).elim) ?_
              clear hK K
              try simp only [Act.put, List.getElem_toArray, List.getElem_cons_zero, List.getElem_cons_succ, List.setIfInBounds_toArray, List.set_cons_zero, List.set_cons_succ]
              refine wpAnyU_alone (i := 15) (by kernel_rfl) rfl (fun K hK => ?_)
              go_simp
              refine hK.out _ _ (fun h => (Bool.false_ne_true (h.symm.trans (by kernel_rfl))).elim) ?_
              clear hK K
              try simp only [Act.put, List.getElem_toArray, List.getElem_cons_zero, List.getElem_cons_succ, List.setIfInBounds_toArray, List.set_cons_zero, List.set_cons_succ]
              refine wpAnyU_done (by kernel_rfl) ?_ _
              refine NoPanic.normal ?_
              go_wp2_with fail
              go_meet
              case rel => exact ⟨rfl, ref_app_s1 HMd.out roy hly by_ bzy k8 own8 hb8 kwy (Nat.le_refl _)⟩
          case rest =>
            obtain ⟨rfl, r1, cb, bzy, roy, kwy, hzy⟩ := hcut
            obtain ⟨M1, hM1⟩ : ∃ M1 : LS, M1 = { M with s1 := M.s1 ++ [b] } := ⟨_, rfl⟩
            rw [← hM1] at cb roy
            have hq : M1.w0.length ≤ M.w0.length := by rw [hM1]; exact Nat.le_refl _
            have hMd1 : M1.down = false := by rw [hM1]; exact HMd.out
            have HMd1 := Lib.hid hMd1
            have HM1 := Lib.hid hM1
            have by_ : Blk wc w.heap.size 46 #[.int .i64 M1.budget, .int .i64 M1.cut, .slice r1.A0 M1.s0.length r1.c0, .slice r1.A1 M1.s1.length r1.c1, .slice r1.A2 M1.w0.length r1.c2, .slice r1.A3 M1.w1.length r1.c3, .bool false] := by rw [RV.cells, hMd1] at cb; exact cb
            have hxy : wc.cell? (adx.add j) = some (.int .u8 (b.toNat : Int)) := kwy.cell HX0.out (fun h => h)
            clear hM1 hMd1 cb
            have hw1 : IntKind.i64.wrap 0 = 0 := by rw [IntKind.wrap_i64]; omega
            go_upto_region 14 with fail
            obtain ⟨wy, hwy⟩ : ∃ wy, wy = wc := ⟨_, rfl⟩
            rw [← hwy] at by_ bzy roy kwy hzy hxy ⊢
            clear hwy
            have hly : ∀ k, FB F w.heap.size k → k < wy.heap.size := by
              rintro x (h | h | h)
              · have := hF x h; omega
              · omega
              · omega
            have sy : ∀ W, Kept NoF wy W → (fun w' => Kept NoF wy w' ∧ w'.cell? ⟨w.heap.size, 4, none⟩ = some (.slice r1.A2 M1.w0.length r1.c2) ∧ w'.cell? (adx.add j) = some (.int .u8 (b.toNat : Int))) W := fun W k => ⟨k, k.cell ((by_.cell 4).trans rfl) (fun h => h), k.cell hxy (fun h => h)⟩
            have SY := Lib.hid sy
            clear sy
            refine wp_region_noPanic ?_
            refine wp_region_until (by kernel_rfl) 16 (fun w' => Kept NoF wy w' ∧ w'.cell? ⟨w.heap.size, 4, none⟩ = some (.slice r1.A2 M1.w0.length r1.c2) ∧ w'.cell? (adx.add j) = some (.int .u8 (b.toNat : Int))) (SY.out _ (Kept.refl NoF wy).drew) (fun hHeld => ?_)
            refine wpAnyU_take (i := 0) (v := ?_) rfl (by kernel_rfl) (by kernel_rfl) (by kernel_rfl) (by kernel_rfl) (by kernel_rfl) (fun _ _ _ h => h) (Or.inl ⟨by rfl, ?_⟩) hHeld ?_
            rotate_left
            · (intro w hSw; (try dsimp only at hSw); go_simp; try (with_reducible rfl))
            simp only [Act.put, List.getElem_toArray, List.getElem_cons_zero, List.setIfInBounds_toArray, List.set_cons_zero, List.set_cons_succ]
            refine wpAnyU_take (i := 1) (v := ?_) rfl (by kernel_rfl) (by kernel_rfl) (by kernel_rfl) (by kernel_rfl) (by kernel_rfl) (fun _ _ _ h => h) (Or.inl ⟨by rfl, ?_⟩) hHeld ?_
            rotate_left
            · (intro w hSw; (try dsimp only at hSw); go_simp; try (with_reducible rfl))
            simp only [Act.put, List.getElem_toArray, List.getElem_cons_zero, List.getElem_cons_succ, List.setIfInBounds_toArray, List.set_cons_zero, List.set_cons_succ]
            refine wpAnyU_take (i := 3) (v := ?_) rfl (by kernel_rfl) (by kernel_rfl) (by kernel_rfl) (by kernel_rfl) (by kernel_rfl) (fun _ _ _ h => h) (Or.inl ⟨by rfl, ?_⟩) hHeld ?_
            rotate_left
            · (intro w hSw; (try dsimp only at hSw); go_simp; try (with_reducible rfl))
            simp only [Act.put, List.getElem_toArray, List.getElem_cons_zero, List.getElem_cons_succ, List.setIfInBounds_toArray, List.set_cons_zero, List.set_cons_succ]
            refine wpAnyU_take (i := 4) (v := ?_) rfl (by kernel_rfl) (by kernel_rfl) (by kernel_rfl) (by kernel_rfl) (by kernel_rfl) (fun _ _ _ h => h) (Or.inl ⟨by rfl, ?_⟩) hHeld ?_
            rotate_left
            · (intro w hSw; (try dsimp only at hSw); go_simp; try (with_reducible rfl))
            simp only [Act.put, List.getElem_toArray, List.getElem_cons_zero, List.getElem_cons_succ, List.setIfInBounds_toArray, List.set_cons_zero, List.set_cons_succ]
            refine wpAnyU_take (i := 5) (v := ?_) rfl (by kernel_rfl) (by kernel_rfl) (by kernel_rfl) (by kernel_rfl) (by kernel_rfl) (fun _ _ _ h => h) (Or.inl ⟨by rfl, ?_⟩) hHeld ?_
            rotate_left
            · (intro w hSw; (try dsimp only at hSw); go_simp; try (with_reducible rfl))
            simp only [Act.put, List.getElem_toArray, List.getElem_cons_zero, List.getElem_cons_succ, List.setIfInBounds_toArray, List.set_cons_zero, List.set_cons_succ]
            refine wpAnyU_take (i := 6) (v := ?_) rfl (by kernel_rfl) (by kernel_rfl) (by kernel_rfl) (by kernel_rfl) (by kernel_rfl) (fun _ _ _ h => h) (Or.inl ⟨by rfl, ?_⟩) hHeld ?_
            rotate_left
            · (intro w hSw; (try dsimp only at hSw); go_simp; try (with_reducible rfl))
            simp only [Act.put, List.getElem_toArray, List.getElem_cons_zero, List.getElem_cons_succ, List.setIfInBounds_toArray, List.set_cons_zero, List.set_cons_succ]
            refine wpAnyU_take (i := 7) (v := ?_) rfl (by kernel_rfl) (by kernel_rfl) (by kernel_rfl) (by kernel_rfl) (by kernel_rfl) (fun _ _ _ h => h) (Or.inl ⟨by rfl, ?_⟩) hHeld ?_
            rotate_left
            · (intro w hSw; (try dsimp only at hSw); go_simp; try (with_reducible rfl))
            simp only [Act.put, List.getElem_toArray, List.getElem_cons_zero, List.getElem_cons_succ, List.setIfInBounds_toArray, List.set_cons_zero, List.set_cons_succ]
            refine wpAnyU_take (i := 9) (v := ?_) rfl (by kernel_rfl) (by kernel_rfl) (by kernel_rfl) (by kernel_rfl) (by kernel_rfl) (fun _ _ _ h => h) (Or.inl ⟨by rfl, ?_⟩) hHeld ?_
            rotate_left
            · (intro w hSw; (try dsimp only at hSw); go_simp; try (with_reducible rfl))
            simp only [Act.put, List.getElem_toArray, List.getElem_cons_zero, List.getElem_cons_succ, List.setIfInBounds_toArray, List.set_cons_zero, List.set_cons_succ]
            refine wpAnyU_take (i := 10) (v := ?_) rfl (by kernel_rfl) (by kernel_rfl) (by kernel_rfl) (by kernel_rfl) (by kernel_rfl) (fun _ _ _ h => h) (Or.inl ⟨by rfl, ?_⟩) hHeld ?_
            rotate_left
            · (intro w hSw; (try dsimp only at hSw); go_simp; try (with_reducible rfl))
            simp only [Act.put, List.getElem_toArray, List.getElem_cons_zero, List.getElem_cons_succ, List.setIfInBounds_toArray, List.set_cons_zero, List.set_cons_succ]
            refine wpAnyU_take (i := 11) (v := ?_) rfl (by kernel_rfl) (by kernel_rfl) (by kernel_rfl) (by kernel_rfl) (by kernel_rfl) (fun _ _ _ h => h) (Or.inl ⟨by rfl, ?_⟩) hHeld ?_
            rotate_left
            · (intro w hSw; (try dsimp only at hSw); go_simp; try (with_reducible rfl))
            simp only [Act.put, List.getElem_toArray, List.getElem_cons_zero, List.getElem_cons_succ, List.setIfInBounds_toArray, List.set_cons_zero, List.set_cons_succ]
            refine wpAnyU_take (i := 12) (v := ?_) rfl (by kernel_rfl) (by kernel_rfl) (by kernel_rfl) (by kernel_rfl) (by kernel_rfl) (fun _ _ _ h => h) (Or.inl ⟨by rfl, ?_⟩) hHeld ?_
            rotate_left
            · (intro w hSw; (try dsimp only at hSw); go_simp; try (with_reducible rfl))
            simp only [Act.put, List.getElem_toArray, List.getElem_cons_zero, List.getElem_cons_succ, List.setIfInBounds_toArray, List.set_cons_zero, List.set_cons_succ]
            refine wpAnyU_take (i := 15) (v := ?_) rfl (by kernel_rfl) (by kernel_rfl) (by kernel_rfl) (by kernel_rfl) (by kernel_rfl) (fun _ _ _ h => h) (Or.inl ⟨by rfl, ?_⟩) hHeld ?_
            rotate_left
            · (intro w hSw; (try dsimp only at hSw); go_simp; try (with_reducible rfl))
            simp only [Act.put, List.getElem_toArray, List.getElem_cons_zero, List.getElem_cons_succ, List.setIfInBounds_toArray, List.set_cons_zero, List.set_cons_succ]
            refine wpAnyU_two (i := 2) (k := 13) (by kernel_rfl) rfl rfl (fun K hK => ?_) (fun K hK => ?_)
            · go_simp
              have kE := ((Kept.refl NoF wy).alloc (.cells #[] 5)).drew
              have ownE := (Kept.refl NoF _).drew.own (mkE wy) (fun _ _ h => h)
              have hbE := hb_new (wy := wy) (Nat.le_refl wy.heap.size)
              refine hK.out _ _ (fun _ => SY.out _ kE) ?_
              clear hK K
              try simp only [Act.put, List.getElem_toArray, List.getElem_cons_zero, List.getElem_cons_succ, List.setIfInBounds_toArray, List.set_cons_zero, List.set_cons_succ]
              generalize (wy.alloc (.cells #[] 5)).drew = wE at kE ownE ⊢
              refine wpAnyU_two (i := 8) (k := 13) (by kernel_rfl) rfl rfl (fun K hK => ?_) (fun K hK => ?_)
              · skip
                refine step_append_any _ rfl (.tmp 62) (.tmp 67) 22 rfl 0 5 i0 (.int .u8 0) 1 1 Try.underlying22 hi0 hz0 hz1 hz2 rfl (by omega) (.slice (some ⟨wy.heap.size, 0, none⟩) 0 0) 0 [] rfl ownE _ r1.A2 M1.w0.length r1.c2 (bvs M1.w0) rfl (kE.src roy.w0.1 (fun _ _ _ h => h)) (bvs_one _) (by unfold maxLen; omega) (by omega) (Nat.zero_le _) ?_
                intro v6 w6 own6 g6 at6
                rw [Nat.zero_add, List.nil_append] at own6
                obtain ⟨A6, c6, rfl, _⟩ := own_form own6
                have k6 : Kept NoF wy w6 := kE.grown g6 (fun g hg => .inr (hbE g hg))
                have hb6 := hb_next hbE kE.size at6
                refine hK.out _ _ (fun _ => SY.out _ k6) ?_
                clear hK K
                try simp only [Act.put, List.getElem_toArray, List.getElem_cons_zero, List.getElem_cons_succ, List.setIfInBounds_toArray, List.set_cons_zero, List.set_cons_succ]
                clear g6 at6
                refine wpAnyU_alone (i := 13) (by kernel_rfl) rfl (fun K hK => ?_)
                go_simp
                have kB := k6.alloc (.cells #[.int .u8 (b.toNat : Int)] 5)
                have ownB := ((Kept.refl NoF w6).alloc (.cells #[.int .u8 (b.toNat : Int)] 5)).own own6 (fun _ _ h => h)
                have rdB := mkB w6 b
                refine hK.out _ _ (fun _ => SY.out _ kB) ?_
                clear hK K
                try simp only [Act.put, List.getElem_toArray, List.getElem_cons_zero, List.getElem_cons_succ, List.setIfInBounds_toArray, List.set_cons_zero, List.set_cons_succ]
                generalize w6.alloc (.cells #[.int .u8 (b.toNat : Int)] 5) = wB at kB ownB rdB ⊢
                refine wpAnyU_alone (i := 14) (by kernel_rfl) rfl (fun K hK => ?_)
                refine step_append_any _ rfl (.tmp 68) (.tmp 73) 22 rfl 0 5 i0 (.int .u8 0) 1 1 Try.underlying22 hi0 hz0 hz1 hz2 rfl (by omega) (.slice A6 (M1.w0.length) c6) (M1.w0.length) (bvs M1.w0) rfl ownB _ _ 1 1 (bvs [b]) rfl rdB (bvs_one _) (by unfold maxLen; omega) (by omega) (Nat.zero_le _) ?_
                intro v8 w8 own8 g8 at8
                obtain ⟨A8, c8, rfl, _⟩ := own_form own8
                have k8 : Kept NoF wy w8 := kB.grown g8 (fun g hg => .inr (hb6 g hg))
                have hb8 := hb_next hb6 kB.size at8
                have qc : w8.cell? ⟨w.heap.size, 4, none⟩ = some (.slice r1.A2 M1.w0.length r1.c2) := (SY.out _ k8).2.1
                have zc : w8.frozen? ⟨w.heap.size, 4, none⟩ = false := (k8.blk by_ (fun h => h)).frozen 4
                refine hK.out _ _ (fun _ => SY.out _ k8) ?_
                clear hK K
                try simp only [Act.put, List.getElem_toArray, List.getElem_cons_zero, List.getElem_cons_succ, List.setIfInBounds_toArray, List.set_cons_zero, List.set_cons_succ]
                clear g8 at8
                refine wpAnyU_alone (i := 16) (by kernel_rfl) rfl (fun K hK => ?_)
                go_simp
                refine hK.out _ _ (fun h => (Bool.false_ne_true (h.symm.trans (by kernel_rfl))).elim) ?_
                clear hK K
                try simp only [Act.put, List.getElem_toArray, List.getElem_cons_zero, List.getElem_cons_succ, List.setIfInBounds_toArray, List.set_cons_zero, List.set_cons_succ]
                refine wpAnyU_alone (i := 17) (by kernel_rfl) rfl (fun K hK => ?_)
                go_simp
                refine hK.out _ _ (fun h => (Bool.false_ne_true (h.symm.trans (by kernel_rfl))).elim) ?_
                clear hK K
                try simp only [Act.put, List.getElem_toArray, List.getElem_cons_zero, List.getElem_cons_succ, List.setIfInBounds_toArray, List.set_cons_zero, List.set_cons_succ]
                refine wpAnyU_done (by kernel_rfl) ?_ _
                refine NoPanic.normal ?_
                obtain ⟨r2, cb, cz, cr, ck, chz⟩ := ref_app_w0 HMd1.out roy hly by_ bzy k8 own8 hb8 kwy (Nat.le_refl _)
                generalize w8.setCell ⟨w.heap.size, 4, none⟩ (.slice A8 (M1.w0.length + 1) c8) = w9 at cb cz cr ck chz ⊢
                go_wp2_with fail
                go_roundw
                case rel => exact RSRel.next hlt HSN.out (by rw [HM1.out]; simp [LS.put, LS.put1, HMd.out]) HCN.out HMc.out HMt.out hcj cb cz cr ck chz
                case measure => simp [intOf]; omega
              · go_simp
                have kB := kE.alloc (.cells #[.int .u8 (b.toNat : Int)] 5)
                have ownB := ((Kept.refl NoF wE).alloc (.cells #[.int .u8 (b.toNat : Int)] 5)).own ownE (fun _ _ h => h)
                have rdB := mkB wE b
                have hne : ∀ g, (Value.slice (some ⟨wy.heap.size, 0, none⟩) 0 0).ownBlock = some g → (⟨wE.heap.size, 0, none⟩ : Addr).block ≠ g := fun g hg => Nat.ne_of_gt (own_lt ownE hg)
                refine hK.out _ _ (fun _ => SY.out _ kB) ?_
                clear hK K
                try simp only [Act.put, List.getElem_toArray, List.getElem_cons_zero, List.getElem_cons_succ, List.setIfInBounds_toArray, List.set_cons_zero, List.set_cons_succ]
                generalize wE.alloc (.cells #[.int .u8 (b.toNat : Int)] 5) = wB at kB ownB rdB ⊢
                refine wpAnyU_alone (i := 8) (by kernel_rfl) rfl (fun K hK => ?_)
                refine step_append_any _ rfl (.tmp 62) (.tmp 67) 22 rfl 0 5 i0 (.int .u8 0) 1 1 Try.underlying22 hi0 hz0 hz1 hz2 rfl (by omega) (.slice (some ⟨wy.heap.size, 0, none⟩) 0 0) 0 [] rfl ownB _ r1.A2 M1.w0.length r1.c2 (bvs M1.w0) rfl (kB.src roy.w0.1 (fun _ _ _ h => h)) (bvs_one _) (by unfold maxLen; omega) (by omega) (Nat.zero_le _) ?_
                intro v6 w6 own6 g6 at6
                rw [Nat.zero_add, List.nil_append] at own6
                obtain ⟨A6, c6, rfl, _⟩ := own_form own6
                have k6 : Kept NoF wy w6 := kB.grown g6 (fun g hg => .inr (hbE g hg))
                have hb6 := hb_next hbE kB.size at6
                have rd6 := rd_next rdB g6 hne
                refine hK.out _ _ (fun _ => SY.out _ k6) ?_
                clear hK K
                try simp only [Act.put, List.getElem_toArray, List.getElem_cons_zero, List.getElem_cons_succ, List.setIfInBounds_toArray, List.set_cons_zero, List.set_cons_succ]
                clear g6 at6
                refine wpAnyU_alone (i := 14) (by kernel_rfl) rfl (fun K hK => ?_)
                refine step_append_any _ rfl (.tmp 68) (.tmp 73) 22 rfl 0 5 i0 (.int .u8 0) 1 1 Try.underlying22 hi0 hz0 hz1 hz2 rfl (by omega) (.slice A6 (M1.w0.length) c6) (M1.w0.length) (bvs M1.w0) rfl own6 _ _ 1 1 (bvs [b]) rfl rd6 (bvs_one _) (by unfold maxLen; omega) (by omega) (Nat.zero_le _) ?_
                intro v8 w8 own8 g8 at8
                obtain ⟨A8, c8, rfl, _⟩ := own_form own8
                have k8 : Kept NoF wy w8 := k6.grown g8 (fun g hg => .inr (hb6 g hg))
                have hb8 := hb_next hb6 k6.size at8
                have qc : w8.cell? ⟨w.heap.size, 4, none⟩ = some (.slice r1.A2 M1.w0.length r1.c2) := (SY.out _ k8).2.1
                have zc : w8.frozen? ⟨w.heap.size, 4, none⟩ = false := (k8.blk by_ (fun h => h)).frozen 4
                refine hK.out _ _ (fun _ => SY.out _ k8) ?_
                clear hK K
                try simp only [Act.put, List.getElem_toArray, List.getElem_cons_zero, List.getElem_cons_succ, List.setIfInBounds_toArray, List.set_cons_zero, List.set_cons_succ]
                clear g8 at8
                refine wpAnyU_alone (i := 16) (by kernel_rfl) rfl (fun K hK => ?_)
                go_simp
                refine hK.out _ _ (fun h => (Bool.false_ne_true (h.symm.trans (by kernel_rfl))).elim) ?_
                clear hK K
                try simp only [Act.put, List.getElem_toArray, List.getElem_cons_zero, List.getElem_cons_succ, List.setIfInBounds_toArray, List.set_cons_zero, List.set_cons_succ]
                refine wpAnyU_alone (i := 17) (by kernel_rfl) rfl (fun K hK => ?_)
                go_simp
                refine hK.out _ _ (fun h => (Bool.false_ne_true (h.symm.trans (by kernel_rfl))).elim) ?_
                clear hK K
                try simp only [Act.put, List.getElem_toArray, List.getElem_cons_zero, List.getElem_cons_succ, List.setIfInBounds_toArray, List.set_cons_zero, List.set_cons_succ]
                refine wpAnyU_done (by kernel_rfl) ?_ _
                refine NoPanic.normal ?_
                obtain ⟨r2, cb, cz, cr, ck, chz⟩ := ref_app_w0 HMd1.out roy hly by_ bzy k8 own8 hb8 kwy (Nat.le_refl _)
                generalize w8.setCell ⟨w.heap.size, 4, none⟩ (.slice A8 (M1.w0.length + 1) c8) = w9 at cb cz cr ck chz ⊢
                go_wp2_with fail
                go_roundw
                case rel => exact RSRel.next hlt HSN.out (by rw [HM1.out]; simp [LS.put, LS.put1, HMd.out]) HCN.out HMc.out HMt.out hcj cb cz cr ck chz
                case measure => simp [intOf]; omega
            · go_simp
              have kC := ((Kept.refl NoF wy).alloc (.cells #[.int .u8 (b.toNat : Int)] 5)).drew
              have rdC := (Kept.refl NoF _).drew.src (mkB wy b) (fun _ _ _ h => h)
              have hcl : wy.heap.size < (wy.alloc (.cells #[.int .u8 (b.toNat : Int)] 5)).drew.heap.size := (Blk.new wy 5 #[.int .u8 (b.toNat : Int)]).drew.lt
              refine hK.out _ _ (fun _ => SY.out _ kC) ?_
              clear hK K
              try simp only [Act.put, List.getElem_toArray, List.getElem_cons_zero, List.getElem_cons_succ, List.setIfInBounds_toArray, List.set_cons_zero, List.set_cons_succ]
              generalize (wy.alloc (.cells #[.int .u8 (b.toNat : Int)] 5)).drew = wE at kC rdC hcl ⊢
              refine wpAnyU_alone (i := 2) (by kernel_rfl) rfl (fun K hK => ?_)
              go_simp
              have kB := kC.alloc (.cells #[] 5)
              have ownB := mkE wE
              have hbE := hb_new (wy := wy) kC.size
              have rdB := ((Kept.refl NoF wE).alloc (.cells #[] 5)).src rdC (fun _ _ _ h => h)
              have hne : ∀ g, (Value.slice (some ⟨wE.heap.size, 0, none⟩) 0 0).ownBlock = some g → (⟨wy.heap.size, 0, none⟩ : Addr).block ≠ g := fun g hg => by
                simp only [Value.ownBlock] at hg
                injection hg with hg
                exact Nat.ne_of_lt (hg ▸ hcl)
              refine hK.out _ _ (fun _ => SY.out _ kB) ?_
              clear hK K
              try simp only [Act.put, List.getElem_toArray, List.getElem_cons_zero, List.getElem_cons_succ, List.setIfInBounds_toArray, List.set_cons_zero, List.set_cons_succ]
              generalize wE.alloc (.cells #[] 5) = wB at kB ownB rdB ⊢
              refine wpAnyU_alone (i := 8) (by kernel_rfl) rfl (fun K hK => ?_)
              refine step_append_any _ rfl (.tmp 62) (.tmp 67) 22 rfl 0 5 i0 (.int .u8 0) 1 1 Try.underlying22 hi0 hz0 hz1 hz2 rfl (by omega) (.slice (some ⟨wE.heap.size, 0, none⟩) 0 0) 0 [] rfl ownB _ r1.A2 M1.w0.length r1.c2 (bvs M1.w0) rfl (kB.src roy.w0.1 (fun _ _ _ h => h)) (bvs_one _) (by unfold maxLen; omega) (by omega) (Nat.zero_le _) ?_
              intro v6 w6 own6 g6 at6
              rw [Nat.zero_add, List.nil_append] at own6
              obtain ⟨A6, c6, rfl, _⟩ := own_form own6
              have k6 : Kept NoF wy w6 := kB.grown g6 (fun g hg => .inr (hbE g hg))
              have hb6 := hb_next hbE kB.size at6
              have rd6 := rd_next rdB g6 hne
              refine hK.out _ _ (fun _ => SY.out _ k6) ?_
              clear hK K
              try simp only [Act.put, List.getElem_toArray, List.getElem_cons_zero, List.getElem_cons_succ, List.setIfInBounds_toArray, List.set_cons_zero, List.set_cons_succ]
              clear g6 at6
              refine wpAnyU_alone (i := 14) (by kernel_rfl) rfl (fun K hK => ?_)
              refine step_append_any _ rfl (.tmp 68) (.tmp 73) 22 rfl 0 5 i0 (.int .u8 0) 1 1 Try.underlying22 hi0 hz0 hz1 hz2 rfl (by omega) (.slice A6 (M1.w0.length) c6) (M1.w0.length) (bvs M1.w0) rfl own6 _ _ 1 1 (bvs [b]) rfl rd6 (bvs_one _) (by unfold maxLen; omega) (by omega) (Nat.zero_le _) ?_
              intro v8 w8 own8 g8 at8
              obtain ⟨A8, c8, rfl, _⟩ := own_form own8
              have k8 : Kept NoF wy w8 := k6.grown g8 (fun g hg => .inr (hb6 g hg))
              have hb8 := hb_next hb6 k6.size at8
              have qc : w8.cell? ⟨w.heap.size, 4, none⟩ = some (.slice r1.A2 M1.w0.length r1.c2) := (SY.out _ k8).2.1
              have zc : w8.frozen? ⟨w.heap.size, 4, none⟩ = false := (k8.blk by_ (fun h => h)).frozen 4
              refine hK.out _ _ (fun _ => SY.out _ k8) ?_
              clear hK K
              try simp only [Act.put, List.getElem_toArray, List.getElem_cons_zero, List.getElem_cons_succ, List.setIfInBounds_toArray, List.set_cons_zero, List.set_cons_succ]
              clear g8 at8
              refine wpAnyU_alone (i := 16) (by kernel_rfl) rfl (fun K hK => ?_)
              go_simp
              refine hK.out _ _ (fun h => (Bool.false_ne_true (h.symm.trans (by kernel_rfl))).elim) ?_
              clear hK K
              try simp only [Act.put, List.getElem_toArray, List.getElem_cons_zero, List.getElem_cons_succ, List.setIfInBounds_toArray, List.set_cons_zero, List.set_cons_succ]
              refine wpAnyU_alone (i := 17) (by kernel_rfl) rfl (fun K hK => ?_)
              go_simp
              refine hK.out _ _ (fun h => (Bool.false_ne_true (h.symm.trans (by kernel_rfl))).elim) ?_
              clear hK K
              try simp only [Act.put, List.getElem_toArray, List.getElem_cons_zero, List.getElem_cons_succ, List.setIfInBounds_toArray, List.set_cons_zero, List.set_cons_succ]
              refine wpAnyU_done (by kernel_rfl) ?_ _
              refine NoPanic.normal ?_
              obtain ⟨r2, cb, cz, cr, ck, chz⟩ := ref_app_w0 HMd1.out roy hly by_ bzy k8 own8 hb8 kwy (Nat.le_refl _)
              generalize w8.setCell ⟨w.heap.size, 4, none⟩ (.slice A8 (M1.w0.length + 1) c8) = w9 at cb cz cr ck chz ⊢
              go_wp2_with fail
              go_roundw
              case rel => exact RSRel.next hlt HSN.out (by rw [HM1.out]; simp [LS.put, LS.put1, HMd.out]) HCN.out HMc.out HMt.out hcj cb cz cr ck chz
              case measure => simp [intOf]; omega
    · obtain rfl : j = xs.length := by omega
      have hte : xs.take xs.length = xs := List.take_length
      rw [hte] at bx ro hMb hMc hMd hMt hMok
      have hfin : L.send 1 xs = (L.put 1 xs false, (xs.length : Int), 0) := send_all_eq (.inr rfl) HD.out (by unfold LS.total; omega) (fun h => by have := hcj h.1; omega)
      have HFIN := Lib.hid hfin
      clear hfin
      generalize hM : L.put 1 xs false = M at hMok hMb hMc hMd hMt bx ro HFIN
      have bx' : Blk wr w.heap.size 46 #[.int .i64 M.budget, .int .i64 M.cut, .slice r'.A0 M.s0.length r'.c0, .slice r'.A1 M.s1.length r'.c1, .slice r'.A2 M.w0.length r'.c2, .slice r'.A3 M.w1.length r'.c3, .bool false] := by rw [RV.cells, hMd] at bx; exact bx
      have hcm : r'.cells M = #[.int .i64 M.budget, .int .i64 M.cut, .slice r'.A0 M.s0.length r'.c0, .slice r'.A1 M.s1.length r'.c1, .slice r'.A2 M.w0.length r'.c2, .slice r'.A3 M.w1.length r'.c3, .bool false] := by rw [RV.cells, hMd]
      have HCM := Lib.hid hcm
      have q0 : wr.cell? ⟨w.heap.size, 0, none⟩ = some (.int .i64 M.budget) := (bx'.cell 0).trans rfl
      have q1 : wr.cell? ⟨w.heap.size, 1, none⟩ = some (.int .i64 M.cut) := (bx'.cell 1).trans rfl
      have q2 : wr.cell? ⟨w.heap.size, 2, none⟩ = some (.slice r'.A0 M.s0.length r'.c0) := (bx'.cell 2).trans rfl
      have q3 : wr.cell? ⟨w.heap.size, 3, none⟩ = some (.slice r'.A1 M.s1.length r'.c1) := (bx'.cell 3).trans rfl
      have q4 : wr.cell? ⟨w.heap.size, 4, none⟩ = some (.slice r'.A2 M.w0.length r'.c2) := (bx'.cell 4).trans rfl
      have q5 : wr.cell? ⟨w.heap.size, 5, none⟩ = some (.slice r'.A3 M.w1.length r'.c3) := (bx'.cell 5).trans rfl
      have q6 : wr.cell? ⟨w.heap.size, 6, none⟩ = some (.bool false) := (bx'.cell 6).trans rfl
      have y0 : wr.cell? ⟨w.heap.size + 1, 0, none⟩ = some (.int .i64 0) := (bz.cell 0).trans rfl
      have y1 : wr.cell? ⟨w.heap.size + 1, 1, none⟩ = some (.int .i64 0) := (bz.cell 1).trans rfl
      have y2 : wr.cell? ⟨w.heap.size + 1, 2, none⟩ = some (.slice none 0 0) := (bz.cell 2).trans rfl
      have y3 : wr.cell? ⟨w.heap.size + 1, 3, none⟩ = some (.slice none 0 0) := (bz.cell 3).trans rfl
      have y4 : wr.cell? ⟨w.heap.size + 1, 4, none⟩ = some (.slice none 0 0) := (bz.cell 4).trans rfl
      have y5 : wr.cell? ⟨w.heap.size + 1, 5, none⟩ = some (.slice none 0 0) := (bz.cell 5).trans rfl
      have y6 : wr.cell? ⟨w.heap.size + 1, 6, none⟩ = some (.bool false) := (bz.cell 6).trans rfl
      have z : ∀ i, wr.frozen? ⟨w.heap.size + 1, i, none⟩ = false := fun i => bz.frozen i
      clear bx bx' hM hMb hMc hMd hMt hMok hcm hte
      go_wp2_with fail
      refine bodyPost_ret (v := .tuple #[.agg #[.int .i64 M.budget, .int .i64 M.cut, .slice r'.A0 M.s0.length r'.c0, .slice r'.A1 M.s1.length r'.c1, .slice r'.A2 M.w0.length r'.c2, .slice r'.A3 M.w1.length r'.c3, .bool false], .int .i64 (xs.length : Int), .int .i64 0]) (by simp [results, Try.results21, go_sem, y0, y1, y2, y3, y4, y5, y6]) rfl ?_
      rw [HFIN.out]
      exact ⟨r', by rw [HCM.out], ro.fin kr (Kept.seven _ _ _ _ _ _ _ _ _) rfl rfl rfl rfl⟩

end Go.Proofs.Ytchchgdkejolaaa
