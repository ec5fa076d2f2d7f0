/- The walk of LinkRuns (printed by genG.py). -/
import Derived.Test.YtchchgdkejolaaaSame
import Derived.Test.YtchchgdkejolaaaSpoilC
namespace Go.Proofs.Ytchchgdkejolaaa
open Go.RowKit

theorem Src.anti {w : World} {F G : Nat → Prop} {A : Option Addr} {xs : List UInt8} (h : Src w F A xs) (hG : ∀ x, G x → F x) : Src w G A xs := ⟨h.1, fun ad e hp hg => h.2 ad e hp (hG _ hg)⟩
theorem RefOk.anti {w : World} {F G : Nat → Prop} {L : LS} {r : RV} (h : RefOk w F L r) (hG : ∀ x, G x → F x) : RefOk w G L r :=
  ⟨h.s0.anti hG, h.s1.anti hG, h.w0.anti hG, h.w1.anti hG, h.b2, h.b3⟩

def OrAt (F : Nat → Prop) (m : Nat) : Nat → Prop := fun k => F k ∨ k = m

def RunsRel (w : World) (m n : Nat) (i : Value) (wr : World) : Prop :=
  ∃ (j : Nat) (F : Nat → Prop) (L : LS) (r : RV), j ≤ n ∧ i = .int .i64 (j : Int) ∧ LinkAt wr F w.heap.size L ∧ Blk wr m 46 (r.cells L) ∧ RefOk wr (OrAt F m) L r ∧ (∀ k, F k → w.heap.size ≤ k) ∧ ¬ F m ∧ Below w.heap.size w wr

set_option maxHeartbeats 4000000 in
set_option maxRecDepth 100000 in
theorem runs_many (b c : Int) (A : Option Addr) (cap : Nat) (ops : List OpD) (w : World) (h0 : 0 ≤ b) (h1 : b ≤ 1073741824) (l0 : -9223372036854775808 ≤ c) (l1 : c ≤ 9223372036854775807)
    (hops : OpsAt w A ops) (hf : fewB ops = false) :
    Calls Try.prog 9 #[.int .i64 b, .int .i64 c, .slice A ops.length cap] w fun e w' => e = .returned (.bool true) ∧ Below w.heap.size w w' := by
  have HF := Lib.hid hf
  clear hf
  have hlen := hops.1
  go_enter Try.func9, Try.ntmps9
  go_wp2_with fail
  refine (new_any b c _ h0 h1 l0 l1).mono ?_
  rintro e w1 ⟨rfl, a1, k1, s1⟩
  have S1 := Lib.hid s1
  clear s1
  go_wp2_with fail
  refine (rnew_yes b c _ h0 h1).mono ?_
  rintro e w2 ⟨rfl, k2⟩
  unfold RV.cells
  go_wp2_with fail
  refine (awake_any _).mono ?_
  rintro e w3 ⟨rfl, k3⟩
  have k2a := (Kept.refl NoF w2).alloc (.cells (RV.none_.cells (LS.fresh b c)) 46)
  have k13 := ((k1.trans k2 (fun _ h => .inl h)).trans k2a (fun _ h => .inl h)).trans (Kept.of_below (F := NoF) k3) (fun _ h => .inl h)
  have b3 : Below w.heap.size w w3 := nof_below k13
  clear S1
  have C := few_any A cap ops w3 (hops.below b3)
  rw [HF.out] at C
  have H := Lib.hid C
  clear C
  clear k13
  go_wp2_with fail
  refine H.out.mono ?_
  rintro e w4 ⟨rfl, rfl⟩
  go_wp2_with fail
  refine (awake_any _).mono ?_
  rintro e w5 ⟨rfl, k5⟩
  go_wp2_with fail
  go_ret
  exact ⟨rfl, b3.trans (k5.mono b3.size)⟩

set_option maxHeartbeats 4000000 in
set_option maxRecDepth 100000 in
theorem runs_few (b c : Int) (A : Option Addr) (cap : Nat) (ops : List OpD) (w : World) (h0 : 0 ≤ b) (h1 : b ≤ 1073741824) (l0 : -9223372036854775808 ≤ c) (l1 : c ≤ 9223372036854775807)
    (hops : OpsAt w A ops) (hf : fewB ops = true) :
    Calls Try.prog 9 #[.int .i64 b, .int .i64 c, .slice A ops.length cap] w fun e w' => e = .returned (.bool true) ∧ Below w.heap.size w w' := by
  have HF := Lib.hid hf
  clear hf
  have hlen := hops.1
  go_enter Try.func9, Try.ntmps9
  go_wp2_with fail
  refine (new_any b c _ h0 h1 l0 l1).mono ?_
  rintro e w1 ⟨rfl, a1, k1, s1⟩
  have S1 := Lib.hid s1
  clear s1
  go_wp2_with fail
  refine (rnew_yes b c _ h0 h1).mono ?_
  rintro e w2 ⟨rfl, k2⟩
  unfold RV.cells
  go_wp2_with fail
  refine (awake_any _).mono ?_
  rintro e w3 ⟨rfl, k3⟩
  have k2a := (Kept.refl NoF w2).alloc (.cells (RV.none_.cells (LS.fresh b c)) 46)
  have k13 := ((k1.trans k2 (fun _ h => .inl h)).trans k2a (fun _ h => .inl h)).trans (Kept.of_below (F := NoF) k3) (fun _ h => .inl h)
  have b3 : Below w.heap.size w w3 := nof_below k13
  have bm := (Kept.of_below (F := NoF) k3).blk (Blk.new w2 46 (RV.none_.cells (LS.fresh b c))) (fun h => h)
  have a3 := ((a1.kept k2 (fun _ _ h => h)).kept k2a (fun _ _ h => h)).kept (Kept.of_below (F := NoF) k3) (fun _ _ h => h)
  have hm1 : w.heap.size < w2.heap.size := by have := S1.out; have := k2.size; omega
  clear S1 k3 k2a k13
  have C := few_any A cap ops w3 (hops.below b3)
  rw [HF.out] at C
  have H := Lib.hid C
  clear C
  go_wp2_with fail
  refine H.out.mono ?_
  rintro e w4 ⟨rfl, rfl⟩
  clear H
  go_wp2_with fail
  generalize w2.heap.size = m at hm1 bm ⊢
  clear a1 k1 k2 w2
  go_loopw [11] (RunsRel w m ops.length) (fun i _ => ops.length - (intOf i).toNat)
  case atStart =>
    exact ⟨0, _, _, RV.none_, Nat.zero_le _, rfl, a3, bm, ⟨Src.nil_ _ _, Src.nil_ _ _, Src.nil_ _ _, Src.nil_ _ _, Nat.le_refl _, Nat.le_refl _⟩, fun k hk => by unfold NewF at hk; omega, fun hk => by unfold NewF at hk; omega, b3⟩
  case round =>
    clear bm a3 b3
    obtain ⟨j, F, L, r, hj, rfl, l, bm, ro, hF, hFm, bw⟩ := hrel
    by_cases hlt : j < ops.length
    · obtain ⟨b', off, X, cx, rfl, hbl, c0, c1, c2, c3, c4, hcx, _, hr, _⟩ := hops.at_ hlt
      have k0 : wr.cell? ⟨b', off + j * 5, none⟩ = some (.int .i64 ops[j].kind) := (bw.cell hbl).trans c0
      have k1 : wr.cell? ⟨b', off + j * 5 + 1, none⟩ = some (.int .i64 ops[j].side) := (bw.cell hbl).trans c1
      have k2 : wr.cell? ⟨b', off + j * 5 + 2, none⟩ = some (.slice X ops[j].xs.length cx) := (bw.cell hbl).trans c2
      have k3 : wr.cell? ⟨b', off + j * 5 + 3, none⟩ = some (.int .i64 ops[j].n) := (bw.cell hbl).trans c3
      have k4 : wr.cell? ⟨b', off + j * 5 + 4, none⟩ = some (.int .u8 (ops[j].mask.toNat : Int)) := (bw.cell hbl).trans c4
      clear c0 c1 c2 c3 c4
      generalize ops[j].side = sd at k1
      generalize ops[j].kind = kd at k0
      generalize ops[j].n = n at k3
      generalize ops[j].mask = mk at k4
      generalize ops[j].xs = xs at k2 hcx hr
      go_upto_region 11 with fail
      have bx := Blk.new wr 37 #[.int .i64 kd, .int .i64 sd, .slice X xs.length cx, .int .i64 n, .int .u8 (mk.toNat : Int)]
      have kx := (Kept.refl NoF wr).alloc (.cells #[.int .i64 kd, .int .i64 sd, .slice X xs.length cx, .int .i64 n, .int .u8 (mk.toNat : Int)] 37)
      clear k0 k1 k2 k3 k4
      generalize wr.alloc (.cells #[.int .i64 kd, .int .i64 sd, .slice X xs.length cx, .int .i64 n, .int .u8 (mk.toNat : Int)] 37) = wx at bx kx ⊢
      have lx := l.kept kx (fun _ _ h => h)
      have bmx := kx.blk bm (fun h => h)
      have rox := ro.keptN kx
      have bwx : Below w.heap.size w wx := bw.trans (kx.below bw.size (fun _ h => h.elim))
      have hsrc : ∀ ad, X = some ad → 0 < xs.length → ¬ F ad.block := by
        intro ad e hp hf
        obtain ⟨ad', e', hlt', _⟩ := hr.2 hp
        rw [e] at e'
        injection e' with e'
        subst e'
        have := hF _ hf
        omega
      have hrx := (hr.below bwx).more bwx.size
      have hFO : ∀ k, OrAt F m k → k < wx.heap.size := fun k hk => by
        rcases hk with hk | hk
        · exact lx.lt k hk
        · have := bmx.lt; omega
      have hxF : ¬ F wr.heap.size := fun h => by have := l.lt _ h; omega
      have hmx : m < wx.heap.size := bmx.lt
      have hxm : wr.heap.size ≠ m := by have := bm.lt; omega
      clear bm l ro bw kx
      have q0 : wx.cell? ⟨m, 0, none⟩ = some (.int .i64 L.budget) := (bmx.cell 0).trans rfl
      have q1 : wx.cell? ⟨m, 1, none⟩ = some (.int .i64 L.cut) := (bmx.cell 1).trans rfl
      have q2 : wx.cell? ⟨m, 2, none⟩ = some (.slice r.A0 L.s0.length r.c0) := (bmx.cell 2).trans rfl
      have q3 : wx.cell? ⟨m, 3, none⟩ = some (.slice r.A1 L.s1.length r.c1) := (bmx.cell 3).trans rfl
      have q4 : wx.cell? ⟨m, 4, none⟩ = some (.slice r.A2 L.w0.length r.c2) := (bmx.cell 4).trans rfl
      have q5 : wx.cell? ⟨m, 5, none⟩ = some (.slice r.A3 L.w1.length r.c3) := (bmx.cell 5).trans rfl
      have q6 : wx.cell? ⟨m, 6, none⟩ = some (.bool L.down) := (bmx.cell 6).trans rfl
      by_cases h1 : kd = 1
      · subst h1
        have x0 : wx.cell? ⟨wr.heap.size, 0, none⟩ = some (.int .i64 1) := (bx.cell 0).trans rfl
        have x1 : wx.cell? ⟨wr.heap.size, 1, none⟩ = some (.int .i64 sd) := (bx.cell 1).trans rfl
        have x2 : wx.cell? ⟨wr.heap.size, 2, none⟩ = some (.slice X xs.length cx) := (bx.cell 2).trans rfl
        have CS := rsend_any lx.isok rox hFO sd X cx _ xs rfl hrx
        generalize hS : L.send sd xs = S at CS
        obtain ⟨L', n', g'⟩ := S
        unfold RV.cells at CS
        have HS := Lib.hid CS
        have HE := Lib.hid hS
        clear CS hS
        go_wp2_with fail
        refine HS.out.mono ?_
        rintro e w5 ⟨r', rfl, ro5, k5⟩
        clear HS
        clear q0 q1 q2 q3 q4 q5 q6
        clear x0 x1 x2
        dsimp only at ro5
        unfold RV.cells
        go_upto_region 16 with fail
        have b6n := Blk.new w5 46 #[.int .i64 L'.budget, .int .i64 L'.cut, .slice r'.A0 L'.s0.length r'.c0, .slice r'.A1 L'.s1.length r'.c1, .slice r'.A2 L'.w0.length r'.c2, .slice r'.A3 L'.w1.length r'.c3, .bool L'.down]
        have k56 := (Kept.refl NoF w5).alloc (.cells #[.int .i64 L'.budget, .int .i64 L'.cut, .slice r'.A0 L'.s0.length r'.c0, .slice r'.A1 L'.s1.length r'.c1, .slice r'.A2 L'.w0.length r'.c2, .slice r'.A3 L'.w1.length r'.c3, .bool L'.down] 46)
        have hn5 : wx.heap.size ≤ w5.heap.size := k5.size
        generalize w5.alloc (.cells #[.int .i64 L'.budget, .int .i64 L'.cut, .slice r'.A0 L'.s0.length r'.c0, .slice r'.A1 L'.s1.length r'.c1, .slice r'.A2 L'.w0.length r'.c2, .slice r'.A3 L'.w1.length r'.c3, .bool L'.down] 46) = w6 at b6n k56 ⊢
        have k6 := k5.trans k56 (fun _ h => .inl h)
        have l6 := lx.kept k6 (fun _ _ h => h)
        have b6m := k6.blk bmx (fun h => h)
        have b6x := k6.blk bx (fun h => h)
        have ro6 := ro5.keptN k56
        have bw6 : Below w.heap.size w w6 := bwx.trans (k6.below bwx.size (fun _ h => h.elim))
        have hr6 := (hr.below bw6).more bw6.size
        have hnF : ¬ F w5.heap.size := fun h => by have := lx.lt _ h; omega
        have hm6 : m < w6.heap.size := b6m.lt
        have x1 : w6.cell? ⟨wr.heap.size, 1, none⟩ = some (.int .i64 sd) := (b6x.cell 1).trans rfl
        have x2 : w6.cell? ⟨wr.heap.size, 2, none⟩ = some (.slice X xs.length cx) := (b6x.cell 2).trans rfl
        have CS := send_any l6 sd X cx _ xs rfl hr6 hsrc hcx
        rw [HE.out] at CS
        have HS := Lib.hid CS
        clear CS HE
        go_wp2_with fail
        refine HS.out.mono ?_
        clear HS x1 x2
        rintro e w7 ⟨rfl, l7, k7⟩
        dsimp only at l7
        have hF7m : ¬ More F w6 w7 m := fun h => by rcases h with h | h; exact hFm h; omega
        have hF7 := more_ge (w' := w7) hF bw6.size
        have ro7 : RefOk w7 (OrAt (More F w6 w7) m) L' r' := (ro6.more (k7.mono (fun _ h => Or.inl h))).anti (fun x hx => by
          rcases hx with (hx | hx) | hx
          · exact .inl (.inl hx)
          · exact .inr hx
          · exact .inl (.inr hx))
        generalize More F w6 w7 = F7 at l7 hF7m hF7 ro7
        have bw7 : Below w.heap.size w w7 := bw6.trans (k7.below bw6.size hF)
        have b7n := k7.blk b6n hnF
        have b7m := k7.blk b6m hFm
        have y0 : w7.cell? ⟨w5.heap.size, 0, none⟩ = some (.int .i64 L'.budget) := (b7n.cell 0).trans rfl
        have y1 : w7.cell? ⟨w5.heap.size, 1, none⟩ = some (.int .i64 L'.cut) := (b7n.cell 1).trans rfl
        have y2 : w7.cell? ⟨w5.heap.size, 2, none⟩ = some (.slice r'.A0 L'.s0.length r'.c0) := (b7n.cell 2).trans rfl
        have y3 : w7.cell? ⟨w5.heap.size, 3, none⟩ = some (.slice r'.A1 L'.s1.length r'.c1) := (b7n.cell 3).trans rfl
        have y4 : w7.cell? ⟨w5.heap.size, 4, none⟩ = some (.slice r'.A2 L'.w0.length r'.c2) := (b7n.cell 4).trans rfl
        have y5 : w7.cell? ⟨w5.heap.size, 5, none⟩ = some (.slice r'.A3 L'.w1.length r'.c3) := (b7n.cell 5).trans rfl
        have y6 : w7.cell? ⟨w5.heap.size, 6, none⟩ = some (.bool L'.down) := (b7n.cell 6).trans rfl
        have q0 : w7.cell? ⟨m, 0, none⟩ = some (.int .i64 L.budget) := (b7m.cell 0).trans rfl
        have qf0 : w7.frozen? ⟨m, 0, none⟩ = false := b7m.frozen 0
        have q1 : w7.cell? ⟨m, 1, none⟩ = some (.int .i64 L.cut) := (b7m.cell 1).trans rfl
        have qf1 : w7.frozen? ⟨m, 1, none⟩ = false := b7m.frozen 1
        have q2 : w7.cell? ⟨m, 2, none⟩ = some (.slice r.A0 L.s0.length r.c0) := (b7m.cell 2).trans rfl
        have qf2 : w7.frozen? ⟨m, 2, none⟩ = false := b7m.frozen 2
        have q3 : w7.cell? ⟨m, 3, none⟩ = some (.slice r.A1 L.s1.length r.c1) := (b7m.cell 3).trans rfl
        have qf3 : w7.frozen? ⟨m, 3, none⟩ = false := b7m.frozen 3
        have q4 : w7.cell? ⟨m, 4, none⟩ = some (.slice r.A2 L.w0.length r.c2) := (b7m.cell 4).trans rfl
        have qf4 : w7.frozen? ⟨m, 4, none⟩ = false := b7m.frozen 4
        have q5 : w7.cell? ⟨m, 5, none⟩ = some (.slice r.A3 L.w1.length r.c3) := (b7m.cell 5).trans rfl
        have qf5 : w7.frozen? ⟨m, 5, none⟩ = false := b7m.frozen 5
        have q6 : w7.cell? ⟨m, 6, none⟩ = some (.bool L.down) := (b7m.cell 6).trans rfl
        have qf6 : w7.frozen? ⟨m, 6, none⟩ = false := b7m.frozen 6
        go_upto_region 31 with fail
        have b8 := (((((((b7m.set_ 0 (.int .i64 L'.budget)).set_ 1 (.int .i64 L'.cut)).set_ 2 (.slice r'.A0 L'.s0.length r'.c0)).set_ 3 (.slice r'.A1 L'.s1.length r'.c1)).set_ 4 (.slice r'.A2 L'.w0.length r'.c2)).set_ 5 (.slice r'.A3 L'.w1.length r'.c3)).set_ 6 (.bool L'.down))
        have b8m : Blk _ m 46 (RV.cells r' L') := b8
        clear b8
        have k8 := (((((((Kept.refl (fun k => k = m) w7).setCell (p := ⟨m, 0, none⟩) (.inl rfl) (.int .i64 L'.budget)).setCell (p := ⟨m, 1, none⟩) (.inl rfl) (.int .i64 L'.cut)).setCell (p := ⟨m, 2, none⟩) (.inl rfl) (.slice r'.A0 L'.s0.length r'.c0)).setCell (p := ⟨m, 3, none⟩) (.inl rfl) (.slice r'.A1 L'.s1.length r'.c1)).setCell (p := ⟨m, 4, none⟩) (.inl rfl) (.slice r'.A2 L'.w0.length r'.c2)).setCell (p := ⟨m, 5, none⟩) (.inl rfl) (.slice r'.A3 L'.w1.length r'.c3)).setCell (p := ⟨m, 6, none⟩) (.inl rfl) (.bool L'.down)
        clear y0 y1 y2 y3 y4 y5 y6
        clear q0 qf0 q1 qf1 q2 qf2 q3 qf3 q4 qf4 q5 qf5 q6 qf6
        generalize (((((((w7.setCell ⟨m, 0, none⟩ (.int .i64 L'.budget)).setCell ⟨m, 1, none⟩ (.int .i64 L'.cut)).setCell ⟨m, 2, none⟩ (.slice r'.A0 L'.s0.length r'.c0)).setCell ⟨m, 3, none⟩ (.slice r'.A1 L'.s1.length r'.c1)).setCell ⟨m, 4, none⟩ (.slice r'.A2 L'.w0.length r'.c2)).setCell ⟨m, 5, none⟩ (.slice r'.A3 L'.w1.length r'.c3)).setCell ⟨m, 6, none⟩ (.bool L'.down)) = w8 at b8m k8 ⊢
        have l8 := l7.kept k8 (fun x hx hxm => hF7m (hxm ▸ hx))
        have ro8 := ro7.kept k8 (fun x hx => .inr hx)
        have bw8 : Below w.heap.size w w8 := bw7.trans (k8.below bw7.size (fun x hx => by have : x = m := hx; omega))
        have z0 : w8.cell? ⟨m, 0, none⟩ = some (.int .i64 L'.budget) := (b8m.cell 0).trans rfl
        have z1 : w8.cell? ⟨m, 1, none⟩ = some (.int .i64 L'.cut) := (b8m.cell 1).trans rfl
        have z2 : w8.cell? ⟨m, 2, none⟩ = some (.slice r'.A0 L'.s0.length r'.c0) := (b8m.cell 2).trans rfl
        have z3 : w8.cell? ⟨m, 3, none⟩ = some (.slice r'.A1 L'.s1.length r'.c1) := (b8m.cell 3).trans rfl
        have z4 : w8.cell? ⟨m, 4, none⟩ = some (.slice r'.A2 L'.w0.length r'.c2) := (b8m.cell 4).trans rfl
        have z5 : w8.cell? ⟨m, 5, none⟩ = some (.slice r'.A3 L'.w1.length r'.c3) := (b8m.cell 5).trans rfl
        have z6 : w8.cell? ⟨m, 6, none⟩ = some (.bool L'.down) := (b8m.cell 6).trans rfl
        have CS := same_any l8 (ro8.anti (fun _ h => Or.inl h))
        unfold RV.cells at CS
        have HS := Lib.hid CS
        clear CS
        go_wp2_with fail
        refine HS.out.mono ?_
        rintro e w9 ⟨rfl, k9⟩
        clear HS
        clear z0 z1 z2 z3 z4 z5 z6
        go_wp2_with fail
        go_roundw
        case rel => exact ⟨j + 1, F7, L', r', by omega, by go_num, l8.kept k9 (fun _ _ h => h), k9.blk b8m (fun h => h), ro8.keptN k9, hF7, hF7m, bw8.trans (k9.below bw8.size (fun _ h => h.elim))⟩
        case measure => simp [intOf]; omega
      · have g1 : (kd == 1) = false := by simpa using h1
        by_cases h2 : kd = 2
        · subst h2
          have x0 : wx.cell? ⟨wr.heap.size, 0, none⟩ = some (.int .i64 2) := (bx.cell 0).trans rfl
          have x1 : wx.cell? ⟨wr.heap.size, 1, none⟩ = some (.int .i64 sd) := (bx.cell 1).trans rfl
          have CS := rrecv_any rox sd
          unfold RV.cells at CS
          have HS := Lib.hid CS
          clear CS
          go_wp2_with fail
          refine HS.out.mono ?_
          rintro e w5 ⟨r', A2, ca2, rfl, sr5, ro5, k5⟩
          clear HS
          clear q0 q1 q2 q3 q4 q5 q6
          clear x0 x1
          generalize hL' : L.drop sd = L' at ro5 ⊢
          have HL := Lib.hid hL'
          clear hL'
          generalize hW' : L.wait sd = W' at sr5 ⊢
          have HW := Lib.hid hW'
          clear hW'
          unfold RV.cells
          go_upto_region 22 with fail
          have b6n := Blk.new w5 46 #[.int .i64 L'.budget, .int .i64 L'.cut, .slice r'.A0 L'.s0.length r'.c0, .slice r'.A1 L'.s1.length r'.c1, .slice r'.A2 L'.w0.length r'.c2, .slice r'.A3 L'.w1.length r'.c3, .bool L'.down]
          have k56 := (Kept.refl NoF w5).alloc (.cells #[.int .i64 L'.budget, .int .i64 L'.cut, .slice r'.A0 L'.s0.length r'.c0, .slice r'.A1 L'.s1.length r'.c1, .slice r'.A2 L'.w0.length r'.c2, .slice r'.A3 L'.w1.length r'.c3, .bool L'.down] 46)
          have hn5 : wx.heap.size ≤ w5.heap.size := k5.size
          generalize w5.alloc (.cells #[.int .i64 L'.budget, .int .i64 L'.cut, .slice r'.A0 L'.s0.length r'.c0, .slice r'.A1 L'.s1.length r'.c1, .slice r'.A2 L'.w0.length r'.c2, .slice r'.A3 L'.w1.length r'.c3, .bool L'.down] 46) = w6 at b6n k56 ⊢
          have k6 := k5.trans k56 (fun _ h => .inl h)
          have l6 := lx.kept k6 (fun _ _ h => h)
          have b6m := k6.blk bmx (fun h => h)
          have b6x := k6.blk bx (fun h => h)
          have ro6 := ro5.keptN k56
          have bw6 : Below w.heap.size w w6 := bwx.trans (k6.below bwx.size (fun _ h => h.elim))
          have hr6 := (hr.below bw6).more bw6.size
          have hnF : ¬ F w5.heap.size := fun h => by have := lx.lt _ h; omega
          have hm6 : m < w6.heap.size := b6m.lt
          have sr6 := sr5.kept k56 (fun _ h => h.elim)
          have x1 : w6.cell? ⟨wr.heap.size, 1, none⟩ = some (.int .i64 sd) := (b6x.cell 1).trans rfl
          have CS := lrecv_any l6 sd
          unfold LRecvPost at CS
          rw [HL.out, HW.out] at CS
          have HS := Lib.hid CS
          clear CS HL HW
          go_wp2_with fail
          refine HS.out.mono ?_
          clear HS x1
          rintro e w7 ⟨A3, ca3, rfl, rd7, l7, k7⟩
          have hF7m := hFm
          have ro7 := ro6.kept k7 (fun _ h => Or.inl h)
          have cv1 := conv_reads (c := ca3) rd7
          have cv2 := conv_reads (c := ca2) (sr6.kept k7 (fun _ h => Or.inl h)).1
          have bw7 : Below w.heap.size w w7 := bw6.trans (k7.below bw6.size hF)
          have b7n := k7.blk b6n hnF
          have b7m := k7.blk b6m hFm
          have y0 : w7.cell? ⟨w5.heap.size, 0, none⟩ = some (.int .i64 L'.budget) := (b7n.cell 0).trans rfl
          have y1 : w7.cell? ⟨w5.heap.size, 1, none⟩ = some (.int .i64 L'.cut) := (b7n.cell 1).trans rfl
          have y2 : w7.cell? ⟨w5.heap.size, 2, none⟩ = some (.slice r'.A0 L'.s0.length r'.c0) := (b7n.cell 2).trans rfl
          have y3 : w7.cell? ⟨w5.heap.size, 3, none⟩ = some (.slice r'.A1 L'.s1.length r'.c1) := (b7n.cell 3).trans rfl
          have y4 : w7.cell? ⟨w5.heap.size, 4, none⟩ = some (.slice r'.A2 L'.w0.length r'.c2) := (b7n.cell 4).trans rfl
          have y5 : w7.cell? ⟨w5.heap.size, 5, none⟩ = some (.slice r'.A3 L'.w1.length r'.c3) := (b7n.cell 5).trans rfl
          have y6 : w7.cell? ⟨w5.heap.size, 6, none⟩ = some (.bool L'.down) := (b7n.cell 6).trans rfl
          have q0 : w7.cell? ⟨m, 0, none⟩ = some (.int .i64 L.budget) := (b7m.cell 0).trans rfl
          have qf0 : w7.frozen? ⟨m, 0, none⟩ = false := b7m.frozen 0
          have q1 : w7.cell? ⟨m, 1, none⟩ = some (.int .i64 L.cut) := (b7m.cell 1).trans rfl
          have qf1 : w7.frozen? ⟨m, 1, none⟩ = false := b7m.frozen 1
          have q2 : w7.cell? ⟨m, 2, none⟩ = some (.slice r.A0 L.s0.length r.c0) := (b7m.cell 2).trans rfl
          have qf2 : w7.frozen? ⟨m, 2, none⟩ = false := b7m.frozen 2
          have q3 : w7.cell? ⟨m, 3, none⟩ = some (.slice r.A1 L.s1.length r.c1) := (b7m.cell 3).trans rfl
          have qf3 : w7.frozen? ⟨m, 3, none⟩ = false := b7m.frozen 3
          have q4 : w7.cell? ⟨m, 4, none⟩ = some (.slice r.A2 L.w0.length r.c2) := (b7m.cell 4).trans rfl
          have qf4 : w7.frozen? ⟨m, 4, none⟩ = false := b7m.frozen 4
          have q5 : w7.cell? ⟨m, 5, none⟩ = some (.slice r.A3 L.w1.length r.c3) := (b7m.cell 5).trans rfl
          have qf5 : w7.frozen? ⟨m, 5, none⟩ = false := b7m.frozen 5
          have q6 : w7.cell? ⟨m, 6, none⟩ = some (.bool L.down) := (b7m.cell 6).trans rfl
          have qf6 : w7.frozen? ⟨m, 6, none⟩ = false := b7m.frozen 6
          go_upto_region 31 with fail
          have b8 := (((((((b7m.set_ 0 (.int .i64 L'.budget)).set_ 1 (.int .i64 L'.cut)).set_ 2 (.slice r'.A0 L'.s0.length r'.c0)).set_ 3 (.slice r'.A1 L'.s1.length r'.c1)).set_ 4 (.slice r'.A2 L'.w0.length r'.c2)).set_ 5 (.slice r'.A3 L'.w1.length r'.c3)).set_ 6 (.bool L'.down))
          have b8m : Blk _ m 46 (RV.cells r' L') := b8
          clear b8
          have k8 := (((((((Kept.refl (fun k => k = m) w7).setCell (p := ⟨m, 0, none⟩) (.inl rfl) (.int .i64 L'.budget)).setCell (p := ⟨m, 1, none⟩) (.inl rfl) (.int .i64 L'.cut)).setCell (p := ⟨m, 2, none⟩) (.inl rfl) (.slice r'.A0 L'.s0.length r'.c0)).setCell (p := ⟨m, 3, none⟩) (.inl rfl) (.slice r'.A1 L'.s1.length r'.c1)).setCell (p := ⟨m, 4, none⟩) (.inl rfl) (.slice r'.A2 L'.w0.length r'.c2)).setCell (p := ⟨m, 5, none⟩) (.inl rfl) (.slice r'.A3 L'.w1.length r'.c3)).setCell (p := ⟨m, 6, none⟩) (.inl rfl) (.bool L'.down)
          clear y0 y1 y2 y3 y4 y5 y6
          clear q0 qf0 q1 qf1 q2 qf2 q3 qf3 q4 qf4 q5 qf5 q6 qf6
          generalize (((((((w7.setCell ⟨m, 0, none⟩ (.int .i64 L'.budget)).setCell ⟨m, 1, none⟩ (.int .i64 L'.cut)).setCell ⟨m, 2, none⟩ (.slice r'.A0 L'.s0.length r'.c0)).setCell ⟨m, 3, none⟩ (.slice r'.A1 L'.s1.length r'.c1)).setCell ⟨m, 4, none⟩ (.slice r'.A2 L'.w0.length r'.c2)).setCell ⟨m, 5, none⟩ (.slice r'.A3 L'.w1.length r'.c3)).setCell ⟨m, 6, none⟩ (.bool L'.down)) = w8 at b8m k8 ⊢
          have l8 := l7.kept k8 (fun x hx hxm => hF7m (hxm ▸ hx))
          have ro8 := ro7.kept k8 (fun x hx => .inr hx)
          have bw8 : Below w.heap.size w w8 := bw7.trans (k8.below bw7.size (fun x hx => by have : x = m := hx; omega))
          clear cv1 cv2
          have z0 : w8.cell? ⟨m, 0, none⟩ = some (.int .i64 L'.budget) := (b8m.cell 0).trans rfl
          have z1 : w8.cell? ⟨m, 1, none⟩ = some (.int .i64 L'.cut) := (b8m.cell 1).trans rfl
          have z2 : w8.cell? ⟨m, 2, none⟩ = some (.slice r'.A0 L'.s0.length r'.c0) := (b8m.cell 2).trans rfl
          have z3 : w8.cell? ⟨m, 3, none⟩ = some (.slice r'.A1 L'.s1.length r'.c1) := (b8m.cell 3).trans rfl
          have z4 : w8.cell? ⟨m, 4, none⟩ = some (.slice r'.A2 L'.w0.length r'.c2) := (b8m.cell 4).trans rfl
          have z5 : w8.cell? ⟨m, 5, none⟩ = some (.slice r'.A3 L'.w1.length r'.c3) := (b8m.cell 5).trans rfl
          have z6 : w8.cell? ⟨m, 6, none⟩ = some (.bool L'.down) := (b8m.cell 6).trans rfl
          have CS := same_any l8 (ro8.anti (fun _ h => Or.inl h))
          unfold RV.cells at CS
          have HS := Lib.hid CS
          clear CS
          go_wp2_with fail
          refine HS.out.mono ?_
          rintro e w9 ⟨rfl, k9⟩
          clear HS
          clear z0 z1 z2 z3 z4 z5 z6
          go_wp2_with fail
          go_roundw
          case rel => exact ⟨j + 1, F, L', r', by omega, by go_num, l8.kept k9 (fun _ _ h => h), k9.blk b8m (fun h => h), ro8.keptN k9, hF, hF7m, bw8.trans (k9.below bw8.size (fun _ h => h.elim))⟩
          case measure => simp [intOf]; omega
        · have g2 : (kd == 2) = false := by simpa using h2
          by_cases h3 : kd = 3
          · subst h3
            have x0 : wx.cell? ⟨wr.heap.size, 0, none⟩ = some (.int .i64 3) := (bx.cell 0).trans rfl
            have x1 : wx.cell? ⟨wr.heap.size, 1, none⟩ = some (.int .i64 sd) := (bx.cell 1).trans rfl
            have x3 : wx.cell? ⟨wr.heap.size, 3, none⟩ = some (.int .i64 n) := (bx.cell 3).trans rfl
            have x4 : wx.cell? ⟨wr.heap.size, 4, none⟩ = some (.int .u8 (mk.toNat : Int)) := (bx.cell 4).trans rfl
            have CS := rspoil_any lx.isok rox hFO sd n mk
            generalize hS : L.spoil sd n mk = S at CS
            obtain ⟨L', g'⟩ := S
            unfold RV.cells at CS
            have HS := Lib.hid CS
            have HE := Lib.hid hS
            clear CS hS
            go_wp2_with fail
            refine HS.out.mono ?_
            rintro e w5 ⟨r', rfl, ro5, k5⟩
            clear HS
            clear q0 q1 q2 q3 q4 q5 q6
            clear x0 x1 x3 x4
            dsimp only at ro5
            unfold RV.cells
            go_upto_region 28 with fail
            have b6n := Blk.new w5 46 #[.int .i64 L'.budget, .int .i64 L'.cut, .slice r'.A0 L'.s0.length r'.c0, .slice r'.A1 L'.s1.length r'.c1, .slice r'.A2 L'.w0.length r'.c2, .slice r'.A3 L'.w1.length r'.c3, .bool L'.down]
            have k56 := (Kept.refl NoF w5).alloc (.cells #[.int .i64 L'.budget, .int .i64 L'.cut, .slice r'.A0 L'.s0.length r'.c0, .slice r'.A1 L'.s1.length r'.c1, .slice r'.A2 L'.w0.length r'.c2, .slice r'.A3 L'.w1.length r'.c3, .bool L'.down] 46)
            have hn5 : wx.heap.size ≤ w5.heap.size := k5.size
            generalize w5.alloc (.cells #[.int .i64 L'.budget, .int .i64 L'.cut, .slice r'.A0 L'.s0.length r'.c0, .slice r'.A1 L'.s1.length r'.c1, .slice r'.A2 L'.w0.length r'.c2, .slice r'.A3 L'.w1.length r'.c3, .bool L'.down] 46) = w6 at b6n k56 ⊢
            have k6 := k5.trans k56 (fun _ h => .inl h)
            have l6 := lx.kept k6 (fun _ _ h => h)
            have b6m := k6.blk bmx (fun h => h)
            have b6x := k6.blk bx (fun h => h)
            have ro6 := ro5.keptN k56
            have bw6 : Below w.heap.size w w6 := bwx.trans (k6.below bwx.size (fun _ h => h.elim))
            have hr6 := (hr.below bw6).more bw6.size
            have hnF : ¬ F w5.heap.size := fun h => by have := lx.lt _ h; omega
            have hm6 : m < w6.heap.size := b6m.lt
            have x1 : w6.cell? ⟨wr.heap.size, 1, none⟩ = some (.int .i64 sd) := (b6x.cell 1).trans rfl
            have x3 : w6.cell? ⟨wr.heap.size, 3, none⟩ = some (.int .i64 n) := (b6x.cell 3).trans rfl
            have x4 : w6.cell? ⟨wr.heap.size, 4, none⟩ = some (.int .u8 (mk.toNat : Int)) := (b6x.cell 4).trans rfl
            have CS := spoil_link l6 sd n mk
            rw [HE.out] at CS
            have HS := Lib.hid CS
            clear CS HE
            go_wp2_with fail
            refine HS.out.mono ?_
            clear HS x1 x3 x4
            rintro e w7 ⟨rfl, l7, k7⟩
            have hF7m := hFm
            have ro7 := ro6.kept k7 (fun _ h => Or.inl h)
            have bw7 : Below w.heap.size w w7 := bw6.trans (k7.below bw6.size hF)
            have b7n := k7.blk b6n hnF
            have b7m := k7.blk b6m hFm
            have y0 : w7.cell? ⟨w5.heap.size, 0, none⟩ = some (.int .i64 L'.budget) := (b7n.cell 0).trans rfl
            have y1 : w7.cell? ⟨w5.heap.size, 1, none⟩ = some (.int .i64 L'.cut) := (b7n.cell 1).trans rfl
            have y2 : w7.cell? ⟨w5.heap.size, 2, none⟩ = some (.slice r'.A0 L'.s0.length r'.c0) := (b7n.cell 2).trans rfl
            have y3 : w7.cell? ⟨w5.heap.size, 3, none⟩ = some (.slice r'.A1 L'.s1.length r'.c1) := (b7n.cell 3).trans rfl
            have y4 : w7.cell? ⟨w5.heap.size, 4, none⟩ = some (.slice r'.A2 L'.w0.length r'.c2) := (b7n.cell 4).trans rfl
            have y5 : w7.cell? ⟨w5.heap.size, 5, none⟩ = some (.slice r'.A3 L'.w1.length r'.c3) := (b7n.cell 5).trans rfl
            have y6 : w7.cell? ⟨w5.heap.size, 6, none⟩ = some (.bool L'.down) := (b7n.cell 6).trans rfl
            have q0 : w7.cell? ⟨m, 0, none⟩ = some (.int .i64 L.budget) := (b7m.cell 0).trans rfl
            have qf0 : w7.frozen? ⟨m, 0, none⟩ = false := b7m.frozen 0
            have q1 : w7.cell? ⟨m, 1, none⟩ = some (.int .i64 L.cut) := (b7m.cell 1).trans rfl
            have qf1 : w7.frozen? ⟨m, 1, none⟩ = false := b7m.frozen 1
            have q2 : w7.cell? ⟨m, 2, none⟩ = some (.slice r.A0 L.s0.length r.c0) := (b7m.cell 2).trans rfl
            have qf2 : w7.frozen? ⟨m, 2, none⟩ = false := b7m.frozen 2
            have q3 : w7.cell? ⟨m, 3, none⟩ = some (.slice r.A1 L.s1.length r.c1) := (b7m.cell 3).trans rfl
            have qf3 : w7.frozen? ⟨m, 3, none⟩ = false := b7m.frozen 3
            have q4 : w7.cell? ⟨m, 4, none⟩ = some (.slice r.A2 L.w0.length r.c2) := (b7m.cell 4).trans rfl
            have qf4 : w7.frozen? ⟨m, 4, none⟩ = false := b7m.frozen 4
            have q5 : w7.cell? ⟨m, 5, none⟩ = some (.slice r.A3 L.w1.length r.c3) := (b7m.cell 5).trans rfl
            have qf5 : w7.frozen? ⟨m, 5, none⟩ = false := b7m.frozen 5
            have q6 : w7.cell? ⟨m, 6, none⟩ = some (.bool L.down) := (b7m.cell 6).trans rfl
            have qf6 : w7.frozen? ⟨m, 6, none⟩ = false := b7m.frozen 6
            go_upto_region 31 with fail
            have b8 := (((((((b7m.set_ 0 (.int .i64 L'.budget)).set_ 1 (.int .i64 L'.cut)).set_ 2 (.slice r'.A0 L'.s0.length r'.c0)).set_ 3 (.slice r'.A1 L'.s1.length r'.c1)).set_ 4 (.slice r'.A2 L'.w0.length r'.c2)).set_ 5 (.slice r'.A3 L'.w1.length r'.c3)).set_ 6 (.bool L'.down))
            have b8m : Blk _ m 46 (RV.cells r' L') := b8
            clear b8
            have k8 := (((((((Kept.refl (fun k => k = m) w7).setCell (p := ⟨m, 0, none⟩) (.inl rfl) (.int .i64 L'.budget)).setCell (p := ⟨m, 1, none⟩) (.inl rfl) (.int .i64 L'.cut)).setCell (p := ⟨m, 2, none⟩) (.inl rfl) (.slice r'.A0 L'.s0.length r'.c0)).setCell (p := ⟨m, 3, none⟩) (.inl rfl) (.slice r'.A1 L'.s1.length r'.c1)).setCell (p := ⟨m, 4, none⟩) (.inl rfl) (.slice r'.A2 L'.w0.length r'.c2)).setCell (p := ⟨m, 5, none⟩) (.inl rfl) (.slice r'.A3 L'.w1.length r'.c3)).setCell (p := ⟨m, 6, none⟩) (.inl rfl) (.bool L'.down)
            clear y0 y1 y2 y3 y4 y5 y6
            clear q0 qf0 q1 qf1 q2 qf2 q3 qf3 q4 qf4 q5 qf5 q6 qf6
            generalize (((((((w7.setCell ⟨m, 0, none⟩ (.int .i64 L'.budget)).setCell ⟨m, 1, none⟩ (.int .i64 L'.cut)).setCell ⟨m, 2, none⟩ (.slice r'.A0 L'.s0.length r'.c0)).setCell ⟨m, 3, none⟩ (.slice r'.A1 L'.s1.length r'.c1)).setCell ⟨m, 4, none⟩ (.slice r'.A2 L'.w0.length r'.c2)).setCell ⟨m, 5, none⟩ (.slice r'.A3 L'.w1.length r'.c3)).setCell ⟨m, 6, none⟩ (.bool L'.down)) = w8 at b8m k8 ⊢
            have l8 := l7.kept k8 (fun x hx hxm => hF7m (hxm ▸ hx))
            have ro8 := ro7.kept k8 (fun x hx => .inr hx)
            have bw8 : Below w.heap.size w w8 := bw7.trans (k8.below bw7.size (fun x hx => by have : x = m := hx; omega))
            have z0 : w8.cell? ⟨m, 0, none⟩ = some (.int .i64 L'.budget) := (b8m.cell 0).trans rfl
            have z1 : w8.cell? ⟨m, 1, none⟩ = some (.int .i64 L'.cut) := (b8m.cell 1).trans rfl
            have z2 : w8.cell? ⟨m, 2, none⟩ = some (.slice r'.A0 L'.s0.length r'.c0) := (b8m.cell 2).trans rfl
            have z3 : w8.cell? ⟨m, 3, none⟩ = some (.slice r'.A1 L'.s1.length r'.c1) := (b8m.cell 3).trans rfl
            have z4 : w8.cell? ⟨m, 4, none⟩ = some (.slice r'.A2 L'.w0.length r'.c2) := (b8m.cell 4).trans rfl
            have z5 : w8.cell? ⟨m, 5, none⟩ = some (.slice r'.A3 L'.w1.length r'.c3) := (b8m.cell 5).trans rfl
            have z6 : w8.cell? ⟨m, 6, none⟩ = some (.bool L'.down) := (b8m.cell 6).trans rfl
            have CS := same_any l8 (ro8.anti (fun _ h => Or.inl h))
            unfold RV.cells at CS
            have HS := Lib.hid CS
            clear CS
            go_wp2_with fail
            refine HS.out.mono ?_
            rintro e w9 ⟨rfl, k9⟩
            clear HS
            clear z0 z1 z2 z3 z4 z5 z6
            go_wp2_with fail
            go_roundw
            case rel => exact ⟨j + 1, F, L', r', by omega, by go_num, l8.kept k9 (fun _ _ h => h), k9.blk b8m (fun h => h), ro8.keptN k9, hF, hF7m, bw8.trans (k9.below bw8.size (fun _ h => h.elim))⟩
            case measure => simp [intOf]; omega
          · have g3 : (kd == 3) = false := by simpa using h3
            clear q0 q1 q2 q3 q4 q5 q6
            by_cases hs : IsSide sd
            · rcases hs with rfl | rfl
              · skip
                have x0 : wx.cell? ⟨wr.heap.size, 0, none⟩ = some (.int .i64 kd) := (bx.cell 0).trans rfl
                have x1 : wx.cell? ⟨wr.heap.size, 1, none⟩ = some (.int .i64 0) := (bx.cell 1).trans rfl
                have z0 : wx.cell? ⟨m, 0, none⟩ = some (.int .i64 L.budget) := (bmx.cell 0).trans rfl
                have z1 : wx.cell? ⟨m, 1, none⟩ = some (.int .i64 L.cut) := (bmx.cell 1).trans rfl
                have z2 : wx.cell? ⟨m, 2, none⟩ = some (.slice r.A0 L.s0.length r.c0) := (bmx.cell 2).trans rfl
                have z3 : wx.cell? ⟨m, 3, none⟩ = some (.slice r.A1 L.s1.length r.c1) := (bmx.cell 3).trans rfl
                have z4 : wx.cell? ⟨m, 4, none⟩ = some (.slice r.A2 L.w0.length r.c2) := (bmx.cell 4).trans rfl
                have z5 : wx.cell? ⟨m, 5, none⟩ = some (.slice r.A3 L.w1.length r.c3) := (bmx.cell 5).trans rfl
                have z6 : wx.cell? ⟨m, 6, none⟩ = some (.bool L.down) := (bmx.cell 6).trans rfl
                have CS := same_any lx (rox.anti (fun _ h => Or.inl h))
                unfold RV.cells at CS
                have HS := Lib.hid CS
                clear CS
                go_wp2_with fail
                refine HS.out.mono ?_
                rintro e w9 ⟨rfl, k9⟩
                clear HS
                clear z0 z1 z2 z3 z4 z5 z6
                go_wp2_with fail
                go_roundw
                case rel => exact ⟨j + 1, F, L, r, by omega, by go_num, lx.kept k9 (fun _ _ h => h), k9.blk bmx (fun h => h), rox.keptN k9, hF, hFm, bwx.trans (k9.below bwx.size (fun _ h => h.elim))⟩
                case measure => simp [intOf]; omega
              · skip
                have x0 : wx.cell? ⟨wr.heap.size, 0, none⟩ = some (.int .i64 kd) := (bx.cell 0).trans rfl
                have x1 : wx.cell? ⟨wr.heap.size, 1, none⟩ = some (.int .i64 1) := (bx.cell 1).trans rfl
                have z0 : wx.cell? ⟨m, 0, none⟩ = some (.int .i64 L.budget) := (bmx.cell 0).trans rfl
                have z1 : wx.cell? ⟨m, 1, none⟩ = some (.int .i64 L.cut) := (bmx.cell 1).trans rfl
                have z2 : wx.cell? ⟨m, 2, none⟩ = some (.slice r.A0 L.s0.length r.c0) := (bmx.cell 2).trans rfl
                have z3 : wx.cell? ⟨m, 3, none⟩ = some (.slice r.A1 L.s1.length r.c1) := (bmx.cell 3).trans rfl
                have z4 : wx.cell? ⟨m, 4, none⟩ = some (.slice r.A2 L.w0.length r.c2) := (bmx.cell 4).trans rfl
                have z5 : wx.cell? ⟨m, 5, none⟩ = some (.slice r.A3 L.w1.length r.c3) := (bmx.cell 5).trans rfl
                have z6 : wx.cell? ⟨m, 6, none⟩ = some (.bool L.down) := (bmx.cell 6).trans rfl
                have CS := same_any lx (rox.anti (fun _ h => Or.inl h))
                unfold RV.cells at CS
                have HS := Lib.hid CS
                clear CS
                go_wp2_with fail
                refine HS.out.mono ?_
                rintro e w9 ⟨rfl, k9⟩
                clear HS
                clear z0 z1 z2 z3 z4 z5 z6
                go_wp2_with fail
                go_roundw
                case rel => exact ⟨j + 1, F, L, r, by omega, by go_num, lx.kept k9 (fun _ _ h => h), k9.blk bmx (fun h => h), rox.keptN k9, hF, hFm, bwx.trans (k9.below bwx.size (fun _ h => h.elim))⟩
                case measure => simp [intOf]; omega
            · have hn0 := (beq_no hs).1
              have hn1 := (beq_no hs).2
              have b0 : (sd != 0) = true := by simp only [bne, hn0, Bool.not_false]
              have b1 : (sd != 1) = true := by simp only [bne, hn1, Bool.not_false]
              have HA := Lib.hid hn0
              have HB := Lib.hid hn1
              have x0 : wx.cell? ⟨wr.heap.size, 0, none⟩ = some (.int .i64 kd) := (bx.cell 0).trans rfl
              have x1 : wx.cell? ⟨wr.heap.size, 1, none⟩ = some (.int .i64 sd) := (bx.cell 1).trans rfl
              go_wp2_with fail
              refine (sent_no _ sd _ HA.out HB.out).mono ?_
              rintro e w5 ⟨rfl, rfl⟩
              go_wp2_with fail
              refine (tran_no _ sd _ HA.out HB.out).mono ?_
              rintro e w5 ⟨rfl, rfl⟩
              have z0 : wx.cell? ⟨m, 0, none⟩ = some (.int .i64 L.budget) := (bmx.cell 0).trans rfl
              have z1 : wx.cell? ⟨m, 1, none⟩ = some (.int .i64 L.cut) := (bmx.cell 1).trans rfl
              have z2 : wx.cell? ⟨m, 2, none⟩ = some (.slice r.A0 L.s0.length r.c0) := (bmx.cell 2).trans rfl
              have z3 : wx.cell? ⟨m, 3, none⟩ = some (.slice r.A1 L.s1.length r.c1) := (bmx.cell 3).trans rfl
              have z4 : wx.cell? ⟨m, 4, none⟩ = some (.slice r.A2 L.w0.length r.c2) := (bmx.cell 4).trans rfl
              have z5 : wx.cell? ⟨m, 5, none⟩ = some (.slice r.A3 L.w1.length r.c3) := (bmx.cell 5).trans rfl
              have z6 : wx.cell? ⟨m, 6, none⟩ = some (.bool L.down) := (bmx.cell 6).trans rfl
              have CS := same_any lx (rox.anti (fun _ h => Or.inl h))
              unfold RV.cells at CS
              have HS := Lib.hid CS
              clear CS
              go_wp2_with fail
              refine HS.out.mono ?_
              rintro e w9 ⟨rfl, k9⟩
              clear HS
              clear z0 z1 z2 z3 z4 z5 z6
              go_wp2_with fail
              go_roundw
              case rel => exact ⟨j + 1, F, L, r, by omega, by go_num, lx.kept k9 (fun _ _ h => h), k9.blk bmx (fun h => h), rox.keptN k9, hF, hFm, bwx.trans (k9.below bwx.size (fun _ h => h.elim))⟩
              case measure => simp [intOf]; omega
    · go_wp2_with fail
      go_ret
      exact ⟨rfl, bw⟩

end Go.Proofs.Ytchchgdkejolaaa
