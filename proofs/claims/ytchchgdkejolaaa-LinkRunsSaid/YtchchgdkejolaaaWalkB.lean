/- The walk of LinkCuts. -/
import Derived.Test.YtchchgdkejolaaaWalkA
import Derived.Test.YtchchgdkejolaaaLawB
import Derived.Deep.RegionWith
namespace Go.Proofs.Ytchchgdkejolaaa
open Go.RowKit

set_option maxHeartbeats 1000000 in
set_option maxRecDepth 100000 in
theorem cuts_big (c : UInt8) (X : Option Addr) (nx cx : Nat) (w : World) (h : 100 < nx) :
    Calls Try.prog 5 #[.int .u8 (c.toNat : Int), .slice X nx cx] w fun e w' => e = .returned (.bool true) ∧ Below w.heap.size w w' := by
  have hc := c.toNat_lt
  have hd : decide (100 < (nx : Int)) = true := by simp; omega
  go_enter Try.func5, Try.ntmps5
  go_wp2_with fail
  refine (new_any 1000 _ _ (by omega) (by omega) (by omega) (by omega)).mono ?_
  rintro e w1 ⟨rfl, a1, k1, s1⟩
  clear s1
  go_wp2_with fail
  refine (awake_any _).mono ?_
  rintro e w3 ⟨rfl, k3⟩
  go_wp2_with fail
  refine (awake_any _).mono ?_
  rintro e w4 ⟨rfl, k4⟩
  go_wp2_with fail
  go_ret
  exact ⟨rfl, nof_below ((k1.trans (Kept.of_below k3) (fun _ h => .inl h)).trans (Kept.of_below k4) (fun _ h => .inl h))⟩

theorem and_one_u8 (b : UInt8) : ∃ k : Int, bits .and .u8 (b.toNat : Int) 1 = k ∧ 0 ≤ k ∧ k ≤ 1 := by
  have h : bits .and .u8 (b.toNat : Int) 1 = IntKind.u8.wrap ((BitVec.ofInt 8 (b.toNat : Int) &&& BitVec.ofInt 8 1).toNat : Int) := rfl
  have h2 : (BitVec.ofInt 8 (b.toNat : Int) &&& BitVec.ofInt 8 1).toNat = (BitVec.ofInt 8 (b.toNat : Int)).toNat % 2 := by
    rw [BitVec.toNat_and, show (BitVec.ofInt 8 1).toNat = 1 from rfl, Nat.and_one_is_mod]
  refine ⟨_, rfl, ?_⟩
  rw [h, h2, IntKind.wrap_u8']
  omega

theorem cut_more {F : Nat → Prop} {B : Nat} {w wr wl w4 : World} (hF : ∀ k, F k → B ≤ k) (hs : wr.heap.size ≤ wl.heap.size) (hb : Below B w wr) (hB : B ≤ w.heap.size) : ∀ k, More F wl w4 k → B ≤ k := by
  have := hb.size
  rintro k (h | h)
  · exact hF k h
  · omega
theorem cut_below {F : Nat → Prop} {B : Nat} {w wr wl w4 : World} (hb : Below B w wr) (kl : Kept NoF wr wl) (k4 : Kept F wl w4) (hF : ∀ k, F k → B ≤ k) (hB : B ≤ w.heap.size) : Below B w w4 :=
  hb.trans (((kl.below (by have := hb.size; omega) (fun _ h => h.elim)).trans (k4.below (by have := hb.size; have := kl.size; omega) hF)))

def CutRel (w : World) (c : UInt8) (n : Nat) (i : Value) (wr : World) : Prop :=
  ∃ (j : Nat) (F : Nat → Prop) (L : LS), j ≤ n ∧ i = .int .i64 (j : Int) ∧ LinkAt wr F w.heap.size L ∧ (∀ k, F k → w.heap.size ≤ k) ∧ CutInv c.toNat j L ∧ Below w.heap.size w wr

set_option maxHeartbeats 4000000 in
set_option maxRecDepth 100000 in
theorem cuts_small (c : UInt8) (X : Option Addr) (cx : Nat) (xs : List UInt8) (w : World) (h : xs.length ≤ 100) (hx : Reads w w.heap.size 1 X xs.length (bvs xs)) :
    Calls Try.prog 5 #[.int .u8 (c.toNat : Int), .slice X xs.length cx] w fun e w' => e = .returned (.bool true) ∧ Below w.heap.size w w' := by
  have hc := c.toNat_lt
  have hd : decide (100 < (xs.length : Int)) = false := by simp; omega
  go_enter Try.func5, Try.ntmps5
  go_wp2_with fail
  refine (new_any 1000 _ _ (by omega) (by omega) (by omega) (by omega)).mono ?_
  rintro e w1 ⟨rfl, a1, k1, s1⟩
  clear s1
  go_wp2_with fail
  refine (awake_any _).mono ?_
  rintro e w3 ⟨rfl, k3⟩
  have b3 : Below w.heap.size w w3 := nof_below (k1.trans (Kept.of_below k3) (fun _ h => .inl h))
  have a3 := a1.kept (Kept.of_below (F := NoF) k3) (fun _ _ h => h)
  go_wp2_with fail
  go_loopw [7] (CutRel w c xs.length) (fun i _ => xs.length - (intOf i).toNat)
  case atStart => exact ⟨0, _, _, Nat.zero_le _, rfl, a3, fun k hk => by unfold NewF at hk; omega, cut_start _, b3⟩
  case round =>
    obtain ⟨j, F, L, hj, rfl, l, hF, inv, bw⟩ := hrel
    by_cases hlt : j < xs.length
    · obtain ⟨ad, u, rfl, hb, hu, hcell⟩ := (hx.below bw).at_ hlt
      rw [bvs_get _ _ hlt] at hu
      injection hu with hu
      subst hu
      generalize xs[j] = b at hcell
      have hcell' : wr.cell? (ad.add j) = some (.int .u8 (b.toNat : Int)) := hcell
      have hcell2 : ∀ o, (wr.alloc o).cell? (ad.add j) = some (.int .u8 (b.toNat : Int)) := fun o => Lib.cell?_alloc_marked o hcell
      clear hcell hb
      obtain ⟨k, hbit, hk0, hk1⟩ := and_one_u8 b
      have hk : IsSide k := by unfold IsSide; omega
      obtain ⟨wl, ewl, kl, rl⟩ : ∃ wl, (wr.alloc (.cells #[.int .u8 (b.toNat : Int)] 5)).drew = wl ∧ Kept NoF wr wl ∧ Reads wl wl.heap.size 1 (some ⟨wr.heap.size, 0, none⟩) 1 (bvs [b]) :=
        ⟨_, rfl, ((Kept.refl NoF wr).alloc _).drew, (lit_row wr [b] (0, 0)).2⟩
      have C := send_any (l.kept kl (fun _ _ h => h)) k _ 1 1 [b] rfl rl (by
        intro ad' e _ hf
        injection e with e
        subst e
        have := l.lt _ hf
        simp at this) (by simp)
      have H := Lib.hid C
      have EW := Lib.hid ewl
      clear C rl ewl
      by_cases hjc : j < c.toNat
      · obtain ⟨r1, r2, r3, inv'⟩ := cut_before inv (by omega) hjc k hk b
        generalize hr : L.send k [b] = r at r1 r2 r3 inv' H
        clear hr
        obtain ⟨L', n', f'⟩ := r
        simp only at r1 r2 r3 inv'
        subst r1 r2
        have hwk : IntKind.i64.wrap k = k := by rw [IntKind.wrap_i64]; omega
        go_wp2_with fail
        go_region_with (go_at_call 12; rw [EW.out]; refine H.out.mono ?_; rintro e w4 ⟨rfl, l4, k4⟩)
        all_goals
          have D := down_link l4
          have r3' : (L', (1 : Int), (0 : Int)).1.down = false := r3
          rw [r3'] at D
          have HD := Lib.hid D
          clear D
          go_wp2_with (go_at_call 15; refine HD.out.mono ?_; rintro e w5 ⟨rfl, rfl⟩)
          go_roundw
          case rel => exact ⟨j + 1, _, _, by omega, by go_num, l4, cut_more hF kl.size bw (Nat.le_refl _), inv', cut_below bw kl k4 hF (Nat.le_refl _)⟩
          case measure => simp [intOf]; omega
      · obtain ⟨r1, r2, r3, inv'⟩ := cut_behind inv (by omega) (by omega) k hk b
        generalize hr : L.send k [b] = r at r1 r2 r3 inv' H
        clear hr
        obtain ⟨L', n', f'⟩ := r
        simp only at r1 r2 r3 inv'
        subst r1 r2
        have hwk : IntKind.i64.wrap k = k := by rw [IntKind.wrap_i64]; omega
        go_wp2_with fail
        go_region_with (go_at_call 12; rw [EW.out]; refine H.out.mono ?_; rintro e w4 ⟨rfl, l4, k4⟩)
        all_goals
          have D := down_link l4
          have r3' : (L', (0 : Int), (15 : Int)).1.down = true := r3
          rw [r3'] at D
          have HD := Lib.hid D
          clear D
          go_wp2_with (go_at_call 15; refine HD.out.mono ?_; rintro e w5 ⟨rfl, rfl⟩)
          go_roundw
          case rel => exact ⟨j + 1, _, _, by omega, by go_num, l4, cut_more hF kl.size bw (Nat.le_refl _), inv', cut_below bw kl k4 hF (Nat.le_refl _)⟩
          case measure => simp [intOf]; omega
    · have hjl : j = xs.length := by omega
      subst hjl
      have hs := sent_total L
      have H0 := Lib.hid (sent_any l 0)
      have H1 := Lib.hid (sent_any l 1)
      have ht := inv.tot
      generalize (L.sent 0).length = n0 at hs H0
      generalize (L.sent 1).length = n1 at hs H1
      rw [ht] at hs
      have h0 : (n0 : Int) ≤ 256 := by omega
      have h1 : (n1 : Int) ≤ 256 := by omega
      have HS := Lib.hid hs
      clear hs ht
      go_wp2_with fail
      refine H0.out.mono ?_
      rintro e w5 ⟨rfl, rfl⟩
      go_wp2_with fail
      refine H1.out.mono ?_
      rintro e w5 ⟨rfl, rfl⟩
      go_wp2_with fail
      all_goals
        go_ret
        refine ⟨congrArg (fun b => Ending.returned (Value.bool b)) (?_ : _ = true), bw⟩
        have := HS.out
        rw [beq_iff_eq]
        omega

end Go.Proofs.Ytchchgdkejolaaa
