/- Spoil: the walks are printed by a small program (genspoil.py). -/
import Derived.Test.YtchchgdkejolaaaRecv
import Derived.Laws.BitsAllLaws
namespace Go.Proofs.Ytchchgdkejolaaa
open Go.RowKit

theorem xor_bv (a b : UInt8) : bits .xor .u8 (a.toNat : Int) (b.toNat : Int) = ((a ^^^ b).toNat : Int) := by
  have h1 := a.toNat_lt
  have h2 := b.toNat_lt
  rw [u8_xor_nat _ _ (by simpa using h1) (by simpa using h2), UInt8.toNat_xor]

set_option maxHeartbeats 400000 in
theorem spoil_no (p : Option Addr) (s n : Int) (m : Value) (w : World) (h0 : (s == 0) = false) (h1 : (s == 1) = false) :
    Calls Try.prog 19 #[.pointer p, .int .i64 s, .int .i64 n, m] w fun e w' => e = .returned (.int .i64 1) ∧ w = w' := by
  go_enter Try.func19, Try.ntmps19
  go_wp2_with (go_at_call 25; refine (isSide_no s _ h0 h1).mono ?_; rintro e w' ⟨rfl, rfl⟩)
  go_ret
  exact ⟨rfl, rfl⟩

set_option maxHeartbeats 400000 in
theorem spoil_neg (p : Option Addr) (s n : Int) (m : Value) (w : World) (h : s = 0 ∨ s = 1) (hn : n < 0) :
    Calls Try.prog 19 #[.pointer p, .int .i64 s, .int .i64 n, m] w fun e w' => e = .returned (.int .i64 1) ∧ w = w' := by
  go_enter Try.func19, Try.ntmps19
  go_wp2_with (go_at_call 25; refine (isSide_yes s _ h).mono ?_; rintro e w' ⟨rfl, rfl⟩)
  go_ret
  exact ⟨rfl, rfl⟩

theorem bvs_set (l : List UInt8) (j : Nat) (b : UInt8) : bvs (l.set j b) = (bvs l).set j (bv b) := by simp [bvs, List.map_set]

set_option maxHeartbeats 400000 in
theorem spoil_out0 (p k c : Nat) (A : Option Addr) (n : Int) (m : Value) (w : World) (h1 : w.cell? ⟨p, 1, none⟩ = some (.slice A k c)) (hn : 0 ≤ n) (hk : (k : Int) ≤ n) :
    Calls Try.prog 19 #[.pointer (some ⟨p, 0, none⟩), .int .i64 0, .int .i64 n, m] w fun e w' => e = .returned (.int .i64 4) ∧ w = w' := by
  go_enter Try.func19, Try.ntmps19
  go_wp2_with (go_at_call 25; refine (isSide_yes 0 _ (.inl rfl)).mono ?_; rintro e w' ⟨rfl, rfl⟩)
  go_ret
  exact ⟨rfl, rfl⟩

set_option maxHeartbeats 400000 in
theorem spoil_in0 (p k c g j : Nat) (b m : UInt8) (w : World) (h1 : w.cell? ⟨p, 1, none⟩ = some (.slice (some ⟨g, 0, none⟩) k c)) (hj : j < k) (_hkm : k ≤ 1073741824)
    (h2 : w.cell? ⟨g, j, none⟩ = some (.int .u8 (b.toNat : Int))) (h3 : w.frozen? ⟨g, j, none⟩ = false) :
    Calls Try.prog 19 #[.pointer (some ⟨p, 0, none⟩), .int .i64 0, .int .i64 (j : Int), .int .u8 (m.toNat : Int)] w fun e w' => e = .returned (.int .i64 0) ∧ w.setCell ⟨g, j, none⟩ (.int .u8 (bits .xor .u8 (b.toNat : Int) (m.toNat : Int))) = w' := by
  go_enter Try.func19, Try.ntmps19
  go_wp2_with (go_at_call 25; refine (isSide_yes 0 _ (.inl rfl)).mono ?_; rintro e w' ⟨rfl, rfl⟩)
  go_ret
  exact ⟨rfl, rfl⟩

theorem spoil0 {F : Nat → Prop} {p : Nat} {L : LS} {w : World} {v0 v1 v2 v3 : Value} (hok : L.ok) (r : Rep w F p L v0 v1 v2 v3) (j : Nat) (m : UInt8) (hj : j < L.w0.length) :
    Calls Try.prog 19 #[.pointer (some ⟨p, 0, none⟩), .int .i64 0, .int .i64 (j : Int), .int .u8 (m.toNat : Int)] w fun e w' => e = .returned (.int .i64 0) ∧ (∃ v0 v1 v2 v3, Rep w' F p { L with w0 := L.w0.set j (L.w0[j] ^^^ m) } v0 v1 v2 v3) ∧ Kept F w w' := by
  obtain ⟨g, c, hv, _⟩ := r.o1.form (by omega)
  subst hv
  have hcell : w.cell? ⟨g, j, none⟩ = some (bv L.w0[j]) := (r.o1.cellAt j (by omega)).trans (bvs_get _ _ hj)
  have hq : L.w0.length ≤ 1073741824 := by have := hok.b1; have := hok.tot; have := hok.q0; have := hok.q1; omega
  refine (spoil_in0 p L.w0.length c g j L.w0[j] m w ((r.blk.cell 1).trans rfl) hj hq hcell (r.o1.frozenAt j)).mono ?_
  rintro e w' ⟨rfl, rfl⟩
  have hst := r.o1.stored j (bv (L.w0[j] ^^^ m))
  rw [xor_bv]
  have hk : Kept (fun k => k = g) w (w.setCell ⟨g, j, none⟩ (.int .u8 ((L.w0[j] ^^^ m).toNat : Int))) := Kept.set1 _ _ _ _
  have hne : ¬ p = g := fun e => own_blk_ne r.o1 r.blk (by decide) (by rw [e]; rfl)
  have hs := bvs_set L.w0 j (L.w0[j] ^^^ m)
  refine ⟨rfl, ⟨_, _, _, _, ⟨hk.blk r.blk hne, hk.own r.o0 fun k hk e => r.d01 k hk (by rw [e]; exact rfl), by rw [bvs_set, List.length_set]; exact hst.1, hk.own r.o2 fun k hk e => r.d12 k (by rw [e]; exact rfl) hk, hk.own r.o3 fun k hk e => r.d13 k (by rw [e]; exact rfl) hk, r.fp, r.f0, r.f1, r.f2, r.f3, fun k hk => by rw [size_setCell]; exact r.lt k hk, r.d01, r.d02, r.d03, r.d12, r.d13, r.d23⟩⟩, hk.mono fun k e => e ▸ r.f1 g rfl⟩

set_option maxHeartbeats 400000 in
theorem spoil_out1 (p k c : Nat) (A : Option Addr) (n : Int) (m : Value) (w : World) (h1 : w.cell? ⟨p, 3, none⟩ = some (.slice A k c)) (hn : 0 ≤ n) (hk : (k : Int) ≤ n) :
    Calls Try.prog 19 #[.pointer (some ⟨p, 0, none⟩), .int .i64 1, .int .i64 n, m] w fun e w' => e = .returned (.int .i64 4) ∧ w = w' := by
  go_enter Try.func19, Try.ntmps19
  go_wp2_with (go_at_call 25; refine (isSide_yes 1 _ (.inr rfl)).mono ?_; rintro e w' ⟨rfl, rfl⟩)
  go_ret
  exact ⟨rfl, rfl⟩

set_option maxHeartbeats 400000 in
theorem spoil_in1 (p k c g j : Nat) (b m : UInt8) (w : World) (h1 : w.cell? ⟨p, 3, none⟩ = some (.slice (some ⟨g, 0, none⟩) k c)) (hj : j < k) (_hkm : k ≤ 1073741824)
    (h2 : w.cell? ⟨g, j, none⟩ = some (.int .u8 (b.toNat : Int))) (h3 : w.frozen? ⟨g, j, none⟩ = false) :
    Calls Try.prog 19 #[.pointer (some ⟨p, 0, none⟩), .int .i64 1, .int .i64 (j : Int), .int .u8 (m.toNat : Int)] w fun e w' => e = .returned (.int .i64 0) ∧ w.setCell ⟨g, j, none⟩ (.int .u8 (bits .xor .u8 (b.toNat : Int) (m.toNat : Int))) = w' := by
  go_enter Try.func19, Try.ntmps19
  go_wp2_with (go_at_call 25; refine (isSide_yes 1 _ (.inr rfl)).mono ?_; rintro e w' ⟨rfl, rfl⟩)
  go_ret
  exact ⟨rfl, rfl⟩

theorem spoil1 {F : Nat → Prop} {p : Nat} {L : LS} {w : World} {v0 v1 v2 v3 : Value} (hok : L.ok) (r : Rep w F p L v0 v1 v2 v3) (j : Nat) (m : UInt8) (hj : j < L.w1.length) :
    Calls Try.prog 19 #[.pointer (some ⟨p, 0, none⟩), .int .i64 1, .int .i64 (j : Int), .int .u8 (m.toNat : Int)] w fun e w' => e = .returned (.int .i64 0) ∧ (∃ v0 v1 v2 v3, Rep w' F p { L with w1 := L.w1.set j (L.w1[j] ^^^ m) } v0 v1 v2 v3) ∧ Kept F w w' := by
  obtain ⟨g, c, hv, _⟩ := r.o3.form (by omega)
  subst hv
  have hcell : w.cell? ⟨g, j, none⟩ = some (bv L.w1[j]) := (r.o3.cellAt j (by omega)).trans (bvs_get _ _ hj)
  have hq : L.w1.length ≤ 1073741824 := by have := hok.b1; have := hok.tot; have := hok.q0; have := hok.q1; omega
  refine (spoil_in1 p L.w1.length c g j L.w1[j] m w ((r.blk.cell 3).trans rfl) hj hq hcell (r.o3.frozenAt j)).mono ?_
  rintro e w' ⟨rfl, rfl⟩
  have hst := r.o3.stored j (bv (L.w1[j] ^^^ m))
  rw [xor_bv]
  have hk : Kept (fun k => k = g) w (w.setCell ⟨g, j, none⟩ (.int .u8 ((L.w1[j] ^^^ m).toNat : Int))) := Kept.set1 _ _ _ _
  have hne : ¬ p = g := fun e => own_blk_ne r.o3 r.blk (by decide) (by rw [e]; rfl)
  have hs := bvs_set L.w1 j (L.w1[j] ^^^ m)
  refine ⟨rfl, ⟨_, _, _, _, ⟨hk.blk r.blk hne, hk.own r.o0 fun k hk e => r.d03 k hk (by rw [e]; exact rfl), hk.own r.o1 fun k hk e => r.d13 k hk (by rw [e]; exact rfl), hk.own r.o2 fun k hk e => r.d23 k hk (by rw [e]; exact rfl), by rw [bvs_set, List.length_set]; exact hst.1, r.fp, r.f0, r.f1, r.f2, r.f3, fun k hk => by rw [size_setCell]; exact r.lt k hk, r.d01, r.d02, r.d03, r.d12, r.d13, r.d23⟩⟩, hk.mono fun k e => e ▸ r.f3 g rfl⟩

end Go.Proofs.Ytchchgdkejolaaa
