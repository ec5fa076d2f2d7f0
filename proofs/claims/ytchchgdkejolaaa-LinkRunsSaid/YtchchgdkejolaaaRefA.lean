/- The reference's side, Total, New, Receive. -/
import Derived.Test.YtchchgdkejolaaaWalkE
namespace Go.Proofs.Ytchchgdkejolaaa
open Go.RowKit

/-- A row that a value refers to and that no call on the link (blocks F) writes. -/
def Src (w : World) (F : Nat → Prop) (A : Option Addr) (xs : List UInt8) : Prop := Reads w w.heap.size 1 A xs.length (bvs xs) ∧ ∀ ad, A = some ad → 0 < xs.length → ¬ F ad.block

theorem Src.kept {w w' : World} {F G : Nat → Prop} {A : Option Addr} {xs : List UInt8} (h : Src w F A xs) (k : Kept G w w') (hG : ∀ x, G x → F x) : Src w' F A xs :=
  ⟨k.src h.1 (fun ad e hp hg => h.2 ad e hp (hG _ hg)), h.2⟩
theorem Src.more {w w' : World} {F : Nat → Prop} {A : Option Addr} {xs : List UInt8} (h : Src w F A xs) (k : Kept F w w') : Src w' (More F w w') A xs := by
  refine ⟨k.src h.1 h.2, fun ad e hp hm => ?_⟩
  obtain ⟨ad', e', hb, _⟩ := h.1.2 hp
  rw [e] at e'
  injection e' with e'
  subst e'
  rcases hm with hm | hm
  · exact h.2 ad e hp hm
  · omega
theorem Src.nil_ (w : World) (F : Nat → Prop) : Src w F none [] := ⟨Reads.none_, fun _ h => by cases h⟩

/-- Where the four rows of a reference link lie. -/
structure RV where
  A0 : Option Addr
  c0 : Nat
  A1 : Option Addr
  c1 : Nat
  A2 : Option Addr
  c2 : Nat
  A3 : Option Addr
  c3 : Nat

def RV.cells (r : RV) (L : LS) : Array Value := #[.int .i64 L.budget, .int .i64 L.cut, .slice r.A0 L.s0.length r.c0, .slice r.A1 L.s1.length r.c1, .slice r.A2 L.w0.length r.c2, .slice r.A3 L.w1.length r.c3, .bool L.down]
def RV.none_ : RV := ⟨none, 0, none, 0, none, 0, none, 0⟩

structure RefOk (w : World) (F : Nat → Prop) (L : LS) (r : RV) : Prop where
  s0 : Src w F r.A0 L.s0
  s1 : Src w F r.A1 L.s1
  w0 : Src w F r.A2 L.w0
  w1 : Src w F r.A3 L.w1
  b2 : L.w0.length ≤ r.c2
  b3 : L.w1.length ≤ r.c3

theorem RefOk.kept {w w' : World} {F G : Nat → Prop} {L : LS} {r : RV} (h : RefOk w F L r) (k : Kept G w w') (hG : ∀ x, G x → F x) : RefOk w' F L r :=
  ⟨h.s0.kept k hG, h.s1.kept k hG, h.w0.kept k hG, h.w1.kept k hG, h.b2, h.b3⟩
theorem RefOk.keptN {w w' : World} {F : Nat → Prop} {L : LS} {r : RV} (h : RefOk w F L r) (k : Kept NoF w w') : RefOk w' F L r := h.kept k (fun _ h => h.elim)
theorem RefOk.more {w w' : World} {F : Nat → Prop} {L : LS} {r : RV} (h : RefOk w F L r) (k : Kept F w w') : RefOk w' (More F w w') L r :=
  ⟨h.s0.more k, h.s1.more k, h.w0.more k, h.w1.more k, h.b2, h.b3⟩

set_option maxHeartbeats 400000 in
theorem side_yes (n : Int) (w : World) (h : n = 0 ∨ n = 1) :
    Calls Try.prog 27 #[.int .i64 n] w fun e w' => e = .returned (.bool true) ∧ w = w' := by
  rcases h with rfl | rfl
  · go_enter Try.func27, Try.ntmps27
    go_wp2
    go_ret
    exact ⟨rfl, rfl⟩
  · go_enter Try.func27, Try.ntmps27
    go_wp2
    go_ret
    exact ⟨rfl, rfl⟩

set_option maxHeartbeats 400000 in
theorem side_no (n : Int) (w : World) (h0 : (n == 0) = false) (h1 : (n == 1) = false) :
    Calls Try.prog 27 #[.int .i64 n] w fun e w' => e = .returned (.bool false) ∧ w = w' := by
  go_enter Try.func27, Try.ntmps27
  go_wp2
  go_ret
  exact ⟨rfl, rfl⟩

set_option maxHeartbeats 400000 in
theorem rtotal_walk (b c : Int) (A0 A1 A2 A3 : Option Addr) (n0 c0 n1 c1 n2 c2 n3 c3 : Nat) (d : Bool) (w : World) (hb : n0 + n1 ≤ 1073741824) :
    Calls Try.prog 28 #[.agg #[.int .i64 b, .int .i64 c, .slice A0 n0 c0, .slice A1 n1 c1, .slice A2 n2 c2, .slice A3 n3 c3, .bool d]] w fun e w' => e = .returned (.int .i64 ((n0 : Int) + n1)) ∧ Kept NoF w w' := by
  go_enter Try.func28, Try.ntmps28
  go_wp2
  go_ret
  exact ⟨rfl, (Kept.refl _ _).alloc _⟩

set_option maxHeartbeats 400000 in
theorem rnew_no (b c : Int) (w : World) (h : b < 0 ∨ 1073741824 < b) :
    Calls Try.prog 20 #[.int .i64 b, .int .i64 c] w fun e w' => e = .returned (.tuple #[.agg (RV.none_.cells ⟨[], [], [], [], 0, 0, false⟩), .int .i64 1]) ∧ Kept NoF w w' := by
  rcases h with h | h
  · go_enter Try.func20, Try.ntmps20
    go_wp2
    exact bodyPost_ret (v := .tuple #[.agg (RV.none_.cells ⟨[], [], [], [], 0, 0, false⟩), .int .i64 1]) (by simp [results, Try.results20, go_sem, RV.cells, RV.none_]) rfl ⟨rfl, (Kept.refl _ _).alloc _⟩
  · have h' : ¬ b < 0 := by omega
    go_enter Try.func20, Try.ntmps20
    go_wp2
    exact bodyPost_ret (v := .tuple #[.agg (RV.none_.cells ⟨[], [], [], [], 0, 0, false⟩), .int .i64 1]) (by simp [results, Try.results20, go_sem, RV.cells, RV.none_]) rfl ⟨rfl, (Kept.refl _ _).alloc _⟩

set_option maxHeartbeats 400000 in
theorem rnew_yes (b c : Int) (w : World) (h0 : 0 ≤ b) (h1 : b ≤ 1073741824) :
    Calls Try.prog 20 #[.int .i64 b, .int .i64 c] w fun e w' => e = .returned (.tuple #[.agg (RV.none_.cells (LS.fresh b c)), .int .i64 0]) ∧ Kept NoF w w' := by
  go_enter Try.func20, Try.ntmps20
  go_wp2
  exact bodyPost_ret (v := .tuple #[.agg (RV.none_.cells (LS.fresh b c)), .int .i64 0]) (by simp [results, Try.results20, go_sem, RV.cells, RV.none_, LS.fresh]) rfl ⟨rfl, (Kept.refl _ _).alloc _⟩

def RV.drop (r : RV) (side : Int) : RV := if side = 0 then { r with A2 := none, c2 := 0 } else if side = 1 then { r with A3 := none, c3 := 0 } else r
def RV.waitA (r : RV) (side : Int) : Option Addr := if side = 0 then r.A2 else r.A3
def RV.waitC (r : RV) (side : Int) : Nat := if side = 0 then r.c2 else r.c3

set_option maxHeartbeats 400000 in
theorem rrecv_no (n : Int) (r : RV) (L : LS) (w : World) (h0 : (n == 0) = false) (h1 : (n == 1) = false) :
    Calls Try.prog 22 #[.agg (r.cells L), .int .i64 n] w fun e w' => e = .returned (.tuple #[.agg (r.cells L), .slice none 0 0, .int .i64 1]) ∧ Kept NoF w w' := by
  unfold RV.cells
  go_enter Try.func22, Try.ntmps22
  go_wp2_with (go_at_call 27; refine (side_no n _ h0 h1).mono ?_; rintro e w' ⟨rfl, rfl⟩)
  exact bodyPost_ret (v := .tuple #[.agg (r.cells L), .slice none 0 0, .int .i64 1]) (by simp [results, Try.results22, go_sem, RV.cells]) rfl ⟨rfl, ((Kept.refl _ _).alloc _).alloc _⟩

set_option maxHeartbeats 400000 in
theorem rrecv_0 (r : RV) (L : LS) (w : World) :
    Calls Try.prog 22 #[.agg (r.cells L), .int .i64 0] w fun e w' => e = .returned (.tuple #[.agg ((r.drop 0).cells (L.drop 0)), .slice r.A2 L.w0.length r.c2, .int .i64 0]) ∧ Kept NoF w w' := by
  unfold RV.cells
  go_enter Try.func22, Try.ntmps22
  go_wp2_with (go_at_call 27; refine (side_yes 0 _ (.inl rfl)).mono ?_; rintro e w' ⟨rfl, rfl⟩)
  exact bodyPost_ret (v := .tuple #[.agg ((r.drop 0).cells (L.drop 0)), .slice r.A2 L.w0.length r.c2, .int .i64 0]) (by simp [results, Try.results22, go_sem, RV.cells, RV.drop, LS.drop]) rfl ⟨rfl, ((Kept.refl _ _).alloc _).alloc _⟩

set_option maxHeartbeats 400000 in
theorem rrecv_1 (r : RV) (L : LS) (w : World) :
    Calls Try.prog 22 #[.agg (r.cells L), .int .i64 1] w fun e w' => e = .returned (.tuple #[.agg ((r.drop 1).cells (L.drop 1)), .slice r.A3 L.w1.length r.c3, .int .i64 0]) ∧ Kept NoF w w' := by
  unfold RV.cells
  go_enter Try.func22, Try.ntmps22
  go_wp2_with (go_at_call 27; refine (side_yes 1 _ (.inr rfl)).mono ?_; rintro e w' ⟨rfl, rfl⟩)
  exact bodyPost_ret (v := .tuple #[.agg ((r.drop 1).cells (L.drop 1)), .slice r.A3 L.w1.length r.c3, .int .i64 0]) (by simp [results, Try.results22, go_sem, RV.cells, RV.drop, LS.drop]) rfl ⟨rfl, ((Kept.refl _ _).alloc _).alloc _⟩

end Go.Proofs.Ytchchgdkejolaaa
