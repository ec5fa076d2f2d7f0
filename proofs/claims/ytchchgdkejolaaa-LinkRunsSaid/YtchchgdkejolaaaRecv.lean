/- New, Send's early returns, Receive, Transcript, Spoil. -/
import Derived.Test.YtchchgdkejolaaaSend
import Derived.Laws.CopyOwn
namespace Go.Proofs.Ytchchgdkejolaaa
open Go.RowKit

set_option maxHeartbeats 400000 in
theorem new_no (b c : Int) (w : World) (h : b < 0 ∨ 1073741824 < b) :
    Calls Try.prog 10 #[.int .i64 b, .int .i64 c] w fun e w' => e = .returned (.tuple #[.pointer none, .int .i64 1]) ∧ w = w' := by
  rcases h with h | h
  · go_enter Try.func10, Try.ntmps10
    go_wp2
    go_ret2
    exact ⟨rfl, rfl⟩
  · have h' : ¬ b < 0 := by omega
    go_enter Try.func10, Try.ntmps10
    go_wp2
    go_ret2
    exact ⟨rfl, rfl⟩

def newCells (b c : Int) : Array Value := #[.slice none 0 0, .slice none 0 0, .slice none 0 0, .slice none 0 0, .int .i64 b, .int .i64 c, .bool false]

set_option maxHeartbeats 400000 in
theorem new_walk (b c : Int) (w : World) (h0 : 0 ≤ b) (h1 : b ≤ 1073741824) :
    Calls Try.prog 10 #[.int .i64 b, .int .i64 c] w fun e w' => e = .returned (.tuple #[.pointer (some ⟨w.heap.size, 0, none⟩), .int .i64 0]) ∧ w.alloc (.cells (newCells b c) 59) = w' := by
  go_enter Try.func10, Try.ntmps10
  go_wp2
  go_ret2
  exact ⟨rfl, rfl⟩

set_option maxHeartbeats 400000 in
theorem send_no (p : Option Addr) (n : Int) (x : Value) (w : World) (h0 : (n == 0) = false) (h1 : (n == 1) = false) :
    Calls Try.prog 12 #[.pointer p, .int .i64 n, x] w fun e w' => e = .returned (.tuple #[.int .i64 0, .int .i64 1]) ∧ w = w' := by
  go_enter Try.func12, Try.ntmps12
  go_wp2_with (go_at_call 25; refine (isSide_no n _ h0 h1).mono ?_; rintro e w' ⟨rfl, rfl⟩)
  go_ret2
  exact ⟨rfl, rfl⟩

set_option maxHeartbeats 400000 in
theorem send_down (p : Nat) (n : Int) (x : Value) (w : World) (h : n = 0 ∨ n = 1) (k6 : w.cell? ⟨p, 6, none⟩ = some (.bool true)) :
    Calls Try.prog 12 #[.pointer (some ⟨p, 0, none⟩), .int .i64 n, x] w fun e w' => e = .returned (.tuple #[.int .i64 0, .int .i64 15]) ∧ w = w' := by
  go_enter Try.func12, Try.ntmps12
  go_wp2_with (go_at_call 25; refine (isSide_yes n _ h).mono ?_; rintro e w' ⟨rfl, rfl⟩)
  go_ret2
  exact ⟨rfl, rfl⟩

set_option maxHeartbeats 400000 in
theorem send_full {F : Nat → Prop} {p : Nat} {L : LS} {w : World} {v0 v1 v2 v3 : Value} (hok : L.ok) (r : Rep w F p L v0 v1 v2 v3) (n : Int) (X : Option Addr) (m c : Nat) (h : n = 0 ∨ n = 1) (hd : L.down = false)
    (hf : L.budget - ((L.s0.length : Int) + L.s1.length) < m) :
    Calls Try.prog 12 #[.pointer (some ⟨p, 0, none⟩), .int .i64 n, .slice X m c] w fun e w' => e = .returned (.tuple #[.int .i64 0, .int .i64 7]) ∧ Kept NoF w w' := by
  have k6 : w.cell? ⟨p, 6, none⟩ = some (.bool L.down) := (r.blk.cell 6).trans rfl
  rw [hd] at k6
  clear hd
  go_enter Try.func12, Try.ntmps12
  go_wp2_with (go_at_call 25; refine (isSide_yes n _ h).mono ?_; rintro e w' ⟨rfl, rfl⟩)
  refine (left_any hok r).mono ?_
  rintro e w1 ⟨rfl, kw1⟩
  go_wp2_with fail
  go_ret2
  exact ⟨rfl, kw1⟩

set_option maxHeartbeats 400000 in
theorem recv_no (p : Option Addr) (n : Int) (w : World) (h0 : (n == 0) = false) (h1 : (n == 1) = false) :
    Calls Try.prog 13 #[.pointer p, .int .i64 n] w fun e w' => e = .returned (.tuple #[.slice none 0 0, .int .i64 1]) ∧ w = w' := by
  go_enter Try.func13, Try.ntmps13
  go_wp2_with (go_at_call 25; refine (isSide_no n _ h0 h1).mono ?_; rintro e w' ⟨rfl, rfl⟩)
  go_ret2
  exact ⟨rfl, rfl⟩

set_option maxHeartbeats 400000 in
theorem tran_no (p : Option Addr) (n : Int) (w : World) (h0 : (n == 0) = false) (h1 : (n == 1) = false) :
    Calls Try.prog 18 #[.pointer p, .int .i64 n] w fun e w' => e = .returned (.slice none 0 0) ∧ w = w' := by
  go_enter Try.func18, Try.ntmps18
  go_wp2_with (go_at_call 25; refine (isSide_no n _ h0 h1).mono ?_; rintro e w' ⟨rfl, rfl⟩)
  go_ret
  exact ⟨rfl, rfl⟩

end Go.Proofs.Ytchchgdkejolaaa
