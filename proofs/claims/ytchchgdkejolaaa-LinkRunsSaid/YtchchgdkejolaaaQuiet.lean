/- The calls on a link that only read: isSide, total, Left, Down, Sent. -/
import Derived.Test.YtchchgdkejolaaaProg
import Derived.Test.YtchchgdkejolaaaRep
import Derived.WalkKit
import Derived.WalkSpells
import Derived.WalkLawsBesides
import Derived.Deep.QuietTactic
import Derived.BigQuiet
import Derived.Lib.Hide
namespace Go.Proofs.Ytchchgdkejolaaa
open Go.RowKit

theorem ret_int {k : IntKind} {a b : Int} (h : a = b) : Ending.returned (.int k a) = .returned (.int k b) := by rw [h]

set_option maxHeartbeats 400000 in
theorem isSide_yes (n : Int) (w : World) (h : n = 0 ∨ n = 1) :
    Calls Try.prog 25 #[.int .i64 n] w fun e w' => e = .returned (.bool true) ∧ w = w' := by
  rcases h with rfl | rfl
  · go_enter Try.func25, Try.ntmps25
    go_wp2
    go_ret
    exact ⟨rfl, rfl⟩
  · go_enter Try.func25, Try.ntmps25
    go_wp2
    go_ret
    exact ⟨rfl, rfl⟩

set_option maxHeartbeats 400000 in
theorem isSide_no (n : Int) (w : World) (h0 : (n == 0) = false) (h1 : (n == 1) = false) :
    Calls Try.prog 25 #[.int .i64 n] w fun e w' => e = .returned (.bool false) ∧ w = w' := by
  go_enter Try.func25, Try.ntmps25
  go_wp2
  go_ret
  exact ⟨rfl, rfl⟩

set_option maxHeartbeats 400000 in
theorem total_walk (p n0 n1 c0 c1 : Nat) (A0 A1 : Option Addr) (w : World) (h0 : w.cell? ⟨p, 0, none⟩ = some (.slice A0 n0 c0)) (h2 : w.cell? ⟨p, 2, none⟩ = some (.slice A1 n1 c1))
    (hb : n0 + n1 ≤ 1073741824) :
    Calls Try.prog 26 #[.pointer (some ⟨p, 0, none⟩)] w fun e w' => e = .returned (.int .i64 ((n0 : Int) + n1)) ∧ ∃ n, w' = w.drewN n := by
  go_enter Try.func26, Try.ntmps26
  go_wp2
  go_quiet (fail)
  go_wp2
  go_ret
  exact ⟨rfl, _, rfl⟩

set_option maxHeartbeats 400000 in
theorem left_walk (p n0 n1 c0 c1 : Nat) (A0 A1 : Option Addr) (b : Int) (w : World) (h0 : w.cell? ⟨p, 0, none⟩ = some (.slice A0 n0 c0)) (h2 : w.cell? ⟨p, 2, none⟩ = some (.slice A1 n1 c1))
    (h4 : w.cell? ⟨p, 4, none⟩ = some (.int .i64 b)) (hb0 : 0 ≤ b) (hb1 : b ≤ 1073741824) (hb : n0 + n1 ≤ 1073741824) :
    Calls Try.prog 14 #[.pointer (some ⟨p, 0, none⟩)] w fun e w' => e = .returned (.int .i64 (b - ((n0 : Int) + n1))) ∧ ∃ n, w' = w.drewN n := by
  go_enter Try.func14, Try.ntmps14
  go_wp2_with fail
  go_quiet ((go_at_call 26; exact Calls.quiet_of (total_walk p n0 n1 c0 c1 A0 A1 _ h0 h2 hb)))
  go_wp2
  go_ret
  exact ⟨rfl, _, rfl⟩

set_option maxHeartbeats 400000 in
theorem down_walk (p : Nat) (d : Bool) (w : World) (h6 : w.cell? ⟨p, 6, none⟩ = some (.bool d)) :
    Calls Try.prog 15 #[.pointer (some ⟨p, 0, none⟩)] w fun e w' => e = .returned (.bool d) ∧ w = w' := by
  go_enter Try.func15, Try.ntmps15
  go_wp2
  go_ret
  exact ⟨rfl, rfl⟩

set_option maxHeartbeats 400000 in
theorem sent_no (p : Option Addr) (n : Int) (w : World) (h0 : (n == 0) = false) (h1 : (n == 1) = false) :
    Calls Try.prog 17 #[.pointer p, .int .i64 n] w fun e w' => e = .returned (.int .i64 0) ∧ w = w' := by
  go_enter Try.func17, Try.ntmps17
  go_wp2_with (go_at_call 25; refine (isSide_no n _ h0 h1).mono ?_; rintro e w' ⟨rfl, rfl⟩)
  go_ret
  exact ⟨rfl, rfl⟩

set_option maxHeartbeats 400000 in
theorem sent_0 (p n0 c0 : Nat) (A0 : Option Addr) (w : World) (h0 : w.cell? ⟨p, 0, none⟩ = some (.slice A0 n0 c0)) :
    Calls Try.prog 17 #[.pointer (some ⟨p, 0, none⟩), .int .i64 0] w fun e w' => e = .returned (.int .i64 n0) ∧ w = w' := by
  go_enter Try.func17, Try.ntmps17
  go_wp2_with (go_at_call 25; refine (isSide_yes 0 _ (.inl rfl)).mono ?_; rintro e w' ⟨rfl, rfl⟩)
  go_ret
  exact ⟨rfl, rfl⟩

set_option maxHeartbeats 400000 in
theorem sent_1 (p n0 c0 : Nat) (A0 : Option Addr) (w : World) (h0 : w.cell? ⟨p, 2, none⟩ = some (.slice A0 n0 c0)) :
    Calls Try.prog 17 #[.pointer (some ⟨p, 0, none⟩), .int .i64 1] w fun e w' => e = .returned (.int .i64 n0) ∧ w = w' := by
  go_enter Try.func17, Try.ntmps17
  go_wp2_with (go_at_call 25; refine (isSide_yes 1 _ (.inr rfl)).mono ?_; rintro e w' ⟨rfl, rfl⟩)
  go_ret
  exact ⟨rfl, rfl⟩

end Go.Proofs.Ytchchgdkejolaaa
