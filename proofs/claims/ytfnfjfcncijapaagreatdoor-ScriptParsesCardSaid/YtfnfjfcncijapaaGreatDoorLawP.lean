/- law.ScriptParses. -/
import Derived.Test.YtfnfjfcncijapaaGreatDoorAwake
namespace Go.Proofs.YtfnfjfcncijapaaGreatDoor
open Go.RowKit Go.Shelf
attribute [local go_sem] Oper.semAt_some

set_option maxHeartbeats 4000000 in
set_option maxRecDepth 100000 in
theorem parses_main (s : ByteArray) (w : World) (hE : Env w) (t1 : Bool) (h1 : decide ((4000 : Int) < (s.size : Int)) = t1) (t2 : Bool) (h2 : decide ((s.size : Int) ≤ 65536) = t2) (ht : (t1 && t2) = false) :
    Calls Tryz.prog 3 #[.string s] w fun e w' => e = .returned (.bool true) ∧ Below w.heap.size w w' := by
  have CP := Lib.hid (parse_any s w hE)
  have CR := Lib.hid (fun w1 => rparse_any s w1)
  obtain ⟨k1, k2⟩ := parseS_ok s.data.toList
  have HAG := Lib.hid (parse_agree s.data.toList)
  have CA := Lib.hid (fun w1 h => awake_any w1 h)
  have HE := Lib.hid hE
  have HT := Lib.hid ht
  generalize parseS s.data.toList = r at CP HAG k1 k2
  obtain ⟨st, n, er⟩ := r
  dsimp only at k1 k2
  have K1 := Lib.hid k1
  clear hE k1 ht
  have main : ∀ (a : Act) (Q : Exit → Act → World → Prop), True := fun _ _ => trivial
  clear main
  go_enter Tryz.func3, Tryz.ntmps3
  cases t1 <;> cases t2
  case true.true => exact absurd HT.out (by decide)
  all_goals
    go_wp2_with fail
    refine CP.out.mono ?_
    clear CP
    rintro e w1 ⟨A, c, rfl, hc, hA, b1⟩
    go_wp2_with fail
    have CR1 := CR.out w1
    rw [HAG.out] at CR1
    refine CR1.mono ?_
    clear CR1 CR
    rintro e w2 ⟨B, cb, rfl, hcb, hB, b2⟩
    have bw2 := b1.trans (b2.mono b1.size)
    have HA2 := Lib.hid (hA.same (Kept.of_below b2))
    have HB2 := Lib.hid hB
    clear hA hB b1 b2
    go_wp2_with fail
    refine (CA.out w2 (HE.out.later bw2)).mono ?_
    clear CA
    rintro e w3 ⟨rfl, b3⟩
    have bw3 := bw2.trans (b3.mono bw2.size)
    have HA3 := Lib.hid (HA2.out.same (Kept.of_below b3))
    have HB3 := Lib.hid (HB2.out.same (Kept.of_below b3))
    have q1 : (er == er) = true := by simp
    have q2 : (n == n) = true := by simp
    clear b3 bw2 HA2 HB2
    go_wp2_with fail
    refine (plain_any c w3 HA3.out (by omega)).mono ?_
    rintro e w4 ⟨C, cc, rfl, hC, b4⟩
    have bw4 := bw3.trans (b4.mono bw3.size)
    have HC := Lib.hid hC
    have HB4 := Lib.hid (HB3.out.same (Kept.of_below b4))
    clear hC b4 HA3 HB3
    go_wp2_with fail
    refine (same_any cc cb w4 HC.out HB4.out (by omega) (by omega) (fun x hx => by have := (stepOk_args (K1.out x hx)).1; omega) (fun x hx => by have := (stepOk_args (K1.out x hx)).1; omega)).mono ?_
    rintro e w5 ⟨rfl, m, rfl⟩
    simp only [decide_true]
    go_wp2_with fail
    go_ret
    exact ⟨rfl, below_drewN bw4 m⟩

set_option maxHeartbeats 4000000 in
set_option maxRecDepth 100000 in
theorem parses_mid (s : ByteArray) (w : World) (hE : Env w) (h1 : decide ((4000 : Int) < (s.size : Int)) = true) (h2 : decide ((s.size : Int) ≤ 65536) = true) :
    Calls Tryz.prog 3 #[.string s] w fun e w' => e = .returned (.bool true) ∧ Below w.heap.size w w' := by
  have CA := Lib.hid (awake_any w hE)
  clear hE
  go_enter Tryz.func3, Tryz.ntmps3
  go_wp2_with fail
  refine CA.out.mono ?_
  rintro e w1 ⟨rfl, b1⟩
  go_wp2_with fail
  go_ret
  exact ⟨rfl, b1⟩

theorem parses_any (s : ByteArray) (w : World) (hE : Env w) : Calls Tryz.prog 3 #[.string s] w fun e w' => e = .returned (.bool true) ∧ Below w.heap.size w w' := by
  cases h1 : decide ((4000 : Int) < (s.size : Int)) <;> cases h2 : decide ((s.size : Int) ≤ 65536)
  · exact parses_main s w hE _ h1 _ h2 rfl
  · exact parses_main s w hE _ h1 _ h2 rfl
  · exact parses_main s w hE _ h1 _ h2 rfl
  · exact parses_mid s w hE h1 h2

end Go.Proofs.YtfnfjfcncijapaaGreatDoor
