/- The walk of LinkBounds. -/
import Derived.Test.YtchchgdkejolaaaFew
import Derived.Test.YtchchgdkejolaaaLawD
import Derived.Test.YtchchgdkejolaaaWalkB
import Derived.Deep.RegionHeld3
namespace Go.Proofs.Ytchchgdkejolaaa
open Go.RowKit

set_option maxHeartbeats 1000000 in
set_option maxRecDepth 100000 in
theorem bounds_no (b c : Int) (ls : Value) (w : World) (h : b < 0 ∨ 1073741824 < b) :
    Calls Try.prog 4 #[.int .i64 b, .int .i64 c, ls] w fun e w' => e = .returned (.bool true) ∧ Below w.heap.size w w' := by
  go_enter Try.func4, Try.ntmps4
  go_wp2_with fail
  refine (new_no b c _ h).mono ?_
  rintro e w1 ⟨rfl, rfl⟩
  go_wp2_with fail
  refine (awake_any _).mono ?_
  rintro e w3 ⟨rfl, k3⟩
  go_wp2_with fail
  refine (awake_any _).mono ?_
  rintro e w4 ⟨rfl, k4⟩
  go_wp2_with fail
  go_ret
  exact ⟨rfl, k3.trans (k4.mono k3.size)⟩

set_option maxHeartbeats 1000000 in
set_option maxRecDepth 100000 in
theorem bounds_many (b c : Int) (A : Option Addr) (cap : Nat) (ops : List OpD) (w : World) (h0 : 0 ≤ b) (h1 : b ≤ 1073741824) (l0 : -9223372036854775808 ≤ c) (l1 : c ≤ 9223372036854775807)
    (hops : OpsAt w A ops) (hf : fewB ops = false) :
    Calls Try.prog 4 #[.int .i64 b, .int .i64 c, .slice A ops.length cap] w fun e w' => e = .returned (.bool true) ∧ Below w.heap.size w w' := by
  have HF := Lib.hid hf
  clear hf
  go_enter Try.func4, Try.ntmps4
  go_wp2_with fail
  refine (new_any b c _ h0 h1 l0 l1).mono ?_
  rintro e w1 ⟨rfl, a1, k1, s1⟩
  clear s1
  go_wp2_with fail
  refine (awake_any _).mono ?_
  rintro e w3 ⟨rfl, k3⟩
  have b3 : Below w.heap.size w w3 := nof_below (k1.trans (Kept.of_below k3) (fun _ h => .inl h))
  have C := few_any A cap ops w3 (hops.below b3)
  rw [HF.out] at C
  have H := Lib.hid C
  clear C
  go_wp2_with fail
  refine H.out.mono ?_
  rintro e w4 ⟨rfl, rfl⟩
  go_wp2_with fail
  refine (awake_any _).mono ?_
  rintro e w5 ⟨rfl, k5⟩
  go_wp2_with fail
  go_ret
  exact ⟨rfl, b3.trans (k5.mono b3.size)⟩

theorem more_ge {F : Nat → Prop} {B : Nat} {wl w' : World} (hF : ∀ k, F k → B ≤ k) (hs : B ≤ wl.heap.size) : ∀ k, More F wl w' k → B ≤ k := by
  rintro k (h | h)
  · exact hF k h
  · omega

def BoundsRel (w : World) (b c : Int) (n : Nat) (i : Value) (wr : World) : Prop :=
  ∃ (j : Nat) (F : Nat → Prop) (L : LS), j ≤ n ∧ i = .int .i64 (j : Int) ∧ LinkAt wr F w.heap.size L ∧ (∀ k, F k → w.heap.size ≤ k) ∧ L.budget = b ∧ L.cut = c ∧ DownInv L ∧ Below w.heap.size w wr

theorem sent_left' {F : Nat → Prop} {p : Nat} {L : LS} {w : World} (h : LinkAt w F p L) {b : Int} {n0 n1 : Nat} (hb : L.budget = b) (h0 : n0 = (L.sent 0).length) (h1 : n1 = (L.sent 1).length) :
    Calls Try.prog 14 #[.pointer (some ⟨p, 0, none⟩)] w fun e w' => e = .returned (.int .i64 (b - ((n0 : Int) + n1))) ∧ Kept NoF w w' := by
  refine (left_link h).mono ?_
  rintro e w' ⟨rfl, n, rfl⟩
  rw [← sent_total, ← h0, ← h1, hb]
  exact ⟨rfl, (Kept.refl _ _).drewN n⟩

theorem sent_left {F : Nat → Prop} {p : Nat} {L : LS} {w : World} (h : LinkAt w F p L) {b : Int} {n0 n1 : Nat} (hb : L.budget = b) (h0 : (L.sent 0).length = n0) (h1 : (L.sent 1).length = n1) :
    Calls Try.prog 14 #[.pointer (some ⟨p, 0, none⟩)] w fun e w' => e = .returned (.int .i64 (b - ((n0 : Int) + n1))) ∧ Kept NoF w w' := by
  refine (left_link h).mono ?_
  rintro e w' ⟨rfl, n, rfl⟩
  rw [← sent_total, h0, h1, hb]
  exact ⟨rfl, (Kept.refl _ _).drewN n⟩

set_option maxHeartbeats 4000000 in
set_option maxRecDepth 100000 in
theorem bounds_few (b c : Int) (A : Option Addr) (cap : Nat) (ops : List OpD) (w : World) (h0 : 0 ≤ b) (h1 : b ≤ 1073741824) (l0 : -9223372036854775808 ≤ c) (l1 : c ≤ 9223372036854775807)
    (hops : OpsAt w A ops) (hf : fewB ops = true) :
    Calls Try.prog 4 #[.int .i64 b, .int .i64 c, .slice A ops.length cap] w fun e w' => e = .returned (.bool true) ∧ Below w.heap.size w w' := by
  have HF := Lib.hid hf
  clear hf
  have hlen := hops.1
  go_enter Try.func4, Try.ntmps4
  go_wp2_with fail
  refine (new_any b c _ h0 h1 l0 l1).mono ?_
  rintro e w1 ⟨rfl, a1, k1, s1⟩
  clear s1
  go_wp2_with fail
  refine (awake_any _).mono ?_
  rintro e w3 ⟨rfl, k3⟩
  have b3 : Below w.heap.size w w3 := nof_below (k1.trans (Kept.of_below k3) (fun _ h => .inl h))
  have a3 := a1.kept (Kept.of_below (F := NoF) k3) (fun _ _ h => h)
  have C := few_any A cap ops w3 (hops.below b3)
  rw [HF.out] at C
  have H := Lib.hid C
  clear C
  go_wp2_with fail
  refine H.out.mono ?_
  rintro e w4 ⟨rfl, rfl⟩
  clear H
  go_wp2_with fail
  go_loopw [9] (BoundsRel w b c ops.length) (fun i _ => ops.length - (intOf i).toNat)
  case atStart => exact ⟨0, _, _, Nat.zero_le _, rfl, a3, fun k hk => by unfold NewF at hk; omega, rfl, rfl, fresh_downInv _ _, b3⟩
  case round =>
    obtain ⟨j, F, L, hj, rfl, l, hF, hLb, hLc, inv, bw⟩ := hrel
    by_cases hlt : j < ops.length
    · obtain ⟨b', off, X, cx, rfl, hbl, _, c1, c2, _, _, hcx, _, hr, _⟩ := hops.at_ hlt
      have k1 : wr.cell? ⟨b', off + j * 5 + 1, none⟩ = some (.int .i64 ops[j].side) := (bw.cell hbl).trans c1
      have k2 : wr.cell? ⟨b', off + j * 5 + 2, none⟩ = some (.slice X ops[j].xs.length cx) := (bw.cell hbl).trans c2
      have C := send_any (l.kept ((Kept.refl NoF wr).drew) (fun _ _ h => h)) ops[j].side X cx _ ops[j].xs rfl ((hr.below bw).more bw.size).drew (by
        intro ad e hp hf
        obtain ⟨ad', e', hlt', _⟩ := hr.2 hp
        rw [e] at e'
        injection e' with e'
        subst e'
        have := hF _ hf
        omega) hcx
      have hcs := bounds_cases L ops[j].side ops[j].xs
      have hkp := send_keeps L ops[j].side ops[j].xs
      have inv' := send_downInv inv l.isok ops[j].side ops[j].xs
      generalize L.send ops[j].side ops[j].xs = r at C hcs hkp inv'
      have H := Lib.hid C
      clear C c1 c2 hr hcx
      generalize ops[j].side = sd at k1 H
      generalize ops[j].xs.length = nx at k2 H
      have D := Lib.hid (down_link l)
      have HK := Lib.hid hkp
      have HLb := Lib.hid hLb
      have HLc := Lib.hid hLc
      clear hkp hLb hLc
      go_wp2_with (go_at_call 15; refine D.out.mono ?_; rintro e w5 ⟨rfl, rfl⟩)
      go_region_held3 (fun w' => w'.cell? ⟨b', off + j * 5 + 1, none⟩ = some (.int .i64 sd) ∧ w'.cell? ⟨b', off + j * 5 + 2, none⟩ = some (.slice X nx cx))
        (first | exact ⟨k1, k2⟩ | exact ⟨(hbn.cell hbl).trans k1, (hbn.cell hbl).trans k2⟩)
        (first | (go_at_call 12; refine H.out.mono ?_; rintro e w4 ⟨rfl, l4, k4⟩; have hbn : Below w.heap.size wr w4 := (Below.refl _ _).drew.trans (k4.below bw.size hF)))
      have hmore := more_ge (w' := w4) hF bw.size
      have hbw4 : Below w.heap.size w w4 := bw.trans hbn
      have hb4 : r.1.budget = b := (HK.out.1).trans HLb.out
      have hc4 : r.1.cut = c := (HK.out.2).trans HLc.out
      have hok4 := l4.isok
      have htot := hok4.tot
      have hcuts := hok4.cuts
      rw [hb4] at htot
      rw [hc4] at hcuts
      have hdn : r.1.down = true → 0 ≤ c ∧ ((r.1.sent 0).length : Int) + ((r.1.sent 1).length : Int) = c := fun h => by
        have := inv' h
        rw [hc4, ← sent_total] at this
        exact this
      obtain ⟨n0, hn0⟩ : ∃ n0, n0 = (r.1.sent 0).length := ⟨_, rfl⟩
      obtain ⟨n1, hn1⟩ : ∃ n1, n1 = (r.1.sent 1).length := ⟨_, rfl⟩
      have htot' : (n0 : Int) + n1 ≤ b := by rw [hn0, hn1]; exact htot
      have hcuts' : 0 ≤ c → (n0 : Int) + n1 ≤ c := by rw [hn0, hn1]; exact hcuts
      rw [← hn0, ← hn1] at hdn
      have H0 := Lib.hid (sent_any l4 0)
      have H1 := Lib.hid (sent_any l4 1)
      rw [← hn0] at H0
      rw [← hn1] at H1
      have HL := Lib.hid (sent_left l4 hb4 hn0.symm hn1.symm)
      have HDn := Lib.hid (down_link l4)
      have HB4 := Lib.hid hb4
      have HC4 := Lib.hid hc4
      have HCT := Lib.hid hcuts'
      have HN0 := Lib.hid hn0
      have HN1 := Lib.hid hn1
      clear htot hcuts hn0 hn1 hb4 hc4 hok4 hcuts' H
      have e1 : (((n0 : Int) + n1 + (b - ((n0 : Int) + n1))) != b) = false := by simp; omega
      have e2 : decide (b - ((n0 : Int) + n1) < 0) = false := by simp; omega
      have e3 : 0 ≤ b - ((n0 : Int) + n1) := by omega
      obtain ⟨L', n', f'⟩ := r
      simp only at hcs hdn
      go_wp2_with fail
      refine H0.out.mono ?_
      rintro e w5 ⟨rfl, rfl⟩
      go_wp2_with fail
      refine H1.out.mono ?_
      rintro e w5 ⟨rfl, rfl⟩
      go_wp2_with fail
      refine HL.out.mono ?_
      rintro e w6 ⟨rfl, k6⟩
      have l6 := l4.kept k6 (fun _ _ h => h)
      have HL6 := Lib.hid (sent_left' l6 HB4.out HN0.out HN1.out)
      go_wp2_with fail
      refine HL6.out.mono ?_
      rintro e w7 ⟨rfl, k7⟩
      have l7 := l6.kept k7 (fun _ _ h => h)
      have hb7 : Below w.heap.size w w7 := hbw4.trans ((nof_below (k6.trans k7 (fun _ h => .inl h))).mono hbw4.size)
      have D7 := down_link l7
      have hrel' : ∀ i : Value, i = .int .i64 ((j + 1 : Nat) : Int) → BoundsRel w b c ops.length i w7 := fun i hi => ⟨j + 1, _, L', by omega, hi, l7, hmore, HB4.out, HC4.out, inv', hb7⟩
      have HR := Lib.hid hrel'
      clear hrel' HL HL6 H0 H1 HDn k6 k7 D inv' hmore hbw4 hb7 hbn
      rcases hcs with ⟨d', d, f15⟩ | d'
      · rw [d'] at D7
        have HD7 := Lib.hid D7
        rw [d]
        clear d d' D7 hdn
        by_cases hc : 0 ≤ c
        · have hcc := HCT.out hc
          have q1 : decide (0 ≤ c) = true := by simpa using hc
          have q2 : decide (c < (n0 : Int) + n1) = false := by simp; omega
          go_wp2_with (go_at_call 15; refine HD7.out.mono ?_; rintro e w8 ⟨rfl, rfl⟩)
          go_roundw
          case rel => exact HR.out _ (by go_num)
          case measure => simp [intOf]; omega
        · have q1 : decide (0 ≤ c) = false := by simp; omega
          go_wp2_with (go_at_call 15; refine HD7.out.mono ?_; rintro e w8 ⟨rfl, rfl⟩)
          go_roundw
          case rel => exact HR.out _ (by go_num)
          case measure => simp [intOf]; omega
      · obtain ⟨hc, hcc⟩ := hdn d'
        rw [d'] at D7
        have HD7 := Lib.hid D7
        clear D7 d' hdn
        have q1 : decide (0 ≤ c) = true := by simpa using hc
        have q2 : decide (c < (n0 : Int) + n1) = false := by simp; omega
        have q3 : (((n0 : Int) + n1) != c) = false := by simp; omega
        clear hcc
        rcases Bool.eq_false_or_eq_true L.down with hLd | hLd <;> rw [hLd] <;> clear hLd <;> rcases Bool.eq_false_or_eq_true (f' == 15) with hf | hf
        all_goals
          go_wp2_with (go_at_call 15; refine HD7.out.mono ?_; rintro e w8 ⟨rfl, rfl⟩)
          go_roundw
          case rel => exact HR.out _ (by go_num)
          case measure => simp [intOf]; omega
    · go_wp2_with fail
      go_ret
      exact ⟨rfl, bw⟩

end Go.Proofs.Ytchchgdkejolaaa
