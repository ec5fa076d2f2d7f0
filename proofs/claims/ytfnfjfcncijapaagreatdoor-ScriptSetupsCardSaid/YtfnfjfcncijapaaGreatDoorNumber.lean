/- kinkeepref56.Number (printed by gennumber.py). -/
import Derived.Test.YtfnfjfcncijapaaGreatDoorNumP
import Derived.Test.YtfnfjfcncijapaaGreatDoorTexts
namespace Go.Proofs.YtfnfjfcncijapaaGreatDoor
open Go.RowKit Go.Shelf
attribute [local go_sem] Oper.semAt_some

/-- Behind the test of the form. -/
def BadCut (w : World) (b : Bool) (v : Value) (wx : World) : Prop := v = .bool b ∧ wx = w
/-- The number so far. -/
def NumRel (w : World) (ds : List UInt8) (n i : Value) (wr : World) : Prop := ∃ j u : Nat, j ≤ ds.length ∧ i = .int .i64 (j : Int) ∧ n = .int .u64 (u : Int) ∧ decV 0 ds = decV u (ds.drop j) ∧ u < 10 ^ j ∧ wr = w
def NumPost (r : Int × Bool) (w : World) (e : Ending) (w' : World) : Prop := e = .returned (.tuple #[.int .i64 r.1, .bool r.2]) ∧ w' = w
/-- The test of the form. -/
def formBad (l ds : List UInt8) : Bool := decide (ds = [] ∨ 19 < ds.length ∨ (ds.head? = some 48 ∧ l ≠ [48]))

theorem digs_minus {l : List UInt8} {r : List UInt8} (h : l = 45 :: r) : digsOf l = (true, r) := by subst h; rfl
theorem digs_other {l : List UInt8} (h : l.head? ≠ some 45) : digsOf l = (false, l) := by
  cases l with
  | nil => rfl
  | cons c r =>
    show (if c = 45 then (true, r) else (false, c :: r)) = (false, c :: r)
    rw [if_neg (fun e => h (by simp [e]))]
theorem numR_bad {l ds : List UInt8} {neg : Bool} (hd : digsOf l = (neg, ds)) (h : formBad l ds = true) : numR l = (0, false) := by
  unfold numR; rw [hd]; exact if_pos (of_decide_eq_true h)
theorem numR_none {l ds : List UInt8} {neg : Bool} (hd : digsOf l = (neg, ds)) (h : decV 0 ds = none) : numR l = (0, false) := by
  unfold numR
  rw [hd]
  dsimp only
  split
  · rfl
  · rw [h]
theorem numR_some {l ds : List UInt8} {neg : Bool} {n : Nat} (hd : digsOf l = (neg, ds)) (h0 : formBad l ds = false) (h : decV 0 ds = some n) :
    numR l = if (neg = true ∧ 9223372036854775808 < n) ∨ (neg = false ∧ 9223372036854775807 < n) then (0, false) else (if neg = true then -(n : Int) else n, true) := by
  unfold numR
  rw [hd]
  dsimp only
  rw [if_neg (of_decide_eq_false h0), h]
theorem neg_wrap {u : Nat} (h : u ≤ 9223372036854775808) : wrap64 (IntKind.u64.wrap (-(u : Int))) = -(u : Int) := by
  rw [IntKind.wrap_u64]
  unfold wrap64
  omega
theorem head_at (d : ByteArray) (h : 0 < d.size) : d.data.toList.head? = some d[0] := by
  obtain ⟨⟨l⟩⟩ := d
  cases l with
  | nil => exact absurd h (by decide)
  | cons c r => rfl
theorem size0 {d : ByteArray} : d.size = 0 ↔ d.data.toList = [] := by rw [size_list]; exact List.length_eq_zero_iff

set_option maxHeartbeats 2000000 in
set_option maxRecDepth 100000 in
theorem number_any (s : ByteArray) (w : World) (hs : s.size ≤ 9223372036854775807) : Calls Tryz.prog 64 #[.string s] w (NumPost (numR s.data.toList) w) := by
  by_cases h45 : s.data.toList.head? = some 45
  · obtain ⟨r, hr⟩ : ∃ r, s.data.toList = 45 :: r := by
      cases h : s.data.toList with
      | nil => rw [h] at h45; cases h45
      | cons c r => rw [h] at h45; simp only [List.head?_cons, Option.some.injEq] at h45; exact ⟨r, by rw [h45]⟩
    have hpos : 0 < s.size := by rw [size_list, hr]; simp
    have h0 := head_at s hpos
    rw [h45] at h0
    injection h0 with h0
    have n0 : ((s[0].toNat : Int) == 45) = true := by rw [← h0]; rfl
    have n1 : s.toList.isEmpty = false := by rw [Lib.toList_data, hr]; rfl
    have hd : digsOf s.data.toList = (true, (s.extract 1 s.size).data.toList) := by rw [digs_minus hr, extract_end, hr]; rfl
    have hp1 : (1 : Int) ≤ (s.size : Int) := by omega
    have hH := Lib.hid h0
    clear h45 hr h0 hH
    go_enter Tryz.func64, Tryz.ntmps64
    go_upto_region 4 with fail
    generalize s.extract 1 s.size = d at hd ⊢
    have HD := Lib.hid hd
    clear hd
    go_cut [33] from 18 to 33 (BadCut w (formBad s.data.toList d.data.toList))
    case first =>
      by_cases e0 : d.size = 0
      · have t0 : d.toList.isEmpty = true := by rw [Lib.toList_data, size0.1 e0]; rfl
        have hb : formBad s.data.toList d.data.toList = true := decide_eq_true (.inl (size0.1 e0))
        have HB := Lib.hid hb
        clear hb
        go_wp2_with fail
        go_meet
        exact ⟨by rw [HB.out], rfl⟩
      · have hne : d.data.toList ≠ [] := fun h => e0 (size0.2 h)
        have t0 : d.toList.isEmpty = false := by rw [Lib.toList_data]; simpa using hne
        have hpos : 0 < d.size := by omega
        by_cases e1 : 19 < d.size
        · have t1 : decide (19 < (d.size : Int)) = true := by simp; omega
          have hb : formBad s.data.toList d.data.toList = true := decide_eq_true (.inr (.inl (by rw [← size_list]; exact e1)))
          have HB := Lib.hid hb
          clear hb hne
          go_wp2_with fail
          go_meet
          exact ⟨by rw [HB.out], rfl⟩
        · have t1 : decide (19 < (d.size : Int)) = false := by simp; omega
          have h0 := head_at d hpos
          have h256 : d[0].toNat < 256 := d[0].toNat_lt
          by_cases e2 : d[0] = 48
          · have t2 : ((d[0].toNat : Int) == 48) = true := by rw [e2]; rfl
            rw [e2] at h0
            by_cases e3 : s.data.toList = [48]
            · have t3 : (s.toList == ([48] : List UInt8)) = true := by rw [Lib.toList_data, e3]; rfl
              have hb : formBad s.data.toList d.data.toList = false := decide_eq_false (by rintro (h | h | h); exact hne h; rw [← size_list] at h; omega; exact h.2 e3)
              have HB := Lib.hid hb
              clear hb e3 e2 hne h0
              go_wp2_with fail
              go_meet
              exact ⟨by rw [HB.out], rfl⟩
            · have t3 : (s.toList == ([48] : List UInt8)) = false := by rw [Lib.toList_data]; simpa using e3
              have hb : formBad s.data.toList d.data.toList = true := decide_eq_true (.inr (.inr ⟨h0, e3⟩))
              have HB := Lib.hid hb
              clear hb e3 e2 hne h0
              go_wp2_with fail
              go_meet
              exact ⟨by rw [HB.out], rfl⟩
          · have t2 : ((d[0].toNat : Int) == 48) = false := by
              simp only [beq_eq_false_iff_ne, ne_eq]; exact fun e => e2 (UInt8.toNat_inj.1 (by show _ = 48; omega))
            have hb : formBad s.data.toList d.data.toList = false := decide_eq_false (by
              rintro (h | h | h)
              · exact hne h
              · rw [← size_list] at h; omega
              · rw [h0] at h; exact e2 (by simpa using h.1))
            have HB := Lib.hid hb
            clear hb e2 hne h0
            go_wp2_with fail
            go_meet
            exact ⟨by rw [HB.out], rfl⟩
    case rest =>
      obtain ⟨rfl, rfl⟩ := hcut
      cases hbad : formBad s.data.toList d.data.toList
      case true =>
        have HN := Lib.hid (numR_bad HD.out hbad)
        clear hbad
        go_wp2_with fail
        go_ret2
        exact ⟨by rw [HN.out]; rfl, rfl⟩
      case false =>
        have hlen : d.data.toList.length ≤ 19 := by
          have := of_decide_eq_false hbad
          omega
        have HBAD := Lib.hid hbad
        clear hbad
        rw [← size_list] at hlen
        go_wp2_with fail
        go_loopw [6, 7] (NumRel wc d.data.toList) (fun _ i _ => d.size - (intOf i).toNat)
        case atStart => exact ⟨0, 0, Nat.zero_le _, rfl, rfl, rfl, by omega, rfl⟩
        case round =>
          obtain ⟨j, u, hj, rfl, rfl, hdec, hu, rfl⟩ := hrel
          rw [← size_list] at hj
          have HDEC := Lib.hid hdec
          clear hdec
          by_cases hlt : j < d.size
          · have hc : d[j].toNat < 256 := d[j].toNat_lt
            have hd1 := drop_get d j hlt
            have hu18 : u < 1000000000000000000 := Nat.lt_of_lt_of_le hu (Nat.pow_le_pow_right (by omega) (show j ≤ 18 by omega))
            by_cases hdg : 48 ≤ d[j].toNat ∧ d[j].toNat ≤ 57
            · have t1 : decide ((d[j].toNat : Int) < 48) = false := by simp; omega
              have t2 : decide (57 < (d[j].toNat : Int)) = false := by simp; omega
              have hstep : decV 0 d.data.toList = decV (u * 10 + (d[j].toNat - 48)) (d.data.toList.drop (j + 1)) := by
                rw [HDEC.out, hd1]; exact if_pos hdg
              have hu' : u * 10 + (d[j].toNat - 48) < 10 ^ (j + 1) := by rw [Nat.pow_succ]; omega
              obtain ⟨a1, a2⟩ := hdg
              have HSTEP := Lib.hid hstep
              have HU := Lib.hid hu'
              clear hstep hu' hd1 HDEC hu
              go_wp2_with fail
              go_roundw
              case rel => exact ⟨j + 1, u * 10 + (d[j].toNat - 48), by rw [← size_list]; omega, by go_num, by congr 1; omega, HSTEP.out, HU.out, rfl⟩
              case measure => simp [intOf]; omega
            · have hn : decV 0 d.data.toList = none := by rw [HDEC.out, hd1]; exact if_neg hdg
              have HN := Lib.hid (numR_none HD.out hn)
              clear hn hd1 HDEC hu
              by_cases h48 : d[j].toNat < 48
              · have t1 : decide ((d[j].toNat : Int) < 48) = true := by simp; omega
                clear hdg
                go_wp2_with fail
                go_ret2
                exact ⟨by rw [HN.out]; rfl, rfl⟩
              · have t1 : decide ((d[j].toNat : Int) < 48) = false := by simp; omega
                have t2 : decide (57 < (d[j].toNat : Int)) = true := by simp; omega
                clear hdg
                go_wp2_with fail
                go_ret2
                exact ⟨by rw [HN.out]; rfl, rfl⟩
          · have hj' : j = d.size := by omega
            have hn : decV 0 d.data.toList = some u := by rw [HDEC.out, hj', size_list, List.drop_length]; rfl
            have hR := numR_some HD.out HBAD.out hn
            have hu19 : u < 10000000000000000000 := Nat.lt_of_lt_of_le hu (Nat.pow_le_pow_right (by omega) (show j ≤ 19 by omega))
            clear hn HDEC hu
            subst hj'
            by_cases hbig : 9223372036854775808 < u
            · have t1 : decide (9223372036854775808 < (u : Int)) = true := by simp; omega
              rw [if_pos (.inl ⟨rfl, hbig⟩)] at hR
              have HN := Lib.hid hR
              clear hR
              go_wp2_with fail
              go_ret2
              exact ⟨by rw [HN.out]; rfl, rfl⟩
            · have t1 : decide (9223372036854775808 < (u : Int)) = false := by simp; omega
              rw [if_neg (by simp; omega)] at hR
              have HN := Lib.hid hR
              clear hR
              go_wp2_with fail
              go_ret2
              refine ⟨?_, rfl⟩
              rw [HN.out]
              show Ending.returned (.tuple #[.int .i64 (wrap64 (IntKind.u64.wrap (-(u : Int)))), .bool true]) = .returned (.tuple #[.int .i64 (-(u : Int)), .bool true])
              rw [neg_wrap (by omega)]
  · have hd : digsOf s.data.toList = (false, s.data.toList) := digs_other h45
    have hc : (s.size = 0 ∧ s.toList.isEmpty = true) ∨ (∃ h : 0 < s.size, s.toList.isEmpty = false ∧ ((s[0].toNat : Int) == 45) = false) := by
      by_cases e0 : s.size = 0
      · exact .inl ⟨e0, by rw [Lib.toList_data, size0.1 e0]; rfl⟩
      · refine .inr ⟨by omega, by rw [Lib.toList_data]; simpa using fun h => e0 (size0.2 h), ?_⟩
        have h0 := head_at s (by omega)
        rw [h0] at h45
        have h256 : s[0].toNat < 256 := s[0].toNat_lt
        simp only [beq_eq_false_iff_ne, ne_eq]
        exact fun e => h45 (by congr 1; exact UInt8.toNat_inj.1 (by show _ = 45; omega))
    clear h45
    go_enter Tryz.func64, Tryz.ntmps64
    go_upto_region 2 with fail
    go_cut [15] from 9 to 15 (BadCut w false)
    case first =>
      rcases hc with ⟨c0, c1⟩ | ⟨c0, c1, c2⟩
      · go_wp2_with fail
        go_meet
        exact ⟨rfl, rfl⟩
      · go_wp2_with fail
        go_meet
        exact ⟨rfl, rfl⟩
    case rest =>
      obtain ⟨rfl, rfl⟩ := hcut
      clear hc
      go_upto_region 4 with fail
      obtain ⟨wc0, hwc0⟩ : ∃ x, x = wc := ⟨_, rfl⟩
      subst hwc0
      have HD := Lib.hid hd
      clear hd
      go_cut [33] from 18 to 33 (BadCut wc0 (formBad s.data.toList s.data.toList))
      case first =>
        by_cases e0 : s.size = 0
        · have t0 : s.toList.isEmpty = true := by rw [Lib.toList_data, size0.1 e0]; rfl
          have hb : formBad s.data.toList s.data.toList = true := decide_eq_true (.inl (size0.1 e0))
          have HB := Lib.hid hb
          clear hb
          go_wp2_with fail
          go_meet
          exact ⟨by rw [HB.out], rfl⟩
        · have hne : s.data.toList ≠ [] := fun h => e0 (size0.2 h)
          have t0 : s.toList.isEmpty = false := by rw [Lib.toList_data]; simpa using hne
          have hpos : 0 < s.size := by omega
          by_cases e1 : 19 < s.size
          · have t1 : decide (19 < (s.size : Int)) = true := by simp; omega
            have hb : formBad s.data.toList s.data.toList = true := decide_eq_true (.inr (.inl (by rw [← size_list]; exact e1)))
            have HB := Lib.hid hb
            clear hb hne
            go_wp2_with fail
            go_meet
            exact ⟨by rw [HB.out], rfl⟩
          · have t1 : decide (19 < (s.size : Int)) = false := by simp; omega
            have h0 := head_at s hpos
            have h256 : s[0].toNat < 256 := s[0].toNat_lt
            by_cases e2 : s[0] = 48
            · have t2 : ((s[0].toNat : Int) == 48) = true := by rw [e2]; rfl
              rw [e2] at h0
              by_cases e3 : s.data.toList = [48]
              · have t3 : (s.toList == ([48] : List UInt8)) = true := by rw [Lib.toList_data, e3]; rfl
                have hb : formBad s.data.toList s.data.toList = false := decide_eq_false (by rintro (h | h | h); exact hne h; rw [← size_list] at h; omega; exact h.2 e3)
                have HB := Lib.hid hb
                clear hb e3 e2 hne h0
                go_wp2_with fail
                go_meet
                exact ⟨by rw [HB.out], rfl⟩
              · have t3 : (s.toList == ([48] : List UInt8)) = false := by rw [Lib.toList_data]; simpa using e3
                have hb : formBad s.data.toList s.data.toList = true := decide_eq_true (.inr (.inr ⟨h0, e3⟩))
                have HB := Lib.hid hb
                clear hb e3 e2 hne h0
                go_wp2_with fail
                go_meet
                exact ⟨by rw [HB.out], rfl⟩
            · have t2 : ((s[0].toNat : Int) == 48) = false := by
                simp only [beq_eq_false_iff_ne, ne_eq]; exact fun e => e2 (UInt8.toNat_inj.1 (by show _ = 48; omega))
              have hb : formBad s.data.toList s.data.toList = false := decide_eq_false (by
                rintro (h | h | h)
                · exact hne h
                · rw [← size_list] at h; omega
                · rw [h0] at h; exact e2 (by simpa using h.1))
              have HB := Lib.hid hb
              clear hb e2 hne h0
              go_wp2_with fail
              go_meet
              exact ⟨by rw [HB.out], rfl⟩
      case rest =>
        obtain ⟨rfl, rfl⟩ := hcut
        cases hbad : formBad s.data.toList s.data.toList
        case true =>
          have HN := Lib.hid (numR_bad HD.out hbad)
          clear hbad
          go_wp2_with fail
          go_ret2
          exact ⟨by rw [HN.out]; rfl, rfl⟩
        case false =>
          have hlen : s.data.toList.length ≤ 19 := by
            have := of_decide_eq_false hbad
            omega
          have HBAD := Lib.hid hbad
          clear hbad
          rw [← size_list] at hlen
          go_wp2_with fail
          go_loopw [6, 7] (NumRel wc s.data.toList) (fun _ i _ => s.size - (intOf i).toNat)
          case atStart => exact ⟨0, 0, Nat.zero_le _, rfl, rfl, rfl, by omega, rfl⟩
          case round =>
            obtain ⟨j, u, hj, rfl, rfl, hdec, hu, rfl⟩ := hrel
            rw [← size_list] at hj
            have HDEC := Lib.hid hdec
            clear hdec
            by_cases hlt : j < s.size
            · have hc : s[j].toNat < 256 := s[j].toNat_lt
              have hd1 := drop_get s j hlt
              have hu18 : u < 1000000000000000000 := Nat.lt_of_lt_of_le hu (Nat.pow_le_pow_right (by omega) (show j ≤ 18 by omega))
              by_cases hdg : 48 ≤ s[j].toNat ∧ s[j].toNat ≤ 57
              · have t1 : decide ((s[j].toNat : Int) < 48) = false := by simp; omega
                have t2 : decide (57 < (s[j].toNat : Int)) = false := by simp; omega
                have hstep : decV 0 s.data.toList = decV (u * 10 + (s[j].toNat - 48)) (s.data.toList.drop (j + 1)) := by
                  rw [HDEC.out, hd1]; exact if_pos hdg
                have hu' : u * 10 + (s[j].toNat - 48) < 10 ^ (j + 1) := by rw [Nat.pow_succ]; omega
                obtain ⟨a1, a2⟩ := hdg
                have HSTEP := Lib.hid hstep
                have HU := Lib.hid hu'
                clear hstep hu' hd1 HDEC hu
                go_wp2_with fail
                go_roundw
                case rel => exact ⟨j + 1, u * 10 + (s[j].toNat - 48), by rw [← size_list]; omega, by go_num, by congr 1; omega, HSTEP.out, HU.out, rfl⟩
                case measure => simp [intOf]; omega
              · have hn : decV 0 s.data.toList = none := by rw [HDEC.out, hd1]; exact if_neg hdg
                have HN := Lib.hid (numR_none HD.out hn)
                clear hn hd1 HDEC hu
                by_cases h48 : s[j].toNat < 48
                · have t1 : decide ((s[j].toNat : Int) < 48) = true := by simp; omega
                  clear hdg
                  go_wp2_with fail
                  go_ret2
                  exact ⟨by rw [HN.out]; rfl, rfl⟩
                · have t1 : decide ((s[j].toNat : Int) < 48) = false := by simp; omega
                  have t2 : decide (57 < (s[j].toNat : Int)) = true := by simp; omega
                  clear hdg
                  go_wp2_with fail
                  go_ret2
                  exact ⟨by rw [HN.out]; rfl, rfl⟩
            · have hj' : j = s.size := by omega
              have hn : decV 0 s.data.toList = some u := by rw [HDEC.out, hj', size_list, List.drop_length]; rfl
              have hR := numR_some HD.out HBAD.out hn
              have hu19 : u < 10000000000000000000 := Nat.lt_of_lt_of_le hu (Nat.pow_le_pow_right (by omega) (show j ≤ 19 by omega))
              clear hn HDEC hu
              subst hj'
              by_cases hbig : 9223372036854775807 < u
              · have t1 : decide (9223372036854775807 < (u : Int)) = true := by simp; omega
                rw [if_pos (.inr ⟨rfl, hbig⟩)] at hR
                have HN := Lib.hid hR
                clear hR
                go_wp2_with fail
                go_ret2
                exact ⟨by rw [HN.out]; rfl, rfl⟩
              · have t1 : decide (9223372036854775807 < (u : Int)) = false := by simp; omega
                rw [if_neg (by simp; omega)] at hR
                have HN := Lib.hid hR
                clear hR
                go_wp2_with fail
                go_ret2
                refine ⟨?_, rfl⟩
                rw [HN.out]
                show Ending.returned (.tuple #[.int .i64 ((u : Int)), .bool true]) = .returned (.tuple #[.int .i64 ((u : Int)), .bool true])
                rfl

end Go.Proofs.YtfnfjfcncijapaaGreatDoor
