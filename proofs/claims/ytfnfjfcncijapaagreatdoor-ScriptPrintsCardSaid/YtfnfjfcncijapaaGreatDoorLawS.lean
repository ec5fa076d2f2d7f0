/- law.ScriptSpaces. -/
import Derived.Test.YtfnfjfcncijapaaGreatDoorAwake
import Derived.Test.YtfnfjfcncijapaaGreatDoorSpaceP
import Derived.Test.YtfnfjfcncijapaaGreatDoorStands
namespace Go.Proofs.YtfnfjfcncijapaaGreatDoor
open Go.RowKit Go.Shelf
attribute [local go_sem] Oper.semAt_some

theorem cat_ba (x y : List UInt8) (w : World) (h : x.length + y.length ≤ 9223372036854775807) : (Op.stringOp .add (ba x) (ba y)).run Tryz.prog w = .ok (.string (ba (x ++ y))) w := by
  rw [run_string_add_sum w _ _ (by rw [ba_size, ba_size]; exact h)]
  unfold ba
  rw [ByteArray.mk_append_mk]
theorem ba_one (s : ByteArray) (k : Nat) (h : k < s.size) : s.extract k (k + 1) = ba [s[k]] := by
  rw [ba_mid, drop_get s k h]
  simp

def cleanF (l : List UInt8) : List UInt8 := l.filter (fun x => x != 10)
theorem cleanF_ne (l : List UInt8) : ∀ x ∈ cleanF l, x ≠ 10 := by
  intro x hx
  have := (List.mem_filter.1 hx).2
  simpa using this
theorem cleanF_length (l : List UInt8) : (cleanF l).length ≤ l.length := List.length_filter_le _ _
def CleanRel (w : World) (note : List UInt8) (v i : Value) (wr : World) : Prop :=
  ∃ j : Nat, j ≤ note.length ∧ i = .int .i64 (j : Int) ∧ wr.ownsRow w.heap.size 5 1 v (cleanF (note.take j)).length (bvs (cleanF (note.take j))) ∧ Below w.heap.size w wr
def WideRel (w1 : World) (at_ : Nat) (clean text : List UInt8) (v i : Value) (wr : World) : Prop :=
  ∃ k : Nat, k ≤ text.length ∧ i = .int .i64 (k : Int) ∧ v = .string (ba (wideF at_ clean 0 (text.take k))) ∧ wr = w1
theorem cleanF_snoc {l : List UInt8} {j : Nat} (h : j < l.length) : cleanF (l.take (j + 1)) = if l[j] = 10 then cleanF (l.take j) else cleanF (l.take j) ++ [l[j]] := by
  unfold cleanF
  rw [List.take_succ_eq_append_getElem h, List.filter_append]
  split
  · next he => simp [he]
  · next he => simp [he]
theorem piece_length (at_ : Nat) (clean : List UInt8) (i : Nat) (x : UInt8) : (piece at_ clean i x).length ≤ 8 + clean.length := by
  unfold piece
  split <;> split <;> simp <;> omega
theorem wideF_length (at_ : Nat) (clean : List UInt8) : ∀ (l : List UInt8) (i : Nat), (wideF at_ clean i l).length ≤ (8 + clean.length) * l.length
  | [], i => by simp [wideF]
  | x :: l, i => by
    have h1 := wideF_length at_ clean l (i + 1)
    have h2 := piece_length at_ clean i x
    unfold wideF
    rw [List.length_append, List.length_cons, Nat.mul_succ]
    omega
theorem info5' : (Tryz.prog.info? 5).map (fun i => (i.zero, i.size, i.bytes)) = some (some (.int .u8 0), 1, 1) := info5

set_option maxHeartbeats 4000000 in
set_option maxRecDepth 100000 in
theorem spaces_main (s : ByteArray) (a : Nat) (note : ByteArray) (w : World) (hE : Env w) (ha : a ≤ 65535) (hs : s.size ≤ 2000) (hn : note.size ≤ 100) :
    Calls Tryz.prog 5 #[.string s, .int .u16 (a : Int), .string note] w fun e w' => e = .returned (.bool true) ∧ Below w.heap.size w w' := by
  obtain ⟨i0, hi, hz0, hz1, hz2⟩ := info_parts info5
  have t1 : decide ((2000 : Int) < (s.size : Int)) = false := by simp; omega
  have t2 : decide ((100 : Int) < (note.size : Int)) = false := by simp; omega
  have how0 : (w.alloc (.cells #[] 5)).ownsRow w.heap.size 5 1 (.slice (some ⟨w.heap.size, 0, none⟩) 0 0) 0 [] := World.ownsRow_made w #[] 0 (Nat.le_refl _) (by simp) (by simp)
  go_enter Tryz.func5, Tryz.ntmps5
  go_wp2_with fail
  go_loopw [7, 8] (CleanRel w note.data.toList) (fun _ i _ => note.size - (intOf i).toNat)
  case atStart => exact ⟨0, Nat.zero_le _, rfl, how0, (Below.refl _ _).alloc (Nat.le_refl _) _⟩
  case round =>
    clear how0
    obtain ⟨j, hj, rfl, how, hb⟩ := hrel
    rw [← size_list] at hj
    have hwz := hb.size
    by_cases hlt : j < note.size
    · have hlt' : j < note.data.toList.length := by rw [← size_list]; exact hlt
      have hsn := cleanF_snoc hlt'
      have hel := cleanF_length (note.data.toList.take j)
      rw [List.length_take] at hel
      have HSN := Lib.hid hsn
      clear hsn
      generalize hcl : cleanF (note.data.toList.take j) = cl at how HSN hel
      have hc : note[j].toNat < 256 := note[j].toNat_lt
      have hg : note.data.toList[j] = note[j] := rfl
      rw [hg] at HSN
      by_cases h10 : note[j] = 10
      · have q : ((note[j].toNat : Int) != 10) = false := by rw [h10]; rfl
        have hcl' : cleanF (note.data.toList.take (j + 1)) = cl := by rw [HSN.out, if_pos h10]
        have HC := Lib.hid hcl'
        clear hcl' HSN hcl
        go_wp2_with fail
        go_roundw
        case rel => exact ⟨j + 1, hlt', by go_num, by rw [HC.out]; exact how, hb⟩
        case measure => simp [intOf]; omega
      · have q : ((note[j].toNat : Int) != 10) = true := by
          simp only [bne_iff_ne, ne_eq]
          intro e
          exact h10 (UInt8.toNat_inj.1 (by show _ = 10; omega))
        have hcl' : cleanF (note.data.toList.take (j + 1)) = cl ++ [note[j]] := by rw [HSN.out, if_neg h10]
        have HC := Lib.hid hcl'
        clear hcl' HSN hcl h10
        go_wp2_with (at_builtin; refine wpList_append_own_at _ rfl _ _ 43 rfl w.heap.size 5 i0 (.int .u8 0) 1 1 Tryz.underlying43 hi hz0 hz1 hz2 rfl (by decide) _ _ _ rfl (how.alloc _) ⟨wr.heap.size, 0, none⟩ 1 1 [.int .u8 (note[j].toNat : Int)] rfl rfl ?d1 ?d2 ?d3 ?d4 ?d5 ?_)
        case d1 => exact cell_one_new _ _ _
        case d2 => intro u hu; simp at hu; subst hu; rfl
        case d3 => unfold maxLen; omega
        case d4 => omega
        case d5 => simp; omega
        intro v' w4 hown' hgrow _ hat
        have bw4 : Below w.heap.size w w4 := (hb.alloc hwz _).grown hgrow (by simp; omega) (fun k hk => (how.lt k hk).1)
        obtain ⟨g', cap', rfl⟩ := ownsRow_succ hown'
        go_wp2_with fail
        go_roundw
        case rel => exact ⟨j + 1, hlt', by go_num, by rw [HC.out]; simpa [bvs, bv] using hown', bw4⟩
        case measure => simp [intOf]; omega
    · obtain rfl : j = note.size := by omega
      rw [size_list, List.take_length] at how
      have hcn := cleanF_ne note.data.toList
      have hcz := cleanF_length note.data.toList
      rw [← size_list] at hcz
      have HCN := Lib.hid hcn
      clear hcn
      generalize cleanF note.data.toList = clean at how HCN hcz
      obtain ⟨C, cc, rfl, _, _⟩ := own_form how
      have hrd : Reads wr wr.heap.size 1 C clean.length (bvs clean) := Reads.of_own how
      have hcv := conv_reads (c := cc) hrd
      clear how hrd
      go_wp2_with fail
      go_loopw [9, 10] (WideRel wr a clean s.data.toList) (fun _ i _ => s.size - (intOf i).toNat)
      case atStart => exact ⟨0, Nat.zero_le _, rfl, rfl, rfl⟩
      case round =>
        obtain ⟨k, hk, rfl, rfl, rfl⟩ := hrel
        rw [← size_list] at hk
        have hwl := wideF_length a clean (s.data.toList.take k) 0
        rw [List.length_take, ← size_list, Nat.min_eq_left hk] at hwl
        have hwl2 : (8 + clean.length) * k ≤ 108 * 2000 := Nat.mul_le_mul (by omega) (by omega)
        have hwl3 : (wideF a clean 0 (s.data.toList.take k)).length ≤ 216000 := by omega
        clear hwl hwl2
        by_cases hlt : k < s.size
        · have hlt' : k < s.data.toList.length := by rw [← size_list]; exact hlt
          have hsn : wideF a clean 0 (s.data.toList.take (k + 1)) = wideF a clean 0 (s.data.toList.take k) ++ piece a clean k s[k] := by
            rw [List.take_succ_eq_append_getElem hlt', wideF_snoc, List.length_take, Nat.min_eq_left (by omega), Nat.zero_add]
            rfl
          have HSN := Lib.hid hsn
          clear hsn
          generalize wideF a clean 0 (s.data.toList.take k) = out at HSN hwl3 ⊢
          have hone := ba_one s k hlt
          have hc1 := cat_ba out [s[k]] wr (by simp; omega)
          rw [← hone] at hc1
          clear hone
          have hc : s[k].toNat < 256 := s[k].toNat_lt
          have hby : ∀ z : UInt8, s[k] ≠ z → ((s[k].toNat : Int) == (z.toNat : Int)) = false := fun z h => by
            simp only [beq_eq_false_iff_ne, ne_eq]
            intro e
            exact h (UInt8.toNat_inj.1 (by omega))
          have hz1 : (out ++ [s[k]]).length ≤ 216001 := by simp; omega
          obtain ⟨o1, e1⟩ : ∃ o, o = out ++ [s[k]] := ⟨_, rfl⟩
          rw [← e1] at hc1 hz1
          have hc2 : (Op.stringOp .add (ba o1) ⟨#[32, 32]⟩).run Tryz.prog wr = .ok (.string (ba (o1 ++ [32, 32]))) wr := cat_ba _ [32, 32] wr (by simp; omega)
          have hz2 : (o1 ++ [32, 32]).length ≤ 216003 := by simp; omega
          obtain ⟨o2, e2⟩ : ∃ o, o = o1 ++ [32, 32] := ⟨_, rfl⟩
          rw [← e2] at hc2 hz2
          have E1 := Lib.hid e1
          have E2 := Lib.hid e2
          clear e1 e2
          by_cases h32 : s[k] = 32
          · have q1 : ((s[k].toNat : Int) == 32) = true := by rw [h32]; rfl
            have q2 : ((s[k].toNat : Int) == 10) = false := by rw [h32]; rfl
            have hpc : out ++ piece a clean k s[k] = o2 := by rw [E2.out, E1.out]; unfold piece; rw [if_pos (.inl h32), if_neg (fun h => by rw [h32] at h; exact absurd h.1 (by decide))]; simp
            rw [hpc] at HSN
            clear hby hpc h32
            go_wp2_with fail
            go_roundw
            case rel => exact ⟨k + 1, hlt', by go_num, by rw [HSN.out], rfl⟩
            case measure => simp [intOf]; omega
          · by_cases h10 : s[k] = 10
            · have q1 : ((s[k].toNat : Int) == 32) = false := by rw [h10]; rfl
              have q2 : ((s[k].toNat : Int) == 10) = true := by rw [h10]; rfl
              have hc3 : (Op.stringOp .add (ba o2) ⟨#[10, 32, 32, 35]⟩).run Tryz.prog wr = .ok (.string (ba (o2 ++ [10, 32, 32, 35]))) wr := cat_ba _ [10, 32, 32, 35] wr (by simp; omega)
              have hz3 : (o2 ++ [10, 32, 32, 35]).length ≤ 216007 := by simp; omega
              obtain ⟨o3, e3⟩ : ∃ o, o = o2 ++ [10, 32, 32, 35] := ⟨_, rfl⟩
              rw [← e3] at hc3 hz3
              have hc4 := cat_ba o3 clean wr (by omega)
              have hz4 : (o3 ++ clean).length ≤ 216107 := by simp; omega
              obtain ⟨o4, e4⟩ : ∃ o, o = o3 ++ clean := ⟨_, rfl⟩
              rw [← e4] at hc4 hz4
              have hc5 : (Op.stringOp .add (ba o4) ⟨#[10]⟩).run Tryz.prog wr = .ok (.string (ba (o4 ++ [10]))) wr := cat_ba _ [10] wr (by simp; omega)
              obtain ⟨o5, e5⟩ : ∃ o, o = o4 ++ [10] := ⟨_, rfl⟩
              rw [← e5] at hc5
              have E5 := Lib.hid (show o5 = o2 ++ ([10, 32, 32, 35] ++ clean ++ [10]) by rw [e5, e4, e3]; simp)
              clear e3 e4 e5
              have H10 := Lib.hid h10
              clear hby h10
              by_cases hm : (a + k) % 3 = 0
              · have q3 : (((a : Int) + (k : Int)) % 3 == 0) = true := by simp only [beq_iff_eq]; omega
                have hpc : out ++ piece a clean k s[k] = o5 := by
                  rw [E5.out, E2.out, E1.out]
                  unfold piece
                  rw [if_pos (.inr H10.out), if_pos ⟨H10.out, hm⟩]
                  simp
                rw [hpc] at HSN
                clear hpc hm
                go_wp2_with fail
                go_roundw
                case rel => exact ⟨k + 1, hlt', by go_num, by rw [HSN.out], rfl⟩
                case measure => simp [intOf]; omega
              · have q3 : (((a : Int) + (k : Int)) % 3 == 0) = false := by simp only [beq_eq_false_iff_ne, ne_eq]; omega
                have hpc : out ++ piece a clean k s[k] = o2 := by
                  rw [E2.out, E1.out]
                  unfold piece
                  rw [if_pos (.inr H10.out), if_neg (fun h => hm h.2)]
                  simp
                rw [hpc] at HSN
                clear hpc hm hc3 hc4 hc5
                go_wp2_with fail
                go_roundw
                case rel => exact ⟨k + 1, hlt', by go_num, by rw [HSN.out], rfl⟩
                case measure => simp [intOf]; omega
            · have q1 : ((s[k].toNat : Int) == 32) = false := hby 32 h32
              have q2 : ((s[k].toNat : Int) == 10) = false := hby 10 h10
              have hpc : out ++ piece a clean k s[k] = o1 := by rw [E1.out]; unfold piece; rw [if_neg (fun h => h.elim h32 h10), if_neg (fun h => h10 h.1)]; simp
              rw [hpc] at HSN
              clear hby hpc h32 h10
              go_wp2_with fail
              go_roundw
              case rel => exact ⟨k + 1, hlt', by go_num, by rw [HSN.out], rfl⟩
              case measure => simp [intOf]; omega
        · obtain rfl : k = s.size := by omega
          have hfull : s.data.toList.take s.size = s.data.toList := by rw [size_list, List.take_length]
          rw [hfull] at hwl3 ⊢
          have HAL := Lib.hid (fun h => spaces_alike s.data.toList clean a HCN.out (by rw [← size_list]; omega) h)
          generalize wideF a clean 0 s.data.toList = out at hwl3 HAL ⊢
          have hEr := hE.later hb
          clear hfull hcv HCN
          by_cases hbig : 60000 < out.length
          · have q1 : decide ((60000 : Int) < (((ba out).size : Nat) : Int)) = true := by rw [ba_size]; simp; omega
            go_wp2_with fail
            refine (awake_any wr hEr).mono ?_
            rintro e w1 ⟨rfl, b1⟩
            go_wp2_with fail
            go_ret
            exact ⟨rfl, hb.trans (b1.mono hwz)⟩
          · have hn60 : out.length ≤ 60000 := by omega
            have q1 : decide ((60000 : Int) < (((ba out).size : Nat) : Int)) = false := by rw [ba_size]; simp; omega
            obtain ⟨g1, g2⟩ := HAL.out hn60
            rw [parse_agree, parse_agree] at g1 g2
            obtain ⟨k1, k2⟩ := parseS_ok s.data.toList
            obtain ⟨k3, k4⟩ := parseS_ok (32 :: 32 :: (out ++ [32]))
            have CP := Lib.hid (parse_any s wr hEr)
            have CQ := Lib.hid (fun w1 h => parse_lit (l := 32 :: 32 :: (out ++ [32])) rfl w1 h)
            clear HAL hbig
            generalize parseS s.data.toList = r at CP g1 g2 k1 k2
            generalize parseS (32 :: 32 :: (out ++ [32])) = r' at CQ g1 g2 k3 k4
            obtain ⟨st, n, er⟩ := r
            obtain ⟨st', n', er'⟩ := r'
            dsimp only at g1 g2 k1 k2 k3 k4
            subst g1 g2
            have K1 := Lib.hid k1
            clear k1 k3 k4
            go_wp2_with fail
            refine CP.out.mono ?_
            clear CP
            rintro e w1 ⟨A, c, rfl, hc, hA, b1⟩
            have hE1 := hEr.later b1
            have hc1 : (Op.stringOp .add ⟨#[32, 32]⟩ (ba out)).run Tryz.prog w1 = .ok (.string (ba (32 :: 32 :: out))) w1 := cat_ba [32, 32] out w1 (by simp; omega)
            have hc2 : (Op.stringOp .add (ba (32 :: 32 :: out)) ⟨#[32]⟩).run Tryz.prog w1 = .ok (.string (ba (32 :: 32 :: (out ++ [32])))) w1 := cat_ba (32 :: 32 :: out) [32] w1 (by simp; omega)
            have HA := Lib.hid hA
            clear hA
            go_wp2_with fail
            refine (CQ.out w1 hE1).mono ?_
            clear CQ
            rintro e w2 ⟨B, cb, rfl, hcb, hB, b2⟩
            have b12 := b1.trans (b2.mono b1.size)
            have hE2 := hE1.later b2
            have HA2 := Lib.hid (HA.out.same (Kept.of_below b2))
            have HB := Lib.hid hB
            clear hB HA hE1 hc1 hc2 hEr
            go_wp2_with fail
            refine (awake_any w2 hE2).mono ?_
            rintro e w3 ⟨rfl, b3⟩
            have b13 := b12.trans (b3.mono b12.size)
            have HA3 := Lib.hid (HA2.out.same (Kept.of_below b3))
            have HB3 := Lib.hid (HB.out.same (Kept.of_below b3))
            have q2 : (er == er) = true := by simp
            clear HA2 HB hE2 b1 b2 b3 b12
            go_wp2_with fail
            refine (plain_any c w3 HA3.out (by omega)).mono ?_
            rintro e w4 ⟨A4, c4, rfl, hA4, b4⟩
            have b14 := b13.trans (b4.mono b13.size)
            have HA4 := Lib.hid hA4
            have HB4 := Lib.hid (HB3.out.same (Kept.of_below b4))
            clear hA4 HA3 HB3 b13 b4
            go_wp2_with fail
            refine (plain_any cb w4 HB4.out (by omega)).mono ?_
            rintro e w5 ⟨B5, c5, rfl, hB5, b5⟩
            have b15 := b14.trans (b5.mono b14.size)
            have HA5 := Lib.hid (HA4.out.same (Kept.of_below b5))
            have HB5 := Lib.hid hB5
            clear hB5 HA4 HB4 b14 b5
            go_wp2_with fail
            refine (same_any c4 c5 w5 HA5.out HB5.out (by omega) (by omega) (fun x hx => by have := (stepOk_args (K1.out x hx)).1; omega) (fun x hx => by have := (stepOk_args (K1.out x hx)).1; omega)).mono ?_
            rintro e w6 ⟨rfl, m, rfl⟩
            simp only [decide_true]
            go_wp2_with fail
            go_ret
            exact ⟨rfl, below_drewN (hb.trans (b15.mono hwz)) m⟩

set_option maxHeartbeats 4000000 in
set_option maxRecDepth 100000 in
theorem spaces_out (s : ByteArray) (a : Nat) (note : ByteArray) (w : World) (hE : Env w) (t1 : Bool) (h1 : decide ((2000 : Int) < (s.size : Int)) = t1) (t2 : Bool) (h2 : decide ((100 : Int) < (note.size : Int)) = t2) (ht : (t1 || t2) = true) :
    Calls Tryz.prog 5 #[.string s, .int .u16 (a : Int), .string note] w fun e w' => e = .returned (.bool true) ∧ Below w.heap.size w w' := by
  have CA := Lib.hid (awake_any w hE)
  have HT := Lib.hid ht
  clear hE ht
  go_enter Tryz.func5, Tryz.ntmps5
  cases t1 <;> cases t2
  case false.false => exact absurd HT.out (by decide)
  all_goals
    go_wp2_with fail
    refine CA.out.mono ?_
    rintro e w1 ⟨rfl, b1⟩
    go_wp2_with fail
    go_ret
    exact ⟨rfl, b1⟩

theorem spaces_any (s : ByteArray) (a : Nat) (note : ByteArray) (w : World) (hE : Env w) (ha : a ≤ 65535) :
    Calls Tryz.prog 5 #[.string s, .int .u16 (a : Int), .string note] w fun e w' => e = .returned (.bool true) ∧ Below w.heap.size w w' := by
  cases h1 : decide ((2000 : Int) < (s.size : Int)) <;> cases h2 : decide ((100 : Int) < (note.size : Int))
  · simp only [decide_eq_false_iff_not] at h1 h2
    exact spaces_main s a note w hE ha (by omega) (by omega)
  · exact spaces_out s a note w hE _ h1 _ h2 rfl
  · exact spaces_out s a note w hE _ h1 _ h2 rfl
  · exact spaces_out s a note w hE _ h1 _ h2 rfl

end Go.Proofs.YtfnfjfcncijapaaGreatDoor
