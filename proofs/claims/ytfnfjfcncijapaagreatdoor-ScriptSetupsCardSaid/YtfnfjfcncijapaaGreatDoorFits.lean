/- kinkeepref56.fits. -/
import Derived.Test.YtfnfjfcncijapaaGreatDoorNums
namespace Go.Proofs.YtfnfjfcncijapaaGreatDoor
open Go.RowKit Go.Shelf
attribute [local go_sem] Oper.semAt_some

/-- Bits. -/
def bitsR (l : List UInt8) : Bool := l.all (fun c => c == 48 || c == 49)
/-- Whether an argument has a form. -/
def fitsR (f : UInt8) (l : List UInt8) : Bool := if f = 110 then (numR l).2 else if f = 108 then (numsOf (parts 44 l)).isSome else if f = 119 then switchB l else if f = 98 then bitsR l else true
def BitsRel (w : World) (l : List UInt8) (i : Value) (wr : World) : Prop := ∃ j : Nat, j ≤ l.length ∧ i = .int .i64 (j : Int) ∧ bitsR (l.take j) = true ∧ wr = w
theorem bitsR_snoc {l : List UInt8} {j : Nat} (h : j < l.length) (h0 : bitsR (l.take j) = true) (hc : l[j] = 48 ∨ l[j] = 49) : bitsR (l.take (j + 1)) = true := by
  unfold bitsR at h0 ⊢
  rw [List.take_succ_eq_append_getElem h, List.all_append, h0]
  rcases hc with hc | hc <;> simp [hc]
theorem bitsR_bad {l : List UInt8} {j : Nat} (h : j < l.length) (hc : ¬ (l[j] = 48 ∨ l[j] = 49)) : bitsR l = false := by
  unfold bitsR
  rw [List.all_eq_false]
  exact ⟨_, List.getElem_mem h, by simpa using hc⟩

set_option maxHeartbeats 2000000 in
set_option maxRecDepth 100000 in
theorem fits_any (s : ByteArray) (f : UInt8) (w : World) (hs : s.size ≤ 65536) : Calls Tryz.prog 40 #[.string s, .int .u8 (f.toNat : Int)] w fun e w' => e = .returned (.bool (fitsR f s.data.toList)) ∧ Below w.heap.size w w' := by
  have hf := f.toNat_lt
  have conv : ∀ k : UInt8, f ≠ k → ((f.toNat : Int) == (k.toNat : Int)) = false := fun k h => by
    simp only [beq_eq_false_iff_ne, ne_eq]; exact fun e => h (UInt8.toNat_inj.1 (by omega))
  by_cases h1 : f = 110
  · subst h1
    have HR := Lib.hid (show fitsR 110 s.data.toList = (numR s.data.toList).2 from if_pos rfl)
    have CN := Lib.hid (number_any s w (by omega))
    clear conv
    go_enter Tryz.func40, Tryz.ntmps40
    go_wp2_with fail
    refine CN.out.mono ?_
    rintro e w1 ⟨rfl, rfl⟩
    go_wp2_with fail
    go_ret
    exact ⟨by rw [HR.out]; rfl, Below.refl _ _⟩
  · have t1 := conv 110 h1
    by_cases h2 : f = 108
    · subst h2
      have HR := Lib.hid (show fitsR 108 s.data.toList = (numsOf (parts 44 s.data.toList)).isSome by unfold fitsR; rw [if_neg (by decide), if_pos rfl])
      have CN := Lib.hid (numbers_any s w hs)
      clear conv t1
      go_enter Tryz.func40, Tryz.ntmps40
      go_wp2_with fail
      refine CN.out.mono ?_
      rintro e w1 ⟨⟨B, cb, rfl, _, _⟩, b1⟩
      go_wp2_with fail
      go_ret
      exact ⟨by rw [HR.out]; rfl, b1⟩
    · have t2 := conv 108 h2
      by_cases h3 : f = 119
      · subst h3
        have HR := Lib.hid (show fitsR 119 s.data.toList = switchB s.data.toList by unfold fitsR; rw [if_neg (by decide), if_neg (by decide), if_pos rfl])
        clear conv t1 t2
        cases q1 : (s.toList == ([111, 110] : List UInt8)) <;> cases q2 : (s.toList == ([111, 102, 102] : List UInt8))
        all_goals
          go_enter Tryz.func40, Tryz.ntmps40
          go_wp2
          go_ret
          refine ⟨?_, Below.refl _ _⟩
          rw [HR.out]
          unfold switchB
          rw [← Lib.toList_data, q1, q2]
          rfl
      · have t3 := conv 119 h3
        by_cases h4 : f = 98
        · subst h4
          have HR := Lib.hid (show fitsR 98 s.data.toList = bitsR s.data.toList by unfold fitsR; rw [if_neg (by decide), if_neg (by decide), if_neg (by decide), if_pos rfl])
          clear conv t1 t2 t3
          go_enter Tryz.func40, Tryz.ntmps40
          go_wp2_with fail
          go_loopw [9] (BitsRel w s.data.toList) (fun i _ => s.size - (intOf i).toNat)
          case atStart => exact ⟨0, Nat.zero_le _, rfl, rfl, rfl⟩
          case round =>
            obtain ⟨j, hj, rfl, hbit, rfl⟩ := hrel
            rw [← size_list] at hj
            have HB := Lib.hid hbit
            clear hbit
            by_cases hlt : j < s.size
            · have hc : s[j].toNat < 256 := s[j].toNat_lt
              have hlt' : j < s.data.toList.length := by rw [← size_list]; exact hlt
              have hg : s.data.toList[j] = s[j] := rfl
              have c2 : ∀ k : UInt8, s[j] ≠ k → ((s[j].toNat : Int) != (k.toNat : Int)) = true := fun k h => by
                simp only [bne_iff_ne, ne_eq]; exact fun e => h (UInt8.toNat_inj.1 (by omega))
              by_cases e1 : s[j] = 48
              · have q1 : ((s[j].toNat : Int) != 48) = false := by rw [e1]; rfl
                have HS := Lib.hid (bitsR_snoc hlt' HB.out (.inl (hg.trans e1)))
                clear e1 c2 hg
                go_wp2_with fail
                go_roundw
                case rel => exact ⟨j + 1, by rw [← size_list]; omega, by go_num, HS.out, rfl⟩
                case measure => simp [intOf]; omega
              · have q1 : ((s[j].toNat : Int) != 48) = true := c2 48 e1
                by_cases e2 : s[j] = 49
                · have q2 : ((s[j].toNat : Int) != 49) = false := by rw [e2]; rfl
                  have HS := Lib.hid (bitsR_snoc hlt' HB.out (.inr (hg.trans e2)))
                  clear e1 e2 c2 hg
                  go_wp2_with fail
                  go_roundw
                  case rel => exact ⟨j + 1, by rw [← size_list]; omega, by go_num, HS.out, rfl⟩
                  case measure => simp [intOf]; omega
                · have q2 : ((s[j].toNat : Int) != 49) = true := c2 49 e2
                  have HS := Lib.hid (bitsR_bad hlt' (by rw [hg]; exact fun h => h.elim e1 e2))
                  clear e1 e2 c2 hg
                  go_wp2_with fail
                  go_ret
                  exact ⟨by rw [HR.out, HS.out]; rfl, Below.refl _ _⟩
            · have hj' : j = s.size := by omega
              have hb : bitsR s.data.toList = true := by have := HB.out; rwa [hj', size_list, List.take_length] at this
              have HS := Lib.hid hb
              clear HB hb
              subst hj'
              go_wp2_with fail
              go_ret
              exact ⟨by rw [HR.out, HS.out]; rfl, Below.refl _ _⟩
        · have t4 := conv 98 h4
          have HR := Lib.hid (show fitsR f s.data.toList = true by unfold fitsR; rw [if_neg h1, if_neg h2, if_neg h3, if_neg h4])
          clear conv h1 h2 h3 h4
          have s1 : ((f.toNat : Int) == 110) = false := t1
          have s2 : ((f.toNat : Int) == 108) = false := t2
          have s3 : ((f.toNat : Int) == 119) = false := t3
          have s4 : ((f.toNat : Int) == 98) = false := t4
          clear t1 t2 t3 t4
          go_enter Tryz.func40, Tryz.ntmps40
          go_wp2_with fail
          go_ret
          exact ⟨by rw [HR.out]; rfl, Below.refl _ _⟩

end Go.Proofs.YtfnfjfcncijapaaGreatDoor
