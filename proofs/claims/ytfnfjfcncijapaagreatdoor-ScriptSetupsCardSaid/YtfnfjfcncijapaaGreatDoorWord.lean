/- script.word. -/
import Derived.Test.YtfnfjfcncijapaaGreatDoorRefB
namespace Go.Proofs.YtfnfjfcncijapaaGreatDoor
open Go.RowKit Go.Shelf
attribute [local go_sem] Oper.semAt_some

def hexc (n : Nat) : UInt8 := hexs.data.toList.getD n 0
/-- A byte of a word. -/
def encB (all : Bool) (c : UInt8) : List UInt8 := if (badB c || c == 37 || all) = true then [37, hexc (c.toNat / 16), hexc (c.toNat % 16)] else [c]
/-- The word of a string. -/
def wordS (l : List UInt8) : List UInt8 := if l = [] then [45] else l.flatMap (encB (l == [45]))
def WordRel (w : World) (l : List UInt8) (i : Value) (wr : World) : Prop :=
  ∃ k : Nat, k ≤ l.length ∧ i = .int .i64 (k : Int) ∧ Lib.IsBuilder 85 5 w.heap.size w.heap.size (Lib.byteCells ((l.take k).flatMap (encB (l == [45])))) wr ∧ Below w.heap.size w wr
def EncCut (w : World) (b : Bool) (v : Value) (wx : World) : Prop := v = .bool b ∧ wx = w
theorem enc_length (all : Bool) (l : List UInt8) : (l.flatMap (encB all)).length ≤ 3 * l.length := by
  induction l with
  | nil => simp
  | cons c r ih =>
    have : (encB all c).length ≤ 3 := by unfold encB; split <;> simp
    simp only [List.flatMap_cons, List.length_append, List.length_cons]
    omega

set_option maxHeartbeats 2000000 in
set_option maxRecDepth 100000 in
theorem word_loop (s : ByteArray) (w : World) (hs : s.size ≤ 100000) (hm : s.data.toList ≠ []) :
    Calls Tryz.prog 62 #[.string s] w fun e w' => e = .returned (.string (ba (wordS s.data.toList))) ∧ Below w.heap.size w w' := by
  have ht : wordS s.data.toList = s.data.toList.flatMap (encB (s.data.toList == [45])) := if_neg hm
  have hq : s.toList.isEmpty = false := by rw [Lib.toList_data]; simpa using hm
  have HT := Lib.hid ht
  clear ht hm
  go_enter Tryz.func62, Tryz.ntmps62
  rw [show (⟨#[48, 49, 50, 51, 52, 53, 54, 55, 56, 57, 97, 98, 99, 100, 101, 102]⟩ : ByteArray) = hexs from rfl]
  go_wp2_with fail
  have hb0 := Lib.fresh_isBuilder 85 5 w
  have k0 := (Below.refl w.heap.size w).alloc (Nat.le_refl _) (.cells #[.pointer none, .slice none 0 0] 85)
  go_loopw [10] (WordRel w s.data.toList) (fun i _ => s.size - (intOf i).toNat)
  case atStart => exact ⟨0, Nat.zero_le _, rfl, hb0, k0⟩
  case round =>
    obtain ⟨k, hk, rfl, hb, bw⟩ := hrel
    rw [← size_list] at hk
    clear hb0 k0
    have hsz : w.heap.size ≤ wr.heap.size := bw.size
    by_cases hlt : k < s.size
    · have hc : s[k].toNat < 256 := s[k].toNat_lt
      have hall : (s.toList == ([45] : List UInt8)) = (s.data.toList == [45]) := by rw [Lib.toList_data]
      generalize hal : (s.data.toList == ([45] : List UInt8)) = all at hall hb HT
      go_upto_region 8 with fail
      go_cut [29] from 16 to 29 (EncCut wr (badB s[k] || s[k] == 37 || all))
      case first =>
        have hbd : badB s[k] = (decide ((s[k].toNat : Int) < 33) || decide (126 < (s[k].toNat : Int))) := by
          unfold badB
          congr 1 <;> (apply Bool.eq_iff_iff.2; simp; omega)
        have h37 : (s[k] == 37) = ((s[k].toNat : Int) == 37) := by
          apply Bool.eq_iff_iff.2
          simp only [beq_iff_eq]
          constructor
          · intro e; rw [e]; rfl
          · intro e; exact UInt8.toNat_inj.1 (by show _ = 37; omega)
        have HBD := Lib.hid hbd
        have H37 := Lib.hid h37
        clear hbd h37
        cases t1 : decide ((s[k].toNat : Int) < 33) <;> cases t2 : decide (126 < (s[k].toNat : Int)) <;> cases t3 : ((s[k].toNat : Int) == 37)
        all_goals
          go_wp2_with fail
          go_meet
          refine ⟨?_, rfl⟩
          rw [HBD.out, H37.out, t1, t2, t3]
          rfl
      case rest =>
        obtain ⟨rfl, rfl⟩ := hcut
        have hlt' : k < s.data.toList.length := by rw [← size_list]; exact hlt
        have hsn : (s.data.toList.take (k + 1)).flatMap (encB all) = (s.data.toList.take k).flatMap (encB all) ++ encB all s[k] := by
          rw [List.take_succ_eq_append_getElem hlt', List.flatMap_append]
          simp
          rfl
        have hel := enc_length all (s.data.toList.take k)
        rw [List.length_take] at hel
        have HAL := Lib.hid hal
        generalize (s.data.toList.take k).flatMap (encB all) = out at hb hsn hel
        cases hen : (badB s[k] || s[k] == 37 || all)
        · have he : encB all s[k] = [s[k]] := by unfold encB; rw [if_neg (by simp [hen])]
          rw [he] at hsn
          have HSN := Lib.hid hsn
          have CW := writeByte_any w.heap.size w.heap.size (Lib.byteCells out) (s[k].toNat : Int) wc hb (by rw [byteCells_length]; omega) hsz
          rw [byteCells_snoc] at CW
          have HW := Lib.hid CW
          clear hsn he hen CW hal
          go_wp2_with fail
          refine HW.out.mono ?_
          rintro e w1 ⟨rfl, hb1, bw1⟩
          clear HW
          go_wp2_with fail
          go_roundw
          case rel => exact ⟨k + 1, hlt', by go_num, by rw [HAL.out, HSN.out]; exact hb1, bw.trans bw1⟩
          case measure => simp [intOf]; omega
        · have he : encB all s[k] = [37, hexc (s[k].toNat / 16), hexc (s[k].toNat % 16)] := by unfold encB; rw [if_pos hen]
          rw [he] at hsn
          have HSN := Lib.hid hsn
          clear hsn he hen hal
          go_wp2_with fail
          refine (writeByte_any w.heap.size w.heap.size (Lib.byteCells out) 37 wc hb (by rw [byteCells_length]; omega) hsz).mono ?_
          rintro e w1 ⟨rfl, hb1, bw1⟩
          have hx := hexs_size
          have x1 : (s[k].toNat : Int) / 16 < (hexs.size : Int) := by rw [hx]; omega
          have x2 : (s[k].toNat : Int) % 16 < (hexs.size : Int) := by rw [hx]; omega
          have hsz1 := Nat.le_trans hsz bw1.size
          have e37 : Lib.byteCells out ++ [.int .u8 37] = Lib.byteCells (out ++ [37]) := byteCells_snoc out 37
          rw [e37] at hb1
          clear hx e37
          go_wp2_with fail
          refine (writeByte_any w.heap.size w.heap.size (Lib.byteCells (out ++ [37])) _ w1 hb1 (by rw [byteCells_length]; simp; omega) (Nat.le_trans hsz bw1.size)).mono ?_
          rintro e w2 ⟨rfl, hb2, bw2⟩
          rw [byteCells_snoc] at hb2
          go_wp2_with fail
          refine (writeByte_any w.heap.size w.heap.size _ _ w2 hb2 (by rw [byteCells_length]; simp; omega) (Nat.le_trans hsz1 bw2.size)).mono ?_
          rintro e w3 ⟨rfl, hb3, bw3⟩
          rw [byteCells_snoc] at hb3
          have hq1 : ∀ (n : Nat) (h : n < hexs.size), hexs[n] = hexc n := fun n h => by
            unfold hexc
            rw [List.getD_eq_getElem?_getD, List.getElem?_eq_getElem (by rw [← size_list]; exact h)]
            rfl
          rw [hq1, hq1, List.append_assoc, List.append_assoc] at hb3
          have HB3 := Lib.hid hb3
          clear hb3 hq1 hb1 hb2 hb
          go_wp2_with fail
          go_roundw
          case rel => exact ⟨k + 1, hlt', by go_num, by rw [HAL.out, HSN.out]; exact HB3.out, ((bw.trans bw1).trans bw2).trans bw3⟩
          case measure => simp [intOf]; omega
    · have hk' : k = s.size := by omega
      have hfull : s.data.toList.take k = s.data.toList := by rw [hk', size_list, List.take_length]
      rw [hfull] at hb
      have HT2 := Lib.hid HT.out
      clear hfull
      go_wp2_with fail
      refine (Tryz.Builder_String_any w.heap.size w.heap.size _ wr hb hsz).mono ?_
      rintro e w1 ⟨rfl, bw1⟩
      go_wp2_with fail
      go_ret
      exact ⟨by rw [HT2.out]; rfl, bw.trans bw1⟩

set_option maxHeartbeats 400000 in
/-- script.word. -/
theorem word_any (s : ByteArray) (w : World) (hs : s.size ≤ 100000) : Calls Tryz.prog 62 #[.string s] w fun e w' => e = .returned (.string (ba (wordS s.data.toList))) ∧ Below w.heap.size w w' := by
  by_cases hm : s.data.toList = []
  · have hq : s.toList.isEmpty = true := by rw [Lib.toList_data, hm]; rfl
    rw [hm]
    clear hm
    go_enter Tryz.func62, Tryz.ntmps62
    go_wp2
    go_ret
    exact ⟨rfl, Below.refl _ _⟩
  · exact word_loop s w hs hm

end Go.Proofs.YtfnfjfcncijapaaGreatDoor
