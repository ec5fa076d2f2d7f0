/- kinkeepref56.Word, kinkeepref56.Line. -/
import Derived.Test.YtfnfjfcncijapaaGreatDoorLawS
import Derived.Test.YtfnfjfcncijapaaGreatDoorPrintP
namespace Go.Proofs.YtfnfjfcncijapaaGreatDoor
open Go.RowKit Go.Shelf
attribute [local go_sem] Oper.semAt_some

def RWordRel (w : World) (l : List UInt8) (v i : Value) (wr : World) : Prop :=
  ∃ k : Nat, k ≤ l.length ∧ i = .int .i64 (k : Int) ∧ v = .string (ba ((l.take k).flatMap (encB false))) ∧ Drawn w wr
theorem hexs_one (n : Nat) (h : n < 16) : hexs.extract n (n + 1) = ba [hexc n] := by
  have hz : n < hexs.size := by rw [hexs_size]; exact h
  rw [ba_one hexs n hz]
  congr 2
  unfold hexc
  rw [List.getD_eq_getElem?_getD, List.getElem?_eq_getElem (by rw [← size_list]; exact hz)]
  rfl

set_option maxHeartbeats 4000000 in
set_option maxRecDepth 100000 in
theorem rword_loop (s : ByteArray) (w : World) (hs : s.size ≤ 100000) (hm : s.data.toList ≠ []) (hd : s.data.toList ≠ [45]) :
    Calls Tryz.prog 41 #[.string s] w fun e w' => e = .returned (.string (ba (wordS s.data.toList))) ∧ ∃ m, w' = w.drewN m := by
  have ht : wordS s.data.toList = s.data.toList.flatMap (encB false) := by
    unfold wordS
    rw [if_neg hm]
    congr 2
    simpa using hd
  have hq : s.toList.isEmpty = false := by rw [Lib.toList_data]; simpa using hm
  have hq2 : (s.toList == ([45] : List UInt8)) = false := by rw [Lib.toList_data]; simpa using hd
  have HT := Lib.hid ht
  clear ht hm hd
  go_enter Tryz.func41, Tryz.ntmps41
  rw [show (⟨#[48, 49, 50, 51, 52, 53, 54, 55, 56, 57, 97, 98, 99, 100, 101, 102]⟩ : ByteArray) = hexs from rfl]
  go_wp2_with fail
  go_loopw [3, 4] (RWordRel w s.data.toList) (fun _ i _ => s.size - (intOf i).toNat)
  case atStart => exact ⟨0, Nat.zero_le _, rfl, rfl, Drawn.refl _⟩
  case round =>
    obtain ⟨k, hk, rfl, rfl, kd⟩ := hrel
    rw [← size_list] at hk
    by_cases hlt : k < s.size
    · have hc : s[k].toNat < 256 := s[k].toNat_lt
      have hlt' : k < s.data.toList.length := by rw [← size_list]; exact hlt
      have hsn : (s.data.toList.take (k + 1)).flatMap (encB false) = (s.data.toList.take k).flatMap (encB false) ++ encB false s[k] := by
        rw [List.take_succ_eq_append_getElem hlt', List.flatMap_append]
        simp
        rfl
      have hel := enc_length false (s.data.toList.take k)
      rw [List.length_take] at hel
      have HSN := Lib.hid hsn
      clear hsn
      generalize (s.data.toList.take k).flatMap (encB false) = out at HSN hel ⊢
      go_upto_region 9 with fail
      go_cut [30] from 15 to 30 (EncCut wr (!(badB s[k] || s[k] == 37)))
      case first =>
        have hbd : badB s[k] = (!decide (33 ≤ (s[k].toNat : Int)) || !decide ((s[k].toNat : Int) ≤ 126)) := by
          unfold badB
          congr 1 <;> (apply Bool.eq_iff_iff.2; simp; omega)
        have h37 : (s[k] == 37) = !((s[k].toNat : Int) != 37) := by
          apply Bool.eq_iff_iff.2
          simp only [beq_iff_eq, bne, Bool.not_not]
          constructor
          · intro e; rw [e]; rfl
          · intro e; exact UInt8.toNat_inj.1 (by show _ = 37; omega)
        have HBD := Lib.hid hbd
        have H37 := Lib.hid h37
        clear hbd h37
        cases t1 : decide (33 ≤ (s[k].toNat : Int)) <;> cases t2 : decide ((s[k].toNat : Int) ≤ 126) <;> cases t3 : ((s[k].toNat : Int) != 37)
        all_goals
          go_wp2_with fail
          go_meet
          refine ⟨?_, rfl⟩
          rw [HBD.out, H37.out, t1, t2, t3]
          rfl
      case rest =>
        obtain ⟨rfl, rfl⟩ := hcut
        cases hen : (badB s[k] || s[k] == 37)
        · have he : encB false s[k] = [s[k]] := by unfold encB; rw [if_neg (by simp [hen])]
          rw [he] at HSN
          have hone := ba_one s k hlt
          have hc1 := cat_ba out [s[k]] wc (by simp; omega)
          rw [← hone] at hc1
          clear hone he hen
          go_wp2_with fail
          go_roundw
          case rel => exact ⟨k + 1, hlt', by go_num, by rw [HSN.out], kd⟩
          case measure => simp [intOf]; omega
        · have he : encB false s[k] = [37, hexc (s[k].toNat / 16), hexc (s[k].toNat % 16)] := by unfold encB; rw [if_pos (by simpa using hen)]
          rw [he] at HSN
          clear he hen
          have hw1 : IntKind.u8.wrap ((s[k].toNat : Int) / 16) = ((s[k].toNat / 16 : Nat) : Int) := by
            rw [show ((s[k].toNat : Int) / 16) = ((s[k].toNat / 16 : Nat) : Int) by omega]
            rw [IntKind.wrap_u8]; omega
          have hw2 : ((s[k].toNat : Int)).tmod 16 = ((s[k].toNat % 16 : Nat) : Int) := by
            rw [Int.tmod_eq_emod_of_nonneg (by omega)]; omega
          have hi16 : s[k].toNat / 16 < 16 := by omega
          have lo16 : s[k].toNat % 16 < 16 := by omega
          have hz := hexs_size
          generalize s[k].toNat / 16 = hi at hw1 hi16 HSN
          generalize s[k].toNat % 16 = lo at hw2 lo16 HSN
          have hw3 : IntKind.u8.wrap ((hi : Int) + 1) = (hi : Int) + 1 := by rw [IntKind.wrap_u8]; omega
          have hw4 : IntKind.u8.wrap ((lo : Int) + 1) = (lo : Int) + 1 := by rw [IntKind.wrap_u8]; omega
          have x1 : (hi : Int) + 1 ≤ (hexs.size : Int) := by rw [hz]; omega
          have x2 : (lo : Int) + 1 ≤ (hexs.size : Int) := by rw [hz]; omega
          have e1 := hexs_one hi hi16
          have e2 := hexs_one lo lo16
          have sl1 : ∀ W, (Instr.slice 9 (.string hexs) (some (.int .u8 (hi : Int))) (some (.int .u8 ((hi : Int) + 1))) none).run Tryz.prog W = .ok (.string (ba [hexc hi])) W := fun W => by
            rw [run_slice_string W 9 hexs .u8 .u8 (hi : Int) ((hi : Int) + 1) Tryz.underlying9 (by omega) (by omega) x1, ← e1]
            rfl
          have sl2 : ∀ W, (Instr.slice 9 (.string hexs) (some (.int .u8 (lo : Int))) (some (.int .u8 ((lo : Int) + 1))) none).run Tryz.prog W = .ok (.string (ba [hexc lo])) W := fun W => by
            rw [run_slice_string W 9 hexs .u8 .u8 (lo : Int) ((lo : Int) + 1) Tryz.underlying9 (by omega) (by omega) x2, ← e2]
            rfl
          clear e1 e2 x1 x2
          have hc37 : ∀ W, (Op.stringOp .add (ba out) ⟨#[37]⟩).run Tryz.prog W = .ok (.string (ba (out ++ [37]))) W := fun W => cat_ba out [37] W (by simp; omega)
          have hc38 : ∀ W, (Op.stringOp .add (ba (out ++ [37])) (ba [hexc hi])).run Tryz.prog W = .ok (.string (ba (out ++ [37, hexc hi]))) W := fun W => by
            rw [cat_ba _ _ W (by simp; omega)]; simp
          have hc39 : ∀ W, (Op.stringOp .add (ba (out ++ [37, hexc hi])) (ba [hexc lo])).run Tryz.prog W = .ok (.string (ba (out ++ [37, hexc hi, hexc lo]))) W := fun W => by
            rw [cat_ba _ _ W (by simp; omega)]; simp
          go_wp2_with fail
          go_quiet (fail)
          go_wp2_with fail
          go_roundw
          case rel => exact ⟨k + 1, hlt', by go_num, by rw [HSN.out], kd.drewN _⟩
          case measure => simp [intOf]; omega
    · obtain rfl : k = s.size := by omega
      have hfull : s.data.toList.take s.size = s.data.toList := by rw [size_list, List.take_length]
      rw [hfull, ← HT.out]
      have HKD := Lib.hid kd
      clear hfull kd
      go_wp2_with fail
      go_ret
      exact ⟨rfl, HKD.out⟩

end Go.Proofs.YtfnfjfcncijapaaGreatDoor
