/- script.text: the string for which a word stands. -/
import Derived.Test.YtfnfjfcncijapaaGreatDoorBuild
import Derived.Deep.QuietTactic
import Derived.BigQuiet
import Derived.LoopTactic
import Derived.IntWalk
namespace Go.Proofs.YtfnfjfcncijapaaGreatDoor
open Go.RowKit Go.Shelf

def badB (c : UInt8) : Bool := decide (c.toNat < 33) || decide (126 < c.toNat)

/-- The string that a word stands for, byte by byte. -/
def stands : List UInt8 → Option (List UInt8)
  | [] => some []
  | c :: r => if badB c = true then none else if c ≠ 37 then (stands r).map (c :: ·) else match r with
    | a :: b :: r' => if hexv a < 0 ∨ hexv b < 0 then none else (stands r').map (UInt8.ofNat (hexv a * 16 + hexv b).toNat :: ·)
    | _ => none

def textS (l : List UInt8) : List UInt8 × Bool := if l = [45] then ([], true) else match stands l with
  | some o => (o, true)
  | none => ([], false)

theorem drop_get (s : ByteArray) (k : Nat) (h : k < s.size) : s.data.toList.drop k = s[k] :: s.data.toList.drop (k + 1) := by
  have hl : k < s.data.toList.length := by rw [← size_list]; exact h
  rw [List.drop_eq_getElem_cons hl]
  rfl

section
variable {l out : List UInt8} {k : Nat} {c : UInt8} {r : List UInt8}
theorem st_end (h : stands l = (stands (l.drop k)).map (out ++ ·)) (hk : l.length ≤ k) : stands l = some out := by
  rw [h, List.drop_of_length_le hk]; simp [stands]
theorem st_bad (h : stands l = (stands (l.drop k)).map (out ++ ·)) (hd : l.drop k = c :: r) (hc : badB c = true) : stands l = none := by
  rw [h, hd]; unfold stands; rw [if_pos hc]; rfl
theorem st_one (h : stands l = (stands (l.drop k)).map (out ++ ·)) (hd : l.drop k = c :: r) (hc : badB c = false) (h37 : c ≠ 37) : stands l = (stands r).map ((out ++ [c]) ++ ·) := by
  rw [h, hd]
  conv => lhs; unfold stands
  rw [if_neg (by simp [hc]), if_pos h37, Option.map_map]
  congr 1
  funext x
  simp
theorem st_short (h : stands l = (stands (l.drop k)).map (out ++ ·)) (hd : l.drop k = 37 :: r) (hr : r.length < 2) : stands l = none := by
  rw [h, hd]
  unfold stands
  rw [if_neg (by decide), if_neg (by simp)]
  match r, hr with
  | [], _ => rfl
  | [a], _ => rfl
theorem st_hexbad {a b : UInt8} (h : stands l = (stands (l.drop k)).map (out ++ ·)) (hd : l.drop k = 37 :: a :: b :: r) (hx : hexv a < 0 ∨ hexv b < 0) : stands l = none := by
  rw [h, hd]
  conv => lhs; unfold stands
  rw [if_neg (by decide), if_neg (by simp)]
  dsimp only
  rw [if_pos hx]
  rfl
theorem st_hex {a b : UInt8} (h : stands l = (stands (l.drop k)).map (out ++ ·)) (hd : l.drop k = 37 :: a :: b :: r) (hx : ¬ (hexv a < 0 ∨ hexv b < 0)) : stands l = (stands r).map ((out ++ [UInt8.ofNat (hexv a * 16 + hexv b).toNat]) ++ ·) := by
  rw [h, hd]
  conv => lhs; unfold stands
  rw [if_neg (by decide), if_neg (by simp)]
  dsimp only
  rw [if_neg hx, Option.map_map]
  congr 1
  funext x
  simp
end
theorem byteCells_snoc (out : List UInt8) (c : UInt8) : Lib.byteCells out ++ [.int .u8 (c.toNat : Int)] = Lib.byteCells (out ++ [c]) := by simp [Lib.byteCells]
theorem byteCells_length (out : List UInt8) : (Lib.byteCells out).length = out.length := by simp [Lib.byteCells]

theorem digit_q (c : UInt8) (w : World) :
    Calls Tryz.prog 90 #[.int .u8 (c.toNat : Int)] w fun e w' => e = .returned (.int .i64 (hexv c)) ∧ w' = w :=
  (digit_any c w).mono fun _ _ h => ⟨h.1, h.2.symm⟩

theorem hexv_range (c : UInt8) : -1 ≤ hexv c ∧ hexv c ≤ 15 := by unfold hexv; split <;> (try split) <;> omega
theorem IsBuilder_drewN {B b : Nat} {bs : List Value} {w : World} (h : Lib.IsBuilder 85 5 B b bs w) (n : Nat) : Lib.IsBuilder 85 5 B b bs (w.drewN n) := h

theorem or_hexF : ∀ a b : Fin 16, bits .or .i64 ((a.val : Int) * 16) (b.val : Int) % 256 = ((UInt8.ofNat ((a.val : Int) * 16 + (b.val : Int)).toNat).toNat : Int) := by decide +kernel
theorem or_hex {y1 y2 : Int} (h1 : 0 ≤ y1) (h2 : y1 ≤ 15) (h3 : 0 ≤ y2) (h4 : y2 ≤ 15) : bits .or .i64 (y1 * 16) y2 % 256 = ((UInt8.ofNat (y1 * 16 + y2).toNat).toNat : Int) := by
  have := or_hexF ⟨y1.toNat, by omega⟩ ⟨y2.toNat, by omega⟩
  simpa [Int.toNat_of_nonneg h1, Int.toNat_of_nonneg h3] using this

def TextRel (w : World) (l : List UInt8) (i : Value) (wr : World) : Prop :=
  ∃ (k : Nat) (out : List UInt8), k ≤ l.length ∧ i = .int .i64 (k : Int) ∧ Lib.IsBuilder 85 5 w.heap.size w.heap.size (Lib.byteCells out) wr ∧ Below w.heap.size w wr ∧ out.length ≤ k ∧ stands l = (stands (l.drop k)).map (out ++ ·)

def TextPost (r : List UInt8 × Bool) (w : World) (e : Ending) (w' : World) : Prop := e = .returned (.tuple #[.string (ba r.1), .bool r.2]) ∧ Below w.heap.size w w'

set_option maxHeartbeats 2000000 in
set_option maxRecDepth 100000 in
theorem text_loop (s : ByteArray) (w : World) (hs : s.size ≤ 140737488351232) (hm : s.data.toList ≠ [45]) :
    Calls Tryz.prog 59 #[.string s] w (TextPost (textS s.data.toList) w) := by
  have ht : textS s.data.toList = (match stands s.data.toList with | some o => (o, true) | none => ([], false)) := if_neg hm
  have hq : (s.toList == ([45] : List UInt8)) = false := by rw [Lib.toList_data]; simpa using hm
  have HT := Lib.hid ht
  clear ht hm
  go_enter Tryz.func59, Tryz.ntmps59
  go_wp2_with fail
  have hb0 := Lib.fresh_isBuilder 85 5 w
  have k0 := (Below.refl w.heap.size w).alloc (Nat.le_refl _) (.cells #[.pointer none, .slice none 0 0] 85)
  go_loopw [5] (TextRel w s.data.toList) (fun i _ => s.size - (intOf i).toNat)
  case atStart => exact ⟨0, [], Nat.zero_le _, rfl, hb0, k0, Nat.le_refl _, by simp⟩
  case round =>
    obtain ⟨k, out, hk, rfl, hb, bw, hol, hst⟩ := hrel
    rw [← size_list] at hk
    have HST := Lib.hid hst
    clear hst hb0 k0
    have hsz : w.heap.size ≤ wr.heap.size := bw.size
    by_cases hlt : k < s.size
    · have hc : s[k].toNat < 256 := s[k].toNat_lt
      have hd := drop_get s k hlt
      by_cases hbad : badB s[k] = true
      · have hn := st_bad HST.out hd hbad
        have HN := Lib.hid hn
        have hbad' : s[k].toNat < 33 ∨ 126 < s[k].toNat := by unfold badB at hbad; simpa using hbad
        clear hn hd hbad HST
        rcases hbad' with hb' | hb'
        · have t1 : decide ((s[k].toNat : Int) < 33) = true := by simp; omega
          go_wp2_with fail
          go_ret2
          exact ⟨by rw [HT.out, HN.out]; rfl, bw⟩
        · have t1 : decide ((s[k].toNat : Int) < 33) = false := by simp; omega
          have t2 : decide (126 < (s[k].toNat : Int)) = true := by simp; omega
          go_wp2_with fail
          go_ret2
          exact ⟨by rw [HT.out, HN.out]; rfl, bw⟩
      · have hbad' : badB s[k] = false := by simpa using hbad
        have t1 : decide ((s[k].toNat : Int) < 33) = false := by unfold badB at hbad; simp at hbad ⊢; omega
        have t2 : decide (126 < (s[k].toNat : Int)) = false := by unfold badB at hbad; simp at hbad ⊢; omega
        by_cases h37 : s[k] = 37
        · have t3 : ((s[k].toNat : Int) != 37) = false := by rw [h37]; rfl
          rw [h37] at hd
          by_cases hsh : s.size ≤ k + 2
          · have hn := st_short HST.out hd (by rw [List.length_drop, ← size_list]; omega)
            have HN := Lib.hid hn
            have t4 : decide ((s.size : Int) ≤ (k : Int) + 2) = true := by simp; omega
            clear hn hd hbad hbad' h37 HST
            go_wp2_with fail
            go_ret2
            exact ⟨by rw [HT.out, HN.out]; rfl, bw⟩
          · have t4 : decide ((s.size : Int) ≤ (k : Int) + 2) = false := by simp; omega
            rw [drop_get s (k + 1) (by omega), drop_get s (k + 1 + 1) (by omega)] at hd
            have HD := Lib.hid hd
            have k1 : k + 1 < s.size := by omega
            have k2 : k + 2 < s.size := by omega
            clear hd hbad hbad' h37
            go_wp2_with fail
            have v1 : IntKind.i64.wrap ((k : Int) + 1) = (k : Int) + 1 := IntWalk.i64_in _ (by omega)
            have v2 : IntKind.i64.wrap ((k : Int) + 2) = (k : Int) + 2 := IntWalk.i64_in _ (by omega)
            have v3 : 0 ≤ (k : Int) + 1 := by omega
            have v4 : 0 ≤ (k : Int) + 2 := by omega
            have v5 : ((k : Int) + 1).toNat = k + 1 := by omega
            have v6 : ((k : Int) + 2).toNat = k + 2 := by omega
            have v7 : (k : Int) + 1 < (s.size : Int) := by omega
            have v8 : (k : Int) + 2 < (s.size : Int) := by omega
            go_quiet ((go_at_call 90; exact Calls.quiet_of_same (digit_q _ _)))
            have HD' : Hid (s.data.toList.drop k = 37 :: s[k + 1] :: s[k + 2] :: s.data.toList.drop (k + 3)) := HD
            clear HD
            generalize s[k + 1] = ca at HD' ⊢
            generalize s[k + 2] = cb at HD' ⊢
            clear v1 v2 v5 v6 v3 v4 v7 v8
            have x1 := hexv_range ca
            have x2 := hexv_range cb
            have hbq := IsBuilder_drewN hb nq
            have bwq : Below w.heap.size w (wr.drewN nq) := ⟨bw.os, bw.tape, bw.output, bw.size, bw.block⟩
            have hszq : w.heap.size ≤ (wr.drewN nq).heap.size := hsz
            clear hb bw hsz
            generalize wr.drewN nq = wq at hbq bwq hszq ⊢
            by_cases hneg : hexv ca < 0 ∨ hexv cb < 0
            · have hn := st_hexbad HST.out HD'.out hneg
              have HN := Lib.hid hn
              clear hn HD' HST
              generalize hexv ca = y1 at x1 hneg ⊢
              generalize hexv cb = y2 at x2 hneg ⊢
              rcases hneg with hn1 | hn2
              · have t5 : decide (y1 < 0) = true := by simpa using hn1
                go_wp2_with fail
                go_ret2
                exact ⟨by rw [HT.out, HN.out]; rfl, bwq⟩
              · by_cases hn1 : y1 < 0
                · have t5 : decide (y1 < 0) = true := by simpa using hn1
                  go_wp2_with fail
                  go_ret2
                  exact ⟨by rw [HT.out, HN.out]; rfl, bwq⟩
                · have t5 : decide (y1 < 0) = false := by simpa using hn1
                  have t6 : decide (y2 < 0) = true := by simpa using hn2
                  go_wp2_with fail
                  go_ret2
                  exact ⟨by rw [HT.out, HN.out]; rfl, bwq⟩
            · have hn := st_hex HST.out HD'.out hneg
              have HN := Lib.hid hn
              clear hn HD' HST
              generalize hexv ca = y1 at x1 hneg HN ⊢
              generalize hexv cb = y2 at x2 hneg HN ⊢
              have t5 : decide (y1 < 0) = false := by simp; omega
              have t6 : decide (y2 < 0) = false := by simp; omega
              have hlen : (Lib.byteCells out).length + 1 ≤ 140737488355328 := by rw [byteCells_length]; omega
              go_wp2_with fail
              refine (writeByte_any w.heap.size w.heap.size (Lib.byteCells out) _ wq hbq hlen hszq).mono ?_
              rintro e w1 ⟨rfl, hb1, bw1⟩
              rw [or_hex (by omega) (by omega) (by omega) (by omega), byteCells_snoc] at hb1
              go_wp2_with fail
              go_roundw
              case rel => exact ⟨k + 3, _, by rw [← size_list]; omega, by go_num, hb1, bwq.trans bw1, by simp; omega, HN.out⟩
              case measure => simp [intOf]; omega
        · have t3 : ((s[k].toNat : Int) != 37) = true := by
            simp only [bne_iff_ne, ne_eq]
            intro h
            exact h37 (UInt8.toNat_inj.1 (by show _ = 37; omega))
          have hn := st_one HST.out hd hbad' h37
          have HN := Lib.hid hn
          have hlen : (Lib.byteCells out).length + 1 ≤ 140737488355328 := by rw [byteCells_length]; omega
          have CW := writeByte_any w.heap.size w.heap.size (Lib.byteCells out) (s[k].toNat : Int) wr hb hlen hsz
          rw [byteCells_snoc] at CW
          have HW := Lib.hid CW
          clear hn hd hbad hbad' h37 HST CW hlen
          go_wp2_with fail
          refine HW.out.mono ?_
          rintro e w1 ⟨rfl, hb1, bw1⟩
          clear HW
          go_wp2_with fail
          go_roundw
          case rel => exact ⟨k + 1, _, by rw [← size_list]; omega, by go_num, hb1, bw.trans bw1, by simp; omega, HN.out⟩
          case measure => simp [intOf]; omega
    · have hn := st_end HST.out (by rw [← size_list]; omega)
      have HN := Lib.hid hn
      clear hn HST
      go_wp2_with fail
      refine (Tryz.Builder_String_any w.heap.size w.heap.size out wr hb hsz).mono ?_
      rintro e w1 ⟨rfl, bw1⟩
      go_wp2_with fail
      go_ret2
      exact ⟨by rw [HT.out, HN.out]; rfl, bw.trans bw1⟩

set_option maxHeartbeats 400000 in
theorem text_any (s : ByteArray) (w : World) (hs : s.size ≤ 140737488351232) : Calls Tryz.prog 59 #[.string s] w (TextPost (textS s.data.toList) w) := by
  by_cases hm : s.data.toList = [45]
  · have hq : s = ⟨#[45]⟩ := by rw [← ba_data s, hm]; rfl
    subst hq
    go_enter Tryz.func59, Tryz.ntmps59
    go_wp2
    go_ret2
    exact ⟨rfl, Below.refl _ _⟩
  · exact text_loop s w hs hm

end Go.Proofs.YtfnfjfcncijapaaGreatDoor
