/- What the package variables hold that the library's functions read; numbers' forms. -/
import Derived.Test.YtfnfjfcncijapaaGreatDoorRep
import Derived.Test.YtfnfjfcncijapaaGreatDoorParts
import Derived.Test.YtfnfjfcncijapaaGreatDoorShelf
import Derived.WalkKit
import Derived.WalkSmall
import Derived.WalkSpells
import Derived.WalkLawsBesides
import Derived.Outline
import Derived.Lib.Hide
import Derived.Lib.SmallJoins
namespace Go.Proofs.YtfnfjfcncijapaaGreatDoor
open Go.RowKit Go.Sort

/-- What lies in the variables of Go's library. -/
structure Env (w : World) : Prop where
  size : 8 ≤ w.heap.size
  spc : Lib.TabIs Tryz.prog w "strings.asciiSpace" .u8 Lib.asciiSpaceTab
  pow : Lib.TabIs Tryz.prog w "internal/strconv.uint64pow10" .u64 Lib.pow10Tab
  esyn : ∃ tp p, w.var? Tryz.prog "strconv.ErrSyntax" = some #[.iface tp p]
  ernge : ∃ tp p, w.var? Tryz.prog "strconv.ErrRange" = some #[.iface tp p]

theorem small_of {o : Option Nat} (h : o.map (fun g => decide (g < 8)) = some true) : ∃ g, o = some g ∧ g < 8 := by
  cases o with
  | none => cases h
  | some g => exact ⟨g, rfl, by simpa using h⟩
theorem gSpc : ∃ g, Tryz.prog.globalNamed "strings.asciiSpace" = some g ∧ g < 8 := small_of (by kernel_rfl)
theorem gPow : ∃ g, Tryz.prog.globalNamed "internal/strconv.uint64pow10" = some g ∧ g < 8 := small_of (by kernel_rfl)
theorem gSyn : ∃ g, Tryz.prog.globalNamed "strconv.ErrSyntax" = some g ∧ g < 8 := small_of (by kernel_rfl)
theorem gRng : ∃ g, Tryz.prog.globalNamed "strconv.ErrRange" = some g ∧ g < 8 := small_of (by kernel_rfl)

theorem Env.below {w w' : World} {B : Nat} (h : Env w) (hb : Below B w w') (hB : 8 ≤ B) : Env w' := by
  obtain ⟨g1, e1, l1⟩ := gSpc
  obtain ⟨g2, e2, l2⟩ := gPow
  obtain ⟨g3, e3, l3⟩ := gSyn
  obtain ⟨g4, e4, l4⟩ := gRng
  obtain ⟨t, p, hs⟩ := h.esyn
  obtain ⟨t', p', hr⟩ := h.ernge
  exact ⟨Nat.le_trans h.size hb.size, var?_below hb e1 (by omega) h.spc, var?_below hb e2 (by omega) h.pow, ⟨t, p, var?_below hb e3 (by omega) hs⟩, ⟨t', p', var?_below hb e4 (by omega) hr⟩⟩
theorem Env.later {w w' : World} (h : Env w) (hb : Below w.heap.size w w') : Env w' := h.below hb h.size
theorem Env.kept {w w' : World} {F : Nat → Prop} (h : Env w) (k : Kept F w w') (hF : ∀ x, F x → 8 ≤ x) : Env w' := h.below (k.below h.size hF) (Nat.le_refl _)

/-- The form of a number, as script.isNumber asks for it. -/
def isNumB (s : List UInt8) : Bool := match Lib.parseIntB 64 s with
  | .ok v => Lib.itoa v == s
  | _ => false

/-- The value of a hexadecimal digit, or -1. -/
def hexv (c : UInt8) : Int := if 48 ≤ c.toNat ∧ c.toNat ≤ 57 then (c.toNat : Int) - 48 else if 97 ≤ c.toNat ∧ c.toNat ≤ 102 then (c.toNat : Int) - 87 else -1

theorem below_grow (w : World) (k : Nat) (os : Array Obj) : Below w.heap.size w (grow (w.drewN k) os) :=
  ⟨rfl, rfl, rfl, by simp [grow], fun i hi => by
    show (w.heap ++ os)[i]? = w.heap[i]?
    rw [Array.getElem?_append_left hi]⟩

theorem below_bytes (w : World) (e : TypeId) (s : ByteArray) : Below w.heap.size w (Lib.bytesWorld w e s) := Lib.bytesWorld_below _ _ _

set_option maxHeartbeats 400000 in
theorem digit_any (c : UInt8) (w : World) :
    Calls Tryz.prog 90 #[.int .u8 (c.toNat : Int)] w fun e w' => e = .returned (.int .i64 (hexv c)) ∧ w = w' := by
  have hc := c.toNat_lt
  by_cases h1 : 48 ≤ c.toNat ∧ c.toNat ≤ 57
  · have hv : hexv c = (c.toNat : Int) - 48 := if_pos h1
    rw [hv]
    obtain ⟨a1, a2⟩ := h1
    clear hv
    go_enter Tryz.func90, Tryz.ntmps90
    go_wp2
    go_ret
    exact ⟨rfl, rfl⟩
  · by_cases h2 : 97 ≤ c.toNat ∧ c.toNat ≤ 102
    · have hv : hexv c = (c.toNat : Int) - 97 + 10 := by unfold hexv; rw [if_neg h1, if_pos h2]; omega
      rw [hv]
      obtain ⟨a1, a2⟩ := h2
      clear hv h1
      go_enter Tryz.func90, Tryz.ntmps90
      go_wp2
      go_ret
      exact ⟨rfl, rfl⟩
    · have hv : hexv c = -1 := by unfold hexv; rw [if_neg h1, if_neg h2]
      rw [hv]
      clear hv
      go_enter Tryz.func90, Tryz.ntmps90
      go_wp2
      all_goals first | (exfalso; omega) | (go_ret; exact ⟨rfl, rfl⟩)

theorem parseInt_bounds {s : List UInt8} {v : Int} (h : Lib.parseIntB 64 s = .ok v) : -9223372036854775808 ≤ v ∧ v ≤ 9223372036854775807 := by
  cases s with
  | nil => simp [Lib.parseIntB] at h
  | cons c r =>
    unfold Lib.parseIntB at h
    simp only at h
    split at h
    · cases h
    · cases h
    · rename_i u hu
      split at h
      · cases h
      · split at h
        · cases h
        · rename_i h1 h2
          injection h with h
          subst h
          split
          · rename_i hn
            have : ¬ (9223372036854775808 < u) := fun hh => h2 ⟨hn, hh⟩
            omega
          · rename_i hn
            have : ¬ (9223372036854775808 ≤ u) := fun hh => h1 ⟨hn, hh⟩
            omega

set_option maxHeartbeats 1000000 in
theorem isNumber_ok (s : ByteArray) (w : World) (hE : Env w) (hs : s.size ≤ 140737488355328) (v : Int) (hp : Lib.parseIntB 64 s.data.toList = .ok v) :
    Calls Tryz.prog 97 #[.string s] w fun e w' => e = .returned (.bool (isNumB s.data.toList)) ∧ Below w.heap.size w w' := by
  have hv : isNumB s.data.toList = (Lib.itoa v == s.data.toList) := by unfold isNumB; rw [hp]
  have HV := Lib.hid hv
  have HP := Lib.hid hp
  clear hv hp
  go_enter Tryz.func97, Tryz.ntmps97
  go_wp2_with fail
  refine (Tryz.strconv_ParseInt_10_at64_ok s (by omega) v HP.out _).mono ?_
  rintro e w1 ⟨rfl, h1⟩
  have b1 : Below w.heap.size w w1 := by
    rcases h1 with rfl | ⟨t, rfl⟩
    · exact Below.refl _ _
    · exact below_bytes _ _ _
  clear h1
  have e1 := hE.later b1
  go_wp2_with fail
  refine (Tryz.strconv_FormatInt_10 v (parseInt_bounds HP.out).1 (parseInt_bounds HP.out).2 _ e1.pow).mono ?_
  rintro e w2 ⟨rfl, k, os, rfl⟩
  have b2 := b1.trans ((below_grow w1 k os).mono b1.size)
  generalize grow (w1.drewN k) os = w2 at b2 ⊢
  have hba : (⟨(Lib.itoa v).toArray⟩ : ByteArray) = ba (Lib.itoa v) := rfl
  rw [hba]
  clear hba
  go_wp2_with fail
  go_ret
  refine ⟨?_, b2⟩
  rw [HV.out]
  show Ending.returned (.bool ((ba (Lib.itoa v)).toList == s.toList)) = _
  rw [Lib.toList_data, Lib.toList_data, ba_toList]

set_option maxHeartbeats 1000000 in
theorem isNumber_syn (s : ByteArray) (w : World) (hE : Env w) (hs : s.size ≤ 140737488355328) (hp : Lib.parseIntB 64 s.data.toList = .syntax) :
    Calls Tryz.prog 97 #[.string s] w fun e w' => e = .returned (.bool false) ∧ Below w.heap.size w w' := by
  obtain ⟨tp, p, hvar⟩ := hE.esyn
  have HP := Lib.hid hp
  have HV := Lib.hid hvar
  clear hp hvar
  go_enter Tryz.func97, Tryz.ntmps97
  go_wp2_with fail
  refine (Tryz.strconv_ParseInt_10_at64_syntax_var s (by omega) HP.out tp p _ HV.out).mono ?_
  rintro e w1 ⟨n, rfl, _, _, b1⟩
  go_wp2_with fail
  go_ret
  exact ⟨rfl, b1⟩

set_option maxHeartbeats 1000000 in
theorem isNumber_rng (s : ByteArray) (w : World) (hE : Env w) (hs : s.size ≤ 140737488355328) (hp : Lib.parseIntB 64 s.data.toList = .range) :
    Calls Tryz.prog 97 #[.string s] w fun e w' => e = .returned (.bool false) ∧ Below w.heap.size w w' := by
  obtain ⟨tp, p, hvar⟩ := hE.ernge
  have HP := Lib.hid hp
  have HV := Lib.hid hvar
  clear hp hvar
  go_enter Tryz.func97, Tryz.ntmps97
  go_wp2_with fail
  refine (Tryz.strconv_ParseInt_10_at64_range_var s (by omega) HP.out tp p _ HV.out).mono ?_
  rintro e w1 ⟨n, rfl, _, _, b1⟩
  go_wp2_with fail
  go_ret
  exact ⟨rfl, b1⟩

theorem isNumber_any (s : ByteArray) (w : World) (hE : Env w) (hs : s.size ≤ 140737488355328) :
    Calls Tryz.prog 97 #[.string s] w fun e w' => e = .returned (.bool (isNumB s.data.toList)) ∧ Below w.heap.size w w' := by
  rcases hp : Lib.parseIntB 64 s.data.toList with v | _ | _
  · exact isNumber_ok s w hE hs v hp
  · have : isNumB s.data.toList = false := by unfold isNumB; rw [hp]
    rw [this]
    exact isNumber_syn s w hE hs hp
  · have : isNumB s.data.toList = false := by unfold isNumB; rw [hp]
    rw [this]
    exact isNumber_rng s w hE hs hp

end Go.Proofs.YtfnfjfcncijapaaGreatDoor
