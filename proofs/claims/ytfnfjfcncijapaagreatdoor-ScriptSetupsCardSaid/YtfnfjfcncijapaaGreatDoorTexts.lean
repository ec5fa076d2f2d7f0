/- kinkeepref56.Texts, kinkeepref56.Same, kinkeeplaw56.plain. -/
import Derived.Test.YtfnfjfcncijapaaGreatDoorParse
import Derived.BigQuiet
import Derived.Deep.QuietTactic
namespace Go.Proofs.YtfnfjfcncijapaaGreatDoor
open Go.RowKit Go.Shelf
attribute [local go_sem] Oper.semAt_some

/-- Nothing but the count of draws has turned. -/
def Drawn (w w' : World) : Prop := ∃ m, w' = w.drewN m
theorem Drawn.refl (w : World) : Drawn w w := ⟨0, rfl⟩
theorem Drawn.drewN {w w' : World} (h : Drawn w w') (n : Nat) : Drawn w (w'.drewN n) := by obtain ⟨m, rfl⟩ := h; exact ⟨m + n, World.drewN_drewN _ _ _⟩
theorem Drawn.kept {F : Nat → Prop} {w w' : World} (h : Drawn w w') : Kept F w w' := by obtain ⟨m, rfl⟩ := h; exact (Kept.refl _ _).drewN _

def AlikeRel (w : World) (xs ys : List (List UInt8)) (i : Value) (wr : World) : Prop := ∃ j : Nat, j ≤ xs.length ∧ i = .int .i64 (j : Int) ∧ xs.take j = ys.take j ∧ Drawn w wr

theorem StrsAt.same {w w' : World} {A : Option Addr} {xs : List (List UInt8)} (h : StrsAt w A xs) (k : Kept NoF w w') : StrsAt w' A xs := k.src h (fun _ _ _ h => h)

theorem take_eq_all {α : Type} {xs ys : List α} (hl : xs.length = ys.length) (h : xs.take xs.length = ys.take xs.length) : xs = ys := by
  rw [List.take_length, hl, List.take_length] at h; exact h
theorem take_snoc_eq {α : Type} {xs ys : List α} {j : Nat} (hx : j < xs.length) (hy : j < ys.length) (h : xs.take j = ys.take j) (he : xs[j] = ys[j]) : xs.take (j + 1) = ys.take (j + 1) := by
  rw [List.take_succ_eq_append_getElem hx, List.take_succ_eq_append_getElem hy, h, he]
theorem str_beq (x y : List UInt8) : ((ba x).toList == (ba y).toList) = decide (x = y) := by
  rw [Lib.toList_data, Lib.toList_data, ba_toList, ba_toList]; by_cases h : x = y <;> simp [h]

set_option maxHeartbeats 1000000 in
theorem texts_any {A B : Option Addr} {xs ys : List (List UInt8)} (ca cb : Nat) (w : World) (ha : StrsAt w A xs) (hb : StrsAt w B ys) (hx : xs.length ≤ 100000) (hy : ys.length ≤ 100000) :
    Calls Tryz.prog 34 #[.slice A xs.length ca, .slice B ys.length cb] w fun e w' => e = .returned (.bool (decide (xs = ys))) ∧ ∃ m, w' = w.drewN m := by
  by_cases hl : xs.length = ys.length
  · have hl' : ((xs.length : Int) != (ys.length : Int)) = false := by simp; omega
    have HL := Lib.hid hl
    clear hl
    go_enter Tryz.func34, Tryz.ntmps34
    go_wp2_with fail
    go_loopw [5] (AlikeRel w xs ys) (fun i _ => xs.length - (intOf i).toNat)
    case atStart => exact ⟨0, Nat.zero_le _, rfl, rfl, Drawn.refl _⟩
    case round =>
      obtain ⟨j, hj, rfl, ht, kd⟩ := hrel
      have kr : Kept NoF w wr := kd.kept
      have HT := Lib.hid ht
      clear ht
      by_cases hlt : j < xs.length
      · have hlt2 : j < ys.length := by have := HL.out; omega
        obtain ⟨xb, xo, rfl, hxb, hcx⟩ := (ha.same kr).at_ hlt
        obtain ⟨yb, yo, rfl, hyb, hcy⟩ := (hb.same kr).at_ hlt2
        have i1 : (j : Int) < (xs.length : Int) := by omega
        have i2 : (j : Int) < (ys.length : Int) := by omega
        have hsb := str_beq xs[j] ys[j]
        by_cases he : xs[j] = ys[j]
        · rw [decide_eq_true he] at hsb
          have HE := Lib.hid he
          clear he
          go_wp2_with fail
          go_quiet (fail)
          go_wp2_with fail
          go_roundw
          case rel => exact ⟨j + 1, hlt, by go_num, take_snoc_eq hlt hlt2 HT.out HE.out, kd.drewN _⟩
          case measure => simp [intOf]; omega
        · rw [decide_eq_false he] at hsb
          have HE := Lib.hid he
          clear he
          go_wp2_with fail
          go_quiet (fail)
          go_wp2_with fail
          go_ret
          have : ¬ xs = ys := fun h => HE.out (by subst h; rfl)
          exact ⟨by simp [this], kd.drewN _⟩
      · have hje : j = xs.length := by omega
        subst hje
        go_wp2
        go_ret
        exact ⟨by simp [take_eq_all HL.out HT.out], kd⟩
  · have hl' : ((xs.length : Int) != (ys.length : Int)) = true := by simp; omega
    go_enter Tryz.func34, Tryz.ntmps34
    go_wp2
    go_ret
    have : ¬ xs = ys := fun h => hl (by rw [h])
    exact ⟨by simp [this], Drawn.refl _⟩

theorem svCells_get {sv : List (StepD × Option Addr × Nat)} {k : Nat} (h : k < sv.length) : (svCells sv)[k * 2]? = some (.string (ba sv[k].1.cmd)) ∧ (svCells sv)[k * 2 + 1]? = some (.slice sv[k].2.1 sv[k].1.args.length sv[k].2.2) := by
  induction sv generalizing k with
  | nil => simp at h
  | cons x xs ih =>
    cases k with
    | zero => exact ⟨rfl, rfl⟩
    | succ k =>
      have := ih (k := k) (by simpa using h)
      simp only [svCells, List.flatMap_cons, List.cons_append, List.nil_append, Nat.succ_mul, Nat.add_assoc, List.getElem_cons_succ] at this ⊢
      exact this

/-- One of the steps. -/
theorem StepsAt.at_ {w : World} {A : Option Addr} {steps : List StepD} (h : StepsAt w A steps) {k : Nat} (hk : k < steps.length) :
    ∃ ab ao X cx, A = some ⟨ab, ao, none⟩ ∧ ab < w.heap.size ∧ w.cell? ⟨ab, ao + k * 2, none⟩ = some (.string (ba steps[k].cmd)) ∧ w.cell? ⟨ab, ao + k * 2 + 1, none⟩ = some (.slice X steps[k].args.length cx) ∧ StrsAt w X steps[k].args := by
  obtain ⟨sv, rfl, hr, ha⟩ := h
  have hk' : k < sv.length := by simpa using hk
  obtain ⟨⟨ab, ao, no⟩, rfl, hb, hc⟩ := hr.2 (by omega)
  have hno : no = none := by
    have h0 := World.cell?_spot (hc (0 * 2) _ (svCells_get (k := 0) (by omega)).1)
    simpa [Addr.add] using h0
  subst hno
  have h1 := hc (k * 2) _ (svCells_get hk').1
  have h2 := hc (k * 2 + 1) _ (svCells_get hk').2
  rw [Addr.add_lit] at h1 h2
  rw [← Nat.add_assoc] at h2
  simp only [List.getElem_map]
  exact ⟨ab, ao, _, _, rfl, hb, h1, h2, ha _ (List.getElem_mem hk')⟩
theorem StepsAt.same {w w' : World} {A : Option Addr} {xs : List StepD} (h : StepsAt w A xs) (k : Kept NoF w w') : StepsAt w' A xs := by
  obtain ⟨sv, hm, hr, ha⟩ := h
  exact ⟨sv, hm, k.src hr (fun _ _ _ h => h), fun x hx => (ha x hx).same k⟩

deriving instance DecidableEq for StepD

def SameRel (w : World) (xs ys : List StepD) (i : Value) (wr : World) : Prop := ∃ j : Nat, j ≤ xs.length ∧ i = .int .i64 (j : Int) ∧ xs.take j = ys.take j ∧ Drawn w wr

set_option maxHeartbeats 2000000 in
theorem same_any {A B : Option Addr} {xs ys : List StepD} (ca cb : Nat) (w : World) (ha : StepsAt w A xs) (hb : StepsAt w B ys) (hx : xs.length ≤ 100000) (hy : ys.length ≤ 100000) (hxa : ∀ x ∈ xs, x.args.length ≤ 100000) (hya : ∀ x ∈ ys, x.args.length ≤ 100000) :
    Calls Tryz.prog 12 #[.slice A xs.length ca, .slice B ys.length cb] w fun e w' => e = .returned (.bool (decide (xs = ys))) ∧ ∃ m, w' = w.drewN m := by
  by_cases hl : xs.length = ys.length
  · have hl' : ((xs.length : Int) != (ys.length : Int)) = false := by simp; omega
    have HL := Lib.hid hl
    clear hl
    go_enter Tryz.func12, Tryz.ntmps12
    go_wp2_with fail
    go_loopw [5] (SameRel w xs ys) (fun i _ => xs.length - (intOf i).toNat)
    case atStart => exact ⟨0, Nat.zero_le _, rfl, rfl, Drawn.refl _⟩
    case round =>
      obtain ⟨j, hj, rfl, ht, kd⟩ := hrel
      have kr : Kept NoF w wr := kd.kept
      have HT := Lib.hid ht
      clear ht
      by_cases hlt : j < xs.length
      · have hlt2 : j < ys.length := by have := HL.out; omega
        obtain ⟨xb, xo, X, cx, rfl, hxb, hcx, hcxa, hX⟩ := (ha.same kr).at_ hlt
        obtain ⟨yb, yo, Y, cy, rfl, hyb, hcy, hcya, hY⟩ := (hb.same kr).at_ hlt2
        have i1 : (j : Int) < (xs.length : Int) := by omega
        have i2 : (j : Int) < (ys.length : Int) := by omega
        have CT : ∀ n, Calls Tryz.prog 34 #[.slice X xs[j].args.length cx, .slice Y ys[j].args.length cy] (wr.drewN n) fun e w'' => e = .returned (.bool (decide (xs[j].args = ys[j].args))) ∧ ∃ m, w'' = wr.drewN m := fun n =>
          Calls.quiet_of (texts_any cx cy (wr.drewN n) (hX.same ((Kept.refl _ _).drewN _)) (hY.same ((Kept.refl _ _).drewN _)) (hxa _ (List.getElem_mem hlt)) (hya _ (List.getElem_mem hlt2)))
        have hsb := str_beq xs[j].cmd ys[j].cmd
        have hex : xs[j].cmd = ys[j].cmd → xs[j].args = ys[j].args → xs[j] = ys[j] := fun h1 h2 => by
          generalize xs[j] = x at h1 h2 ⊢
          generalize ys[j] = y at h1 h2 ⊢
          cases x; cases y; cases h1; cases h2; rfl
        have HNE : xs[j] ≠ ys[j] → ¬ xs = ys := fun h e => h (by subst e; rfl)
        have HEX := Lib.hid hex
        have HN := Lib.hid HNE
        have HCT := Lib.hid CT
        clear hex HNE CT hxa hya
        by_cases he : xs[j].cmd = ys[j].cmd
        · rw [decide_eq_true he] at hsb
          have HE := Lib.hid he
          clear he
          by_cases hf : xs[j].args = ys[j].args
          · rw [decide_eq_true hf] at HCT
            have HF := Lib.hid hf
            clear hf
            go_wp2_with fail
            go_quiet (first | (go_at_call 34; exact HCT.out _))
            go_wp2_with fail
            go_roundw
            case rel => exact ⟨j + 1, hlt, by go_num, take_snoc_eq hlt hlt2 HT.out (HEX.out HE.out HF.out), kd.drewN _⟩
            case measure => simp [intOf]; omega
          · rw [decide_eq_false hf] at HCT
            have HF := Lib.hid hf
            clear hf
            go_wp2_with fail
            go_quiet (first | (go_at_call 34; exact HCT.out _))
            go_wp2_with fail
            go_ret
            have : ¬ xs = ys := HN.out (fun h => HF.out (by rw [h]))
            exact ⟨by simp [this], kd.drewN _⟩
        · rw [decide_eq_false he] at hsb
          have HE := Lib.hid he
          clear he
          go_wp2_with fail
          go_quiet (first | (go_at_call 34; exact HCT.out _))
          go_wp2_with fail
          go_ret
          have : ¬ xs = ys := HN.out (fun h => HE.out (by rw [h]))
          exact ⟨by simp [this], kd.drewN _⟩
      · have hje : j = xs.length := by omega
        subst hje
        go_wp2
        go_ret
        exact ⟨by simp [take_eq_all HL.out HT.out], kd⟩
  · have hl' : ((xs.length : Int) != (ys.length : Int)) = true := by simp; omega
    go_enter Tryz.func12, Tryz.ntmps12
    go_wp2
    go_ret
    have : ¬ xs = ys := fun h => hl (by rw [h])
    exact ⟨by simp [this], Drawn.refl _⟩

end Go.Proofs.YtfnfjfcncijapaaGreatDoor
