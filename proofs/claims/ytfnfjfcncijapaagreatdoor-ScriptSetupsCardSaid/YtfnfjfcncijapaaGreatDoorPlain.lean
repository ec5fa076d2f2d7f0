/- kinkeeplaw56.plain. -/
import Derived.Test.YtfnfjfcncijapaaGreatDoorTexts
namespace Go.Proofs.YtfnfjfcncijapaaGreatDoor
open Go.RowKit Go.Shelf
attribute [local go_sem] Oper.semAt_some

theorem info39 : (Tryz.prog.info? 39).map (fun i => (i.zero, i.size, i.bytes)) = some (some (.agg #[.string ⟨#[]⟩, .slice none 0 0]), 2, 40) := by kernel_rfl

def PlainRel (w : World) (sv : List (StepD × Option Addr × Nat)) (v i : Value) (wr : World) : Prop :=
  ∃ j : Nat, j ≤ sv.length ∧ i = .int .i64 (j : Int) ∧ wr.ownsRow w.heap.size 39 2 v j (svCells (sv.take j)) ∧ Below w.heap.size w wr

/-- One of the steps, by its own cells. -/
theorem Reads.step_at {w : World} {A : Option Addr} {sv : List (StepD × Option Addr × Nat)} (hr : Reads w w.heap.size 2 A sv.length (svCells sv)) {k : Nat} (hk : k < sv.length) :
    ∃ ab ao, A = some ⟨ab, ao, none⟩ ∧ ab < w.heap.size ∧ w.cell? ⟨ab, ao + k * 2, none⟩ = some (.string (ba sv[k].1.cmd)) ∧ w.cell? ⟨ab, ao + k * 2 + 1, none⟩ = some (.slice sv[k].2.1 sv[k].1.args.length sv[k].2.2) := by
  obtain ⟨⟨ab, ao, no⟩, rfl, hb, hc⟩ := hr.2 (by omega)
  have hno : no = none := by
    have h0 := World.cell?_spot (hc (0 * 2) _ (svCells_get (k := 0) (by omega)).1)
    simpa [Addr.add] using h0
  subst hno
  have h1 := hc (k * 2) _ (svCells_get hk).1
  have h2 := hc (k * 2 + 1) _ (svCells_get hk).2
  rw [Addr.add_lit] at h1 h2
  rw [← Nat.add_assoc] at h2
  exact ⟨ab, ao, rfl, hb, h1, h2⟩
theorem svCells_take {sv : List (StepD × Option Addr × Nat)} {j : Nat} (h : j < sv.length) : svCells (sv.take (j + 1)) = svCells (sv.take j) ++ [.string (ba sv[j].1.cmd), .slice sv[j].2.1 sv[j].1.args.length sv[j].2.2] := by
  rw [List.take_succ_eq_append_getElem h, svCells_snoc]

set_option maxHeartbeats 1000000 in
theorem plain_cap {A : Option Addr} {xs : List StepD} (ca : Nat) (w : World) (ha : StepsAt w A xs) (hx : xs.length ≤ 100000) :
    Calls Tryz.prog 13 #[.slice A xs.length ca] w fun e w' => ∃ B cb, e = .returned (.slice B xs.length cb) ∧ xs.length ≤ cb ∧ StepsAt w' B xs ∧ Below w.heap.size w w' := by
  obtain ⟨sv, rfl, hr, hs⟩ := ha
  simp only [List.length_map] at hx hr ⊢
  obtain ⟨i0, hi, hz0, hz1, hz2⟩ := info_parts info39
  go_enter Tryz.func13, Tryz.ntmps13
  go_wp2_with fail
  go_loopw [3, 4] (PlainRel w sv) (fun _ i _ => sv.length - (intOf i).toNat)
  case atStart => exact ⟨0, Nat.zero_le _, rfl, World.ownsRow_made w #[] 0 (Nat.le_refl _) (by simp) (by simp), (Below.refl _ _).alloc (Nat.le_refl _) _⟩
  case round =>
    obtain ⟨j, hj, rfl, how, hb⟩ := hrel
    have kr : Kept NoF w wr := Kept.of_below hb
    have hrr : Reads wr wr.heap.size 2 A sv.length (svCells sv) := kr.src hr (fun _ _ _ h => h)
    have hwz := hb.size
    by_cases hlt : j < sv.length
    · obtain ⟨xb, xo, rfl, hxb, c0, c1⟩ := hrr.step_at hlt
      have i1 : (j : Int) < (sv.length : Int) := by omega
      go_wp2_with (at_builtin; refine wpList_append_own_at _ rfl _ _ 27 rfl w.heap.size 39 i0 (.agg #[.string ⟨#[]⟩, .slice none 0 0]) 2 40 Tryz.underlying27 hi hz0 hz1 hz2 rfl (by decide) _ _ _ rfl (how.alloc _) ⟨wr.heap.size, 0, none⟩ 1 1 [.string (ba sv[j].1.cmd), .slice sv[j].2.1 sv[j].1.args.length sv[j].2.2] rfl rfl ?d1 ?d2 ?d3 ?d4 ?d5 ?_)
      case d1 =>
        intro q u hu
        rw [Addr.add_lit, (Blk.new wr 39 _).cell, Nat.zero_add, ← Array.getElem?_toList]
        exact hu
      case d2 => intro u hu; simp at hu; rcases hu with rfl | rfl <;> rfl
      case d3 => unfold maxLen; omega
      case d4 => omega
      case d5 => simp; omega
      intro v' w1 hown' hgrow _ hat
      obtain ⟨g', cap', rfl⟩ := ownsRow_succ hown'
      have bw1 : Below w.heap.size w w1 := (hb.alloc hwz _).grown hgrow (by simp; omega) (fun k hk => (how.lt k hk).1)
      go_wp2_with fail
      go_roundw
      case rel =>
        refine ⟨j + 1, hlt, by go_num, ?_, bw1⟩
        rw [svCells_take hlt]
        exact hown'
      case measure => simp [intOf]; omega
    · obtain rfl : j = sv.length := by omega
      obtain ⟨B, cb, rfl, hcb, _⟩ := own_form how
      go_wp2
      go_ret
      rw [List.take_length] at how
      exact ⟨B, cb, rfl, hcb, ⟨sv, rfl, by simpa using Reads.of_own how, fun x hx => (hs x hx).same kr⟩, hb⟩

theorem plain_any {A : Option Addr} {xs : List StepD} (ca : Nat) (w : World) (ha : StepsAt w A xs) (hx : xs.length ≤ 100000) :
    Calls Tryz.prog 13 #[.slice A xs.length ca] w fun e w' => ∃ B cb, e = .returned (.slice B xs.length cb) ∧ StepsAt w' B xs ∧ Below w.heap.size w w' :=
  (plain_cap ca w ha hx).mono fun _ _ ⟨B, cb, h1, _, h2, h3⟩ => ⟨B, cb, h1, h2, h3⟩

end Go.Proofs.YtfnfjfcncijapaaGreatDoor
