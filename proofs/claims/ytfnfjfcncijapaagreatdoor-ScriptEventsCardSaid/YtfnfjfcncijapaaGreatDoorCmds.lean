/- script.Commands. -/
import Derived.Test.YtfnfjfcncijapaaGreatDoorIter
import Derived.Test.YtfnfjfcncijapaaGreatDoorAwake
namespace Go.Proofs.YtfnfjfcncijapaaGreatDoor
open Go.RowKit Go.Shelf Go.Maps Go.Sort
attribute [local go_sem] Oper.semAt_some

/-- The commands, ascending. -/
def cmdNames : List (List UInt8) := refTable.map (·.1)
def anyR (_ : Value) : Option (DataW Unit × List MemPlace) := some (.nil, [])
theorem tab_keys {α : Type} {f : α → Value} : ∀ (t : List (List UInt8 × α)) (n : Nat), (tabEntries f t n).map (·.key) = t.map (fun p => .string (ba p.1))
  | [], _ => rfl
  | (k, a) :: t, n => by simp only [tabEntries, List.map_cons]; rw [tab_keys t (n + 1)]
theorem tab_born {α : Type} {f : α → Value} : ∀ (t : List (List UInt8 × α)) (n : Nat), (tabEntries f t n).map (·.born) = List.range' n t.length
  | [], _ => rfl
  | (k, a) :: t, n => by simp only [tabEntries, List.map_cons, List.length_cons, List.range'_succ]; rw [tab_born t (n + 1)]
theorem tab_length {α : Type} {f : α → Value} (t : List (List UInt8 × α)) (n : Nat) : (tabEntries f t n).length = t.length := by
  have := congrArg List.length (tab_keys (f := f) t n); simpa using this
theorem cmd_nodup : (cmdTable.map (·.1)).Nodup := by decide +kernel
theorem tab_rd {x : MapEntry} (h : x ∈ tabEntries cmdVal cmdTable 0) : ∃ y, Go.WideElems.rd Tryz.prog 9 anyR x = some y := by
  have hk : x.key ∈ (tabEntries cmdVal cmdTable 0).map (·.key) := List.mem_map.2 ⟨x, h, rfl⟩
  rw [tab_keys] at hk
  obtain ⟨p, hp, e⟩ := List.mem_map.1 hk
  have hz : p.1.length ≤ 10 := (table_small p hp).1
  unfold Go.WideElems.rd
  rw [← e]
  have hs : (ba p.1).size ≤ maxLen := by rw [ba_size]; unfold maxLen; omega
  simp [keyOf, mapKey, Tryz.underlying9, anyR, hs]

theorem cmd_owns {W : World} {b : Nat} (h : W.heap[b]? = some cmdMap) : ∃ D : DataW Unit, W.ownsMap Tryz.prog 9 anyR b 34 D ∧ (strKeys D).isPerm cmdNames = true ∧ Maps.size D = 34 := by
  refine ⟨_, ⟨_, _, h, ⟨by simp [tab_length]; decide, ⟨fun x hx => ?_, ?_, ?_⟩, fun x hx => tab_rd (by simpa using hx)⟩, by simp [tab_length]; decide, rfl⟩, by kernel_rfl, by kernel_rfl⟩
  · have hb : x.born ∈ (tabEntries cmdVal cmdTable 0).map (·.born) := List.mem_map.2 ⟨x, by simpa using hx, rfl⟩
    rw [tab_born] at hb
    have := List.mem_range'.1 hb
    obtain ⟨i, hi, e⟩ := this
    have h34 : cmdTable.length = 34 := rfl
    omega
  · simp only [tab_born]
    exact List.nodup_range'
  · simp only [tab_keys]
    have := cmd_nodup
    rw [show (cmdTable.map fun p => Value.string (ba p.1)) = (cmdTable.map (·.1)).map (fun k => Value.string (ba k)) by rw [List.map_map]; rfl]
    exact List.Pairwise.map _ (fun a b hab e => hab (ba_inj (by injection e))) this

theorem names_sorted : cmdNames.Pairwise (fun x y => decide (x ≤ y) = true) := by decide +kernel
theorem names_merge {ss : List (List UInt8)} {D : DataW Unit} (hD : (strKeys D).isPerm cmdNames = true) (h : ss.Perm (strKeys D)) : ss.mergeSort (fun x y => decide (x ≤ y)) = cmdNames := by
  have h2 : ss.Perm cmdNames := h.trans (List.isPerm_iff.1 hD)
  rw [show ss.mergeSort (fun x y => decide (x ≤ y)) = cmdNames.mergeSort (fun x y => decide (x ≤ y)) from mergeSort_of_perm h2]
  exact List.mergeSort_of_pairwise names_sorted

set_option maxHeartbeats 1000000 in
set_option maxRecDepth 100000 in
theorem commandsS_any (w : World) : Calls Tryz.prog 25 #[] w fun e w' => ∃ B cb, e = .returned (.slice B 34 cb) ∧ StrsAt w' B cmdNames ∧ Below w.heap.size w w' := by
  refine (callsIn_wide (n := 6)).1 ?_
  have hfC : Fence.wide.fn 45 := trivial
  have hfK : Fence.wide.fn 55 := trivial
  have hfS : Fence.wide.fn 54 := trivial
  have cC := (callsIn_wide (n := 5)).2 (commands_any w)
  obtain ⟨D, hown, hperm, hsize⟩ := cmd_owns (W := w.alloc cmdMap) (b := w.heap.size) (World.alloc_heap_new w cmdMap)
  have cS := Tryz.slices_Sorted_keys_54_55 w.heap.size 34 D anyR (w.alloc cmdMap) hown (by rw [hsize]; decide) (by rw [hsize]; decide)
  have hb1 : Below w.heap.size w (w.alloc cmdMap) := (Below.refl _ w).alloc (Nat.le_refl _) _
  clear hown
  generalize w.alloc cmdMap = W1 at cC cS hb1
  refine callsIn_of_wp Tryz.func25 rfl trivial ?_ rfl
  simp only [Tryz.ntmps25, List.size_toArray, List.length_nil, Nat.reduceSub, Array.replicate_succ, Array.replicate_zero, List.push_toArray, List.append_toArray, List.nil_append, List.cons_append]
  gi_wp2_with (first
    | (gi_at_call 45; refine cC.mono ?_; rintro e w' ⟨rfl, rfl⟩)
    | (gi_at_call 55; refine (Tryz.maps_Keys_55 _ _).mono ?_; rintro e w' ⟨rfl, rfl⟩)
    | (gi_at_call 54; refine cS.mono ?_; rintro e w' ⟨v, ss, rfl, hS, hrow, hnil, hb⟩))
  go_ret
  rw [names_merge hperm hS] at hrow
  have hl : ss.length = 34 := by
    have := congrArg List.length (names_merge hperm hS)
    rw [List.length_mergeSort] at this
    exact this
  rw [hl] at hrow
  obtain ⟨B, cb, rfl, _, _⟩ := own_form hrow
  have hz := hb1.size
  exact ⟨B, cb, rfl, Reads.of_own hrow, (hb1.alloc hz _).trans (hb.mono (by simp; omega))⟩

end Go.Proofs.YtfnfjfcncijapaaGreatDoor
