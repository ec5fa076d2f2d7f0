/- strings.SplitSeq at a separator of one byte: the iterator's promise. -/
import Derived.Test.YtfnfjfcncijapaaGreatDoorSeq
import Derived.Test.YtfnfjfcncijapaaGreatDoorParts
import Derived.Test.YtfnfjfcncijapaaGreatDoorShelf
import Derived.Shelf.Abstract
import Derived.Shelf.RegionOpen
import Derived.WalkKit
import Derived.OwnWalkIn
import Derived.TacticsInMore
import Derived.LoopNIn
import Derived.LoopIn
import Derived.Outline
import Derived.Lib.Hide
namespace Go.Proofs.YtfnfjfcncijapaaGreatDoor
open Go.RowKit Go.Shelf
attribute [local go_sem] Oper.semAt_some

/-- The string that lies in block b. -/
def strAt (w : World) (b : Nat) : ByteArray := match w.cell? ⟨b, 0, none⟩ with
  | some (.string s) => s
  | _ => ⟨#[]⟩
theorem strAt_eq {w : World} {b : Nat} {s : ByteArray} (h : w.cell? ⟨b, 0, none⟩ = some (.string s)) : strAt w b = s := by unfold strAt; rw [h]

set_option maxHeartbeats 1000000 in
theorem splitSeq_call (s : ByteArray) (c : UInt8) (w : World) :
    Calls Tryz.prog 29 #[.string s, .string ⟨#[c]⟩] w fun e w' => e = .returned (.func (.func 85) #[] #[.pointer (some ⟨w.heap.size + 1, 0, none⟩), .pointer (some ⟨w.heap.size, 0, none⟩), .pointer (some ⟨w.heap.size + 2, 0, none⟩)]) ∧
      ((w.alloc (.cells #[.string s] 9)).alloc (.cells #[.string ⟨#[c]⟩] 9)).alloc (.cells #[.int .i64 0] 3) = w' := by
  go_enter Tryz.func29, Tryz.ntmps29
  go_wp2_with fail
  go_enter Tryz.func56, Tryz.ntmps56
  go_wp2
  go_ret
  exact ⟨rfl, rfl⟩

theorem index_none (s : ByteArray) (c : UInt8) (w : World) (h : Lib.indexByte s.data.toList c = -1) :
    Calls Tryz.prog 87 #[.string s, .string ⟨#[c]⟩] w fun e w' => e = .returned (.int .i64 (-1)) ∧ w = w' := by
  refine (Tryz.strings_Index_one s c w).mono ?_
  rintro e w' ⟨rfl, rfl⟩
  exact ⟨by rw [h], rfl⟩
theorem index_some (s : ByteArray) (c : UInt8) (o : Nat) (w : World) (h : Lib.indexByte s.data.toList c = (o : Int)) :
    Calls Tryz.prog 87 #[.string s, .string ⟨#[c]⟩] w fun e w' => e = .returned (.int .i64 (o : Int)) ∧ w = w' := by
  refine (Tryz.strings_Index_one s c w).mono ?_
  rintro e w' ⟨rfl, rfl⟩
  exact ⟨by rw [h], rfl⟩

/-- The blocks of a SplitSeq's iterator: the string, the separator, how much of it is kept. -/
def SplitB (b : Nat) : Nat → Prop := fun k => b ≤ k ∧ k < b + 3

def SplitRel (b : Nat) (c : UInt8) (s : List UInt8) (J : Nat → World → Prop) (wr : World) : Prop :=
  ∃ (i : Nat) (r : ByteArray), Blk wr b 9 #[.string r] ∧ Blk wr (b + 1) 9 #[.string ⟨#[c]⟩] ∧ Blk wr (b + 2) 3 #[.int .i64 0] ∧ (parts c s).drop i = parts c r.data.toList ∧ i < (parts c s).length ∧ r.size ≤ 9223372036854775806 ∧ J i wr

set_option maxRecDepth 100000 in
set_option maxHeartbeats 2000000 in
theorem split_iter (b : Nat) (c : UInt8) (s : ByteArray) (W : World) (h0 : Blk W b 9 #[.string s]) (h1 : Blk W (b + 1) 9 #[.string ⟨#[c]⟩]) (h2 : Blk W (b + 2) 3 #[.int .i64 0]) (hs : s.size ≤ 9223372036854775806) :
    Iter Tryz.prog 85 #[.pointer (some ⟨b + 1, 0, none⟩), .pointer (some ⟨b, 0, none⟩), .pointer (some ⟨b + 2, 0, none⟩)] ((parts c s.data.toList).map (fun p => #[.string (ba p)])) (SplitB b) W := by
  intro l J Jx hJ hJx hY hj0
  refine (callsIn_wide (n := 0)).1 ?_
  refine callsIn_of_wp Tryz.func85 rfl trivial ?_ rfl
  simp only [Tryz.ntmps85, List.size_toArray, List.length_cons, List.length_nil, Nat.reduceAdd, Nat.reduceSub, Array.replicate_succ, Array.replicate_zero, List.push_toArray, List.append_toArray, List.nil_append, List.cons_append]
  have hfn : ∀ f, Fence.wide.fn f := fun _ => trivial
  have hdp : Fence.wide.depth = none := rfl
  have c0 := h0.cell 0
  have c1 := h1.cell 0
  have c2 := h2.cell 0
  gi_wp2
  gi_loopw [7, 8] (fun _ _ wr => SplitRel b c s.data.toList J wr) (fun _ _ wr => (strAt wr b).size)
  case atStart => exact ⟨0, s, h0, h1, h2, by simp, List.length_pos_iff.2 (parts_ne _ _), hs, hj0⟩
  case round =>
    obtain ⟨i, r, q0, q1, q2, hdrop, hi, hr, hj⟩ := hrel
    clear c0 c1 c2
    have c0 := q0.cell 0
    have c1 := q1.cell 0
    have c2 := q2.cell 0
    have hlt : ∀ k, SplitB b k → k < wr.heap.size := fun k hk => by
      have := q2.lt
      unfold SplitB at hk
      omega
    by_cases hx : Lib.indexByte r.data.toList c = -1
    · obtain ⟨fn, tmps, assign, body, hy, hR⟩ := hY i (by simpa using hi) wr hj hlt
      obtain ⟨hp, hl1⟩ := parts_last hdrop hi hx
      simp only [List.getElem_map] at hy
      rw [hp, ba_data] at hy
      have HX := Lib.hid hx
      have HL := Lib.hid hl1
      clear hx hp hdrop hl1
      gi_wp2_with (gi_at_call 87; refine (callsIn_wide.2 (index_none r c _ HX.out)).mono ?_; rintro e w' ⟨rfl, rfl⟩)
      refine hR.mono ?_
      rintro e W3 (⟨rfl, hJ3, hk3⟩ | ⟨rfl, hJx3, hk3⟩)
      · gi_wp2
        go_end0
        exact ⟨⟨_, rfl⟩, .inl (by rw [List.length_map, ← HL.out]; exact hJ3)⟩
      · gi_wp2
        go_end0
        exact ⟨⟨_, rfl⟩, .inr ⟨i, by simpa using hi, hJx3⟩⟩
    · obtain ⟨o, ho⟩ : ∃ o : Nat, Lib.indexByte r.data.toList c = (o : Int) := ⟨(Lib.indexByte r.data.toList c).toNat, by have := Lib.indexByte_ge r.data.toList c; omega⟩
      obtain ⟨fn, tmps, assign, body, hy, hR⟩ := hY i (by simpa using hi) wr hj hlt
      obtain ⟨hp, hd, hi1, hor⟩ := parts_next hdrop hi ho
      simp only [List.getElem_map] at hy
      rw [hp, ba_take] at hy
      have hor' : o < r.size := by rw [size_list]; exact hor
      have HX := Lib.hid ho
      have HD := Lib.hid hd
      clear hx ho hp hdrop hd
      gi_wp2_with (gi_at_call 87; refine (callsIn_wide.2 (index_some r c o _ HX.out)).mono ?_; rintro e w' ⟨rfl, rfl⟩)
      refine hR.mono ?_
      rintro e W3 (⟨rfl, hJ3, hk3⟩ | ⟨rfl, hJx3, hk3⟩)
      · have q0' : Blk W3 b 9 #[.string r] := (hk3.2 b ⟨by omega, by omega⟩).trans q0
        have q1' : Blk W3 (b + 1) 9 #[.string ⟨#[c]⟩] := (hk3.2 (b + 1) ⟨by omega, by omega⟩).trans q1
        have q2' : Blk W3 (b + 2) 3 #[.int .i64 0] := (hk3.2 (b + 2) ⟨by omega, by omega⟩).trans q2
        have d0 := q0'.cell 0
        have d1 := q1'.cell 0
        have d2 := q2'.cell 0
        have f0 := q0'.frozen 0
        clear c0 c1 c2
        gi_wp2
        go_roundw
        case rel =>
          have b0 := q0'.set_ 0 (.string (r.extract (o + 1) r.size))
          refine ⟨i + 1, _, b0, q1'.far (by simp) _, q2'.far (by simp) _, by rw [HD.out, extract_end], hi1, by rw [extract_end_size]; omega, hJ (i + 1) _ _ hJ3 ((Kept.refl _ _).setCell (.inl ⟨by simp, by simp⟩) _)⟩
        case measure =>
          have b0 := q0'.set_ 0 (.string (r.extract (o + 1) r.size))
          rw [strAt_eq ((q0.cell 0).trans rfl), strAt_eq ((b0.cell 0).trans rfl), extract_end_size]
          omega
      · gi_wp2
        refine bodyPost_ret (results_none rfl _ _ _) rfl ?_
        exact ⟨⟨_, rfl⟩, .inr ⟨i, by simpa using hi, hJx3⟩⟩

end Go.Proofs.YtfnfjfcncijapaaGreatDoor
