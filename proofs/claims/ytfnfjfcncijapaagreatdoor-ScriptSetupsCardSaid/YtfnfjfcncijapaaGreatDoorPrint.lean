/- script.Valid, script.print. -/
import Derived.Test.YtfnfjfcncijapaaGreatDoorWord
import Derived.Test.YtfnfjfcncijapaaGreatDoorParse
import Derived.Test.YtfnfjfcncijapaaGreatDoorRefA
namespace Go.Proofs.YtfnfjfcncijapaaGreatDoor
open Go.RowKit Go.Shelf
attribute [local go_sem] Oper.semAt_some

set_option maxHeartbeats 400000 in
theorem valid_any (cmd : ByteArray) (A : Option Addr) (ca : Nat) (args : List (List UInt8)) (w : World) (hE : Env w) (hA : StrsAt w A args) (hs : ∀ a ∈ args, a.length ≤ 65536) :
    Calls Tryz.prog 27 #[.agg #[.string cmd, .slice A args.length ca]] w fun e w' => e = .returned (.bool (kindS cmd.data.toList args != 0)) ∧ Below w.heap.size w w' := by
  have b0 : Below w.heap.size w (w.alloc (.cells #[.string cmd, .slice A args.length ca] 45)) := (Below.refl _ _).alloc (Nat.le_refl _) _
  have CK := Lib.hid (kind_any cmd A ca args (w.alloc (.cells #[.string cmd, .slice A args.length ca] 45)) (hE.later b0) ((Kept.of_below (F := NoF) b0).src hA (fun _ _ _ h => h)) (fun a ha => by have := hs a ha; omega))
  go_enter Tryz.func27, Tryz.ntmps27
  go_wp2_with fail
  refine CK.out.mono ?_
  rintro e w1 ⟨rfl, b1⟩
  go_wp2_with fail
  go_ret
  exact ⟨rfl, b0.trans (b1.mono (by simp))⟩

/-- The line of a step. -/
def printS (cmd : List UInt8) (args : List (List UInt8)) : List UInt8 := Lib.join (cmd :: args.map wordS) [32]
/-- The words so far. -/
def ppart (cmd : List UInt8) (args : List (List UInt8)) (j : Nat) : List (List UInt8) := cmd :: (args.take j).map wordS
theorem ppart_snoc {cmd : List UInt8} {args : List (List UInt8)} {j : Nat} (h : j < args.length) : strs (ppart cmd args (j + 1)) = strs (ppart cmd args j) ++ [.string (ba (wordS args[j]))] := by
  unfold ppart strs
  rw [List.take_succ_eq_append_getElem h]
  simp only [List.map_append, List.map_cons, List.map_nil, List.cons_append]
def PrintRel (w : World) (cmd : List UInt8) (args : List (List UInt8)) (v i : Value) (wr : World) : Prop :=
  ∃ j : Nat, j ≤ args.length ∧ i = .int .i64 (j : Int) ∧ wr.ownsRow w.heap.size 9 1 v (j + 1) (strs (ppart cmd args j)) ∧ Below w.heap.size w wr
theorem wordS_length (l : List UInt8) : (wordS l).length ≤ 3 * l.length + 1 := by
  unfold wordS
  split
  · simp
  · have := enc_length (l == [45]) l; omega
theorem lens_le : ∀ (xs : List (List UInt8)) (m : Nat), (∀ x ∈ xs, x.length ≤ m) → Lib.lens xs ≤ m * xs.length
  | [], m, _ => by simp [Lib.lens]
  | x :: r, m, h => by
    have h1 := h x (by simp)
    have h2 := lens_le r m (fun y hy => h y (by simp [hy]))
    simp only [Lib.lens, List.map_cons, List.sum_cons, List.length_cons, Nat.mul_add, Nat.mul_one] at h2 ⊢
    omega

theorem join_own {w wr : World} {cmd : ByteArray} {args : List (List UInt8)} {C : Option Addr} {cc : Nat} (how : wr.ownsRow w.heap.size 9 1 (.slice C (args.length + 1) cc) (args.length + 1) (strs (ppart cmd.data.toList args args.length)))
    (hc : cmd.size ≤ 65536) (hl : args.length ≤ 65536) (hs : ∀ a ∈ args, a.length ≤ 65536) :
    Calls Tryz.prog 63 #[.slice C (args.length + 1) cc, .string ⟨#[32]⟩] wr fun e w' => e = .returned (.string (ba (printS cmd.data.toList args))) ∧ Below wr.heap.size wr w' := by
  have hpp : ppart cmd.data.toList args args.length = cmd.data.toList :: args.map wordS := by unfold ppart; rw [List.take_length]
  rw [hpp] at how
  have hC : StrsAt wr C (cmd.data.toList :: args.map wordS) := by have := Reads.of_own how; unfold StrsAt; simpa using this
  obtain ⟨bk, o, rfl, hbk, _⟩ := hC.at_ (k := 0) (by simp)
  have hlen : (Lib.join (((cmd.data.toList :: args.map wordS).map ba).map (·.data.toList)) [32]).length ≤ 140737488355328 := by
    rw [List.map_map, show ((fun x : ByteArray => x.data.toList) ∘ ba) = id from funext ba_toList, List.map_id, Lib.join_cons, List.length_append, Lib.joinTail_length]
    have h1 := lens_le (args.map wordS) 196609 (fun x hx => by
      obtain ⟨a, ha, rfl⟩ := List.mem_map.1 hx
      have := wordS_length a
      have := hs a ha
      omega)
    rw [List.length_map] at h1 ⊢
    rw [← size_list]
    simp only [List.length_cons, List.length_nil]
    omega
  have hcc : args.length + 1 ≤ cc := by
    obtain ⟨_, _, e, h, _⟩ := own_form how
    injection e with _ _ e
    omega
  have CJ := Tryz.strings_Join bk o cc ((cmd.data.toList :: args.map wordS).map ba) ⟨#[32]⟩ wr (fun k x hx => by
    rw [List.getElem?_map] at hx
    obtain ⟨y, hy, rfl⟩ := Option.map_eq_some_iff.1 hx
    obtain ⟨hk, rfl⟩ := List.getElem?_eq_some_iff.1 hy
    obtain ⟨b', o', e, _, hc'⟩ := hC.at_ hk
    injection e with e
    injection e with e1 e2
    subst e1 e2
    exact hc') hbk (by simp; omega) (by simp; omega) hlen
  rw [List.map_map, show ((fun x : ByteArray => x.data.toList) ∘ ba) = id from funext ba_toList, List.map_id] at CJ
  simp only [List.length_map, List.length_cons] at CJ
  exact CJ

set_option maxHeartbeats 2000000 in
set_option maxRecDepth 100000 in
theorem print_any (cmd : ByteArray) (A : Option Addr) (ca : Nat) (args : List (List UInt8)) (w : World) (hA : StrsAt w A args) (hl : args.length ≤ 65536) (hc : cmd.size ≤ 65536) (hs : ∀ a ∈ args, a.length ≤ 65536) :
    Calls Tryz.prog 36 #[.agg #[.string cmd, .slice A args.length ca]] w fun e w' => e = .returned (.string (ba (printS cmd.data.toList args))) ∧ Below w.heap.size w w' := by
  obtain ⟨i0, hi, hz0, hz1, hz2⟩ := info_parts info9
  go_enter Tryz.func36, Tryz.ntmps36
  go_wp2_with fail
  have k0 : Below w.heap.size w ((w.alloc (.cells #[.string cmd, .slice A args.length ca] 45)).alloc (.cells #[.string cmd] 9)) := ((Below.refl _ _).alloc (Nat.le_refl _) _).alloc (by simp) _
  have ho : ((w.alloc (.cells #[.string cmd, .slice A args.length ca] 45)).alloc (.cells #[.string cmd] 9)).ownsRow w.heap.size 9 1 (.slice (some ⟨w.heap.size + 1, 0, none⟩) 1 1) 1 [.string cmd] := by
    refine ⟨rfl, .inr ⟨w.heap.size + 1, 1, #[.string cmd], rfl, by omega, ?_, Nat.le_refl _, by decide, rfl, rfl⟩⟩
    have := Blk.new (w.alloc (.cells #[.string cmd, .slice A args.length ca] 45)) 9 #[.string cmd]
    rwa [World.size_alloc] at this
  generalize (w.alloc (.cells #[.string cmd, .slice A args.length ca] 45)).alloc (.cells #[.string cmd] 9) = w0 at k0 ho ⊢
  go_loopw [3, 12] (PrintRel w cmd.data.toList args) (fun _ i _ => args.length - (intOf i).toNat)
  case atStart => exact ⟨0, Nat.zero_le _, rfl, by rw [show strs (ppart cmd.data.toList args 0) = [.string cmd] by unfold ppart strs; simp [ba_data]]; exact ho, k0⟩
  case round =>
    clear ho k0
    obtain ⟨j, hj, rfl, how, hb⟩ := hrel
    have hwz := hb.size
    have kr : Kept NoF w wr := Kept.of_below hb
    by_cases hlt : j < args.length
    · have hAr : StrsAt wr A args := kr.src hA (fun _ _ _ h => h)
      obtain ⟨xb, xo, rfl, hxb, cx⟩ := hAr.at_ hlt
      have i1 : (j : Int) < (args.length : Int) := by omega
      have CW := word_any (ba args[j]) wr (by rw [ba_size]; have := hs _ (List.getElem_mem hlt); omega)
      rw [ba_toList] at CW
      have HCW := Lib.hid CW
      have hsn := ppart_snoc (cmd := cmd.data.toList) hlt
      have HSN := Lib.hid hsn
      clear CW hsn hs
      go_wp2_with fail
      refine HCW.out.mono ?_
      clear HCW
      rintro e w1 ⟨rfl, b1⟩
      have how1 := (Kept.of_below (F := NoF) b1).own how (fun _ _ h => h)
      have hb1 := hb.trans (b1.mono hwz)
      have hwz1 := hb1.size
      go_wp2_with (at_builtin; refine wpList_append_own_at _ rfl _ _ 37 rfl w.heap.size 9 i0 (.string ⟨#[]⟩) 1 16 Tryz.underlying37 hi hz0 hz1 hz2 rfl (by decide) _ _ _ rfl (how1.alloc _) ⟨w1.heap.size, 0, none⟩ 1 1 [.string (ba (wordS args[j]))] rfl rfl ?d1 ?d2 ?d3 ?d4 ?d5 ?_)
      case d1 => exact cell_one_new _ _ _
      case d2 => intro u hu; simp at hu; subst hu; rfl
      case d3 => unfold maxLen; omega
      case d4 => omega
      case d5 => simp; omega
      intro v' w4 hown' hgrow _ hat
      obtain ⟨g', cap', rfl⟩ := ownsRow_succ hown'
      have bw4 : Below w.heap.size w w4 := (hb1.alloc hwz1 _).grown hgrow (by simp; omega) (fun k hk => (how1.lt k hk).1)
      go_wp2_with fail
      go_roundw
      case rel => exact ⟨j + 1, hlt, by go_num, by rw [HSN.out]; exact hown', bw4⟩
      case measure => simp [intOf]; omega
    · obtain rfl : j = args.length := by omega
      have HHJ := Lib.hid (fun C cc => @join_own w wr cmd args C cc)
      have HHOW := Lib.hid how
      have HHB := Lib.hid hb
      have HHC := Lib.hid hc
      have HHL := Lib.hid hl
      have HHS := Lib.hid hs
      obtain ⟨C, cc, rfl, hcc, _⟩ := own_form how
      have HHCC := Lib.hid hcc
      have i1 : decide ((args.length : Int) < (args.length : Int)) = false := by simp
      clear how hb hc hl hs hcc hj hlt hwz kr hA
      go_wp2_with fail
      refine (HHJ.out C cc HHOW.out HHC.out HHL.out HHS.out).mono ?_
      rintro e w1 ⟨rfl, b1⟩
      go_wp2_with fail
      go_ret
      exact ⟨rfl, HHB.out.trans (b1.mono HHB.out.size)⟩

end Go.Proofs.YtfnfjfcncijapaaGreatDoor
