/- kinkeepref56.Line. -/
import Derived.Test.YtfnfjfcncijapaaGreatDoorRWord
namespace Go.Proofs.YtfnfjfcncijapaaGreatDoor
open Go.RowKit Go.Shelf
attribute [local go_sem] Oper.semAt_some

set_option maxHeartbeats 400000 in
/-- kinkeepref56.Word. -/
theorem rword_any (s : ByteArray) (w : World) (hs : s.size ≤ 100000) : Calls Tryz.prog 41 #[.string s] w fun e w' => e = .returned (.string (ba (wordS s.data.toList))) ∧ ∃ m, w' = w.drewN m := by
  by_cases hm : s.data.toList = []
  · have hq : s.toList.isEmpty = true := by rw [Lib.toList_data, hm]; rfl
    rw [hm]
    clear hm
    go_enter Tryz.func41, Tryz.ntmps41
    go_wp2
    go_ret
    exact ⟨rfl, Drawn.refl _⟩
  · by_cases hd : s.data.toList = [45]
    · have hq : s.toList.isEmpty = false := by rw [Lib.toList_data, hd]; rfl
      have hq2 : (s.toList == ([45] : List UInt8)) = true := by rw [Lib.toList_data, hd]; rfl
      rw [hd]
      clear hm hd
      go_enter Tryz.func41, Tryz.ntmps41
      go_wp2
      go_ret
      exact ⟨by rw [show wordS [45] = [37, 50, 100] by decide]; rfl, Drawn.refl _⟩
    · exact rword_loop s w hs hm hd

def lineW (args : List (List UInt8)) : List UInt8 := args.flatMap (fun a => 32 :: wordS a)
theorem lineW_take {args : List (List UInt8)} {j : Nat} (h : j < args.length) : lineW (args.take (j + 1)) = lineW (args.take j) ++ [32] ++ wordS args[j] := by
  unfold lineW
  rw [List.take_succ_eq_append_getElem h, List.flatMap_append]
  simp
theorem lineW_length : ∀ (args : List (List UInt8)), (∀ a ∈ args, a.length ≤ 65536) → (lineW args).length ≤ 196610 * args.length
  | [], _ => by simp [lineW]
  | a :: r, h => by
    have ih := lineW_length r (fun x hx => h x (by simp [hx]))
    have := wordS_length a
    have := h a (by simp)
    simp only [lineW, List.flatMap_cons, List.length_append, List.length_cons] at ih ⊢
    omega
def RLineRel (w0 : World) (cmd : List UInt8) (args : List (List UInt8)) (v i : Value) (wr : World) : Prop :=
  ∃ j : Nat, j ≤ args.length ∧ i = .int .i64 (j : Int) ∧ v = .string (ba (cmd ++ lineW (args.take j))) ∧ Drawn w0 wr

set_option maxHeartbeats 2000000 in
set_option maxRecDepth 100000 in
theorem rline_any (cmd : ByteArray) (A : Option Addr) (ca : Nat) (args : List (List UInt8)) (w : World) (hA : StrsAt w A args) (hl : args.length ≤ 65536) (hc : cmd.size ≤ 65536) (hs : ∀ a ∈ args, a.length ≤ 65536) :
    Calls Tryz.prog 17 #[.agg #[.string cmd, .slice A args.length ca]] w fun e w' => e = .returned (.string (ba (lineP ⟨cmd.data.toList, args⟩))) ∧ Below w.heap.size w w' := by
  have bx := Blk.new w 39 #[.string cmd, .slice A args.length ca]
  have b0 : Below w.heap.size w (w.alloc (.cells #[.string cmd, .slice A args.length ca] 39)) := (Below.refl _ _).alloc (Nat.le_refl _) _
  have hA0 : StrsAt _ A args := hA.same (Kept.of_below (F := NoF) b0)
  have HS := Lib.hid hs
  clear hs hA
  go_enter Tryz.func17, Tryz.ntmps17
  go_upto_region 1 with fail
  generalize w.alloc (.cells #[.string cmd, .slice A args.length ca] 39) = w0 at bx b0 hA0 ⊢
  have e0 : w0.cell? ⟨w.heap.size, 0, none⟩ = some (.string cmd) := (bx.cell 0).trans rfl
  go_wp2_with fail
  clear e0
  go_loopw [3, 4] (RLineRel w0 cmd.data.toList args) (fun _ i _ => args.length - (intOf i).toNat)
  case atStart => exact ⟨0, Nat.zero_le _, rfl, by simp [lineW, ba_data], Drawn.refl _⟩
  case round =>
    obtain ⟨j, hj, rfl, rfl, kd⟩ := hrel
    have kr : Kept NoF w0 wr := kd.kept
    have e1 : wr.cell? ⟨w.heap.size, 1, none⟩ = some (.slice A args.length ca) := kr.cell ((bx.cell 1).trans rfl) (fun h => h)
    by_cases hlt : j < args.length
    · obtain ⟨xb, xo, rfl, hxb, cx⟩ := (hA0.same kr).at_ hlt
      have i1 : decide ((j : Int) < (args.length : Int)) = true := by simp; omega
      have i2 : (j : Int) < (args.length : Int) := by omega
      have hsj := HS.out _ (List.getElem_mem hlt)
      have CW := rword_any (ba args[j]) wr (by rw [ba_size]; omega)
      rw [ba_toList] at CW
      have HCW := Lib.hid CW
      have HT := Lib.hid (lineW_take hlt)
      have hwl := wordS_length args[j]
      have hll := lineW_length (args.take j) (fun a ha => HS.out a (List.mem_of_mem_take ha))
      rw [List.length_take] at hll
      have hz := size_list cmd
      clear CW
      generalize lineW (args.take j) = out at HT hll ⊢
      generalize wordS args[j] = wd at HCW HT hwl
      have c1 : (Op.stringOp .add (ba (cmd.data.toList ++ out)) ⟨#[32]⟩).run Tryz.prog wr = .ok (.string (ba (cmd.data.toList ++ out ++ [32]))) wr := cat_ba _ [32] wr (by simp; omega)
      obtain ⟨o1, q1⟩ : ∃ o, o = cmd.data.toList ++ out ++ [32] := ⟨_, rfl⟩
      rw [← q1] at c1
      have hq1 : o1.length ≤ 20000000000 := by rw [q1]; simp; omega
      obtain ⟨o0, q0⟩ : ∃ o, o = cmd.data.toList ++ out := ⟨_, rfl⟩
      rw [← q0] at c1 ⊢
      have Q1 := Lib.hid (show o1 = cmd.data.toList ++ out ++ [32] from q1)
      clear q1 q0
      have c2 := fun W : World => cat_ba o1 wd W (by omega)
      go_wp2_with fail
      refine HCW.out.mono ?_
      clear HCW
      rintro e w1 ⟨rfl, m, rfl⟩
      have c2' := c2 (wr.drewN m)
      clear c2 c1
      go_wp2_with fail
      go_roundw
      case rel => exact ⟨j + 1, hlt, by go_num, by rw [HT.out, Q1.out]; simp, kd.drewN m⟩
      case measure => simp [intOf]; omega
    · obtain rfl : j = args.length := by omega
      have i1 : decide ((args.length : Int) < (args.length : Int)) = false := by simp
      rw [List.take_length]
      go_wp2_with fail
      go_ret
      exact ⟨rfl, b0.trans (kr.below (Nat.le_refl _) (fun _ h => h.elim) |>.mono b0.size)⟩

end Go.Proofs.YtfnfjfcncijapaaGreatDoor
