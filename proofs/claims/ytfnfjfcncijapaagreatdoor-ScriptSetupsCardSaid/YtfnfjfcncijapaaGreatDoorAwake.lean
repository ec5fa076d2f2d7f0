/- law.awake. -/
import Derived.Test.YtfnfjfcncijapaaGreatDoorBounds
namespace Go.Proofs.YtfnfjfcncijapaaGreatDoor
open Go.RowKit Go.Shelf
attribute [local go_sem] Oper.semAt_some

def wstep : StepD := ⟨[119, 114, 105, 116, 101], [[48], [97, 32, 98], []]⟩
set_option maxRecDepth 100000 in
theorem aw1 : parseS [119, 114, 105, 116, 101, 32, 48, 32, 97, 37, 50, 48, 98, 32, 45, 10] = ([wstep], 0, 0) := by
  rw [← parse_agree]; decide +kernel
set_option maxRecDepth 100000 in
theorem aw2 : parseS [10, 35, 32, 120, 10, 32, 119, 114, 105, 116, 101, 32, 32, 48, 10] = ([], 3, 3) := by
  rw [← parse_agree]; decide +kernel
set_option maxRecDepth 100000 in
theorem aw3 : parseS [100, 97, 121, 10, 113, 117, 111, 114, 117, 109, 32, 50, 10] = ([], 2, 6) := by
  rw [← parse_agree]; decide +kernel
set_option maxRecDepth 100000 in
theorem aw4 : parseS [99, 117, 116, 116, 105, 110, 103, 32, 49, 32, 50, 32, 49, 32, 48] = ([], 1, 6) := by
  rw [← parse_agree]; decide +kernel
theorem aw5 : printAllS [wstep] = ([119, 114, 105, 116, 101, 32, 48, 32, 97, 37, 50, 48, 98, 32, 45, 10], 0) := by
  unfold printAllS
  rw [if_pos (by
    rw [List.all_cons, List.all_nil, Bool.and_true]
    unfold stepOk
    rw [← kind_valid]
    decide +kernel)]
  decide +kernel
theorem parse_lit {l : List UInt8} {r : List StepD × Int × Int} (h : parseS l = r) (w : World) (hE : Env w) : Calls Tryz.prog 10 #[.string ⟨l.toArray⟩] w (ParsePost r w) := by
  have := parse_any ⟨l.toArray⟩ w hE
  rwa [show (ByteArray.mk l.toArray).data.toList = l from by simp, h] at this

theorem below_drewN {B : Nat} {w w' : World} (h : Below B w w') (m : Nat) : Below B w (w'.drewN m) := ⟨h.os, h.tape, h.output, h.size, h.block⟩
theorem lit_step (w : World) : StepsAt ((w.alloc (.cells #[.string ⟨#[48]⟩, .string ⟨#[97, 32, 98]⟩, .string ⟨#[]⟩] 9)).alloc (.cells #[.string ⟨#[119, 114, 105, 116, 101]⟩, .slice (some ⟨w.heap.size, 0, none⟩) 3 3] 39)) (some ⟨w.heap.size + 1, 0, none⟩) [wstep] := by
  have b0 := (Blk.new w 9 #[.string ⟨#[48]⟩, .string ⟨#[97, 32, 98]⟩, .string ⟨#[]⟩])
  have b1 := (Blk.new (w.alloc (.cells #[.string ⟨#[48]⟩, .string ⟨#[97, 32, 98]⟩, .string ⟨#[]⟩] 9)) 39 #[.string ⟨#[119, 114, 105, 116, 101]⟩, .slice (some ⟨w.heap.size, 0, none⟩) 3 3])
  rw [World.size_alloc] at b1
  have b0' := ((Kept.refl NoF (w.alloc (.cells #[.string ⟨#[48]⟩, .string ⟨#[97, 32, 98]⟩, .string ⟨#[]⟩] 9))).alloc (.cells #[.string ⟨#[119, 114, 105, 116, 101]⟩, .slice (some ⟨w.heap.size, 0, none⟩) 3 3] 39)).blk b0 (fun h => h)
  refine ⟨[(wstep, some ⟨w.heap.size, 0, none⟩, 3)], rfl, ⟨rfl, fun _ => ⟨_, rfl, by simp, fun j u hu => ?_⟩⟩, fun x hx => ?_⟩
  · rw [Addr.add_lit, b1.cell, Nat.zero_add, ← Array.getElem?_toList]
    exact hu
  · rw [List.mem_singleton.1 hx]
    refine ⟨rfl, fun _ => ⟨_, rfl, by simp; omega, fun j u hu => ?_⟩⟩
    rw [Addr.add_lit, b0'.cell, Nat.zero_add, ← Array.getElem?_toList]
    exact hu

set_option maxHeartbeats 4000000 in
set_option maxRecDepth 100000 in
theorem awake_any (w : World) (hE : Env w) : Calls Tryz.prog 9 #[] w fun e w' => e = .returned (.bool true) ∧ Below w.heap.size w w' := by
  go_enter Tryz.func9, Tryz.ntmps9
  go_wp2_with fail
  refine (parse_lit aw1 w hE).mono ?_
  rintro e w1 ⟨A, c, rfl, _, hA, b1⟩
  have hE1 := hE.later b1
  go_wp2_with fail
  refine (parse_lit aw2 w1 hE1).mono ?_
  rintro e w2 ⟨A2, c2, rfl, _, _, b2⟩
  have hE2 := hE1.later b2
  go_wp2_with fail
  refine (parse_lit aw3 w2 hE2).mono ?_
  rintro e w3 ⟨A3, c3, rfl, _, _, b3⟩
  have hE3 := hE2.later b3
  go_wp2_with fail
  refine (parse_lit aw4 w3 hE3).mono ?_
  rintro e w4 ⟨A4, c4, rfl, _, _, b4⟩
  have hE4 := hE3.later b4
  have b24 : Below w1.heap.size w1 w4 := b2.trans ((b3.trans (b4.mono b3.size)).mono b2.size)
  have bw4 : Below w.heap.size w w4 := b1.trans (b24.mono b1.size)
  have hA4 : StepsAt w4 A [wstep] := hA.same (Kept.of_below b24)
  clear hE hE1 hE2 hE3 b1 b2 b3 b4 b24 hA
  have CP := printAll_any c w4 hE4 hA4 (by decide) (by decide)
  rw [aw5] at CP
  have HCP := Lib.hid CP
  clear CP
  go_wp2_with fail
  refine HCP.out.mono ?_
  clear HCP
  rintro e w5 ⟨rfl, b5⟩
  have bw5 := bw4.trans (b5.mono bw4.size)
  have HPL := Lib.hid (plain_any c w5 (hA4.same (Kept.of_below b5)) (by decide))
  clear b5 bw4 hA4 hE4
  go_wp2_with fail
  refine HPL.out.mono ?_
  clear HPL
  rintro e w6 ⟨B, cb, rfl, hB, b6⟩
  have bw6 := bw5.trans (b6.mono bw5.size)
  have bl : Below w6.heap.size w6 ((w6.alloc (.cells #[.string ⟨#[48]⟩, .string ⟨#[97, 32, 98]⟩, .string ⟨#[]⟩] 9)).alloc (.cells #[.string ⟨#[119, 114, 105, 116, 101]⟩, .slice (some ⟨w6.heap.size, 0, none⟩) 3 3] 39)) :=
    ((Below.refl _ _).alloc (Nat.le_refl _) _).alloc (by simp) _
  have hL := lit_step w6
  have HSA := Lib.hid (same_any cb 1 _ (hB.same (Kept.of_below bl)) hL (by decide) (by decide) (by decide) (by decide))
  clear hB hL b6 bw5
  go_wp2_with fail
  refine HSA.out.mono ?_
  clear HSA
  rintro e w7 ⟨rfl, m, rfl⟩
  have bw7 := bw6.trans (bl.mono bw6.size)
  simp only [decide_true]
  have hq : ((ba [119, 114, 105, 116, 101, 32, 48, 32, 97, 37, 50, 48, 98, 32, 45, 10]).toList == [119, 114, 105, 116, 101, 32, 48, 32, 97, 37, 50, 48, 98, 32, 45, 10]) = true := by rw [Lib.toList_data, ba_toList]; decide
  go_wp2_with fail
  go_ret
  exact ⟨rfl, below_drewN bw7 m⟩

end Go.Proofs.YtfnfjfcncijapaaGreatDoor
