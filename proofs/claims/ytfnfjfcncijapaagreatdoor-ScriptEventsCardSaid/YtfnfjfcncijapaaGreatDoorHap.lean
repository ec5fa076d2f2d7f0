/- kinkeepref56.Happens (printed by genHap.py). -/
import Derived.Test.YtfnfjfcncijapaaGreatDoorEvD
import Derived.Test.YtfnfjfcncijapaaGreatDoorAgree
namespace Go.Proofs.YtfnfjfcncijapaaGreatDoor
open Go.RowKit Go.Shelf
attribute [local go_sem] Oper.semAt_some

theorem results_hap {tmps : Array Value} {W : World} {n : Nat} {cs : Array Value} (hz : cs.size = 10) (h2 : tmps.getD 2 undef = .pointer (some ⟨n, 0, none⟩)) (hb : Blk W n 50 cs) :
    (results Tryz.f20 tmps).run Tryz.prog W = .ok (.tuple #[.agg cs, tmps.getD 3 undef]) W := by
  rw [results_cell_tmp (p := 2) (u := 3) (ty := 50) rfl, h2]
  have hl := run_loadVar_row (P := Tryz.prog) W n 50 50 cs (0, 0) _ hb Tryz.underlying50 rfl (by rw [hz]; kernel_rfl)
  simp [asAddr, hl, Result.andThen]
/-- The names of the events by their kinds. -/
def KS : List (List UInt8) := [] :: evTab.map (·.1)
def kf (cl : List UInt8) : Nat → Int
  | 0 => 0
  | n + 1 => if n ≠ 0 ∧ KS.getD n [] = cl then (n : Int) else kf cl n
def HapRel (wq : World) (eb : Nat) (cl : List UInt8) (i : Value) (wr : World) : Prop :=
  ∃ j : Nat, 1 ≤ j ∧ j ≤ 15 ∧ i = .int .i64 (j : Int) ∧ Blk wr eb 50 ((ev0 (kf cl j)).cells (.slice none 0 0)) ∧ Kept (fun x => x = eb) wq wr
def FlagR (w5 : World) (eb : Nat) (ev : EvD) (a : List UInt8) (i : Value) (wr : World) : Prop :=
  ∃ (k : Nat) (v : Value), k ≤ a.length ∧ i = .int .i64 (k : Int) ∧ Blk wr eb 50 (({ ev with data := (a.take k).map (· - 48) } : EvD).cells v) ∧ wr.ownsRow w5.heap.size 5 1 v k (bvs ((a.take k).map (· - 48))) ∧ Kept (fun x => x = eb) w5 wr
theorem flag_zero {ev : EvD} (h : ev.data = []) {a : List UInt8} : ({ ev with data := (a.take 0).map (· - 48) } : EvD) = ev := by
  obtain ⟨k, dv, ot, va, pa, de, da, nu, cu, on⟩ := ev
  simp only at h
  subst h
  rfl
theorem sub48 (x : UInt8) : IntKind.u8.wrap ((x.toNat : Int) - 48) = ((x - 48).toNat : Int) := by
  rw [IntKind.wrap_u8, UInt8.toNat_sub]
  have := x.toNat_lt
  simp
  omega
theorem valid_len {cl : List UInt8} {args : List (List UInt8)} {n : Nat} (h : validR cl args = true) (hn : (findR cl).1.2.1.length = n) : args.length = n := by
  unfold validR at h
  simp only [Bool.and_eq_true, decide_eq_true_eq] at h
  omega
theorem len1 {l : List (List UInt8)} (h : l.length = 1) : ∃ a, l = [a] := by match l, h with | [a], _ => exact ⟨a, rfl⟩
theorem len2 {l : List (List UInt8)} (h : l.length = 2) : ∃ a b, l = [a, b] := by match l, h with | [a, b], _ => exact ⟨a, b, rfl⟩
theorem len3 {l : List (List UInt8)} (h : l.length = 3) : ∃ a b c, l = [a, b, c] := by match l, h with | [a, b, c], _ => exact ⟨a, b, c, rfl⟩
theorem len4 {l : List (List UInt8)} (h : l.length = 4) : ∃ a b c d, l = [a, b, c, d] := by match l, h with | [a, b, c, d], _ => exact ⟨a, b, c, d, rfl⟩
theorem cell_set_far {w : World} {a b : Nat} {o i : Nat} {u v : Value} (h : w.cell? ⟨a, o, none⟩ = some v) (hn : a ≠ b) : (w.setCell ⟨b, i, none⟩ u).cell? ⟨a, o, none⟩ = some v := by
  have k := (Kept.refl (fun x => x = b) w).setCell (p := ⟨b, i, none⟩) (.inl rfl) u
  exact k.cell h hn
theorem other_ne {cl : List UInt8} (h : ∀ p ∈ evTab, p.1 ≠ cl) {m : List UInt8} (hm : (evTab.any (fun p => p.1 == m)) = true) : (cl == m) = false := by
  obtain ⟨p, hp, he⟩ := List.any_eq_true.1 hm
  have := h p hp
  rw [beq_eq_false_iff_ne]
  rintro rfl
  exact this (by simpa using he)
theorem ks_cell (j : Nat) (h : j < 15) : (strs KS).toArray[j]? = some (.string (ba (KS.getD j []))) := by
  have hl : KS.length = 15 := by decide
  simp [strs, List.getElem?_eq_getElem (show j < KS.length by omega), List.getD]
theorem ev_or (cl : List UInt8) : (∃ p ∈ evTab, p.1 = cl) ∨ ∀ p ∈ evTab, p.1 ≠ cl := by
  by_cases h : ∃ p ∈ evTab, p.1 = cl
  · exact .inl h
  · exact .inr (fun p hp he => h ⟨p, hp, he⟩)

set_option maxHeartbeats 8000000 in
set_option maxRecDepth 100000 in
theorem happens_any (cl : List UInt8) (A : Option Addr) (c : Nat) (args : List (List UInt8)) (w : World) (hA : StrsAt w A args) (hn8 : args.length ≤ 100000) (hs : ∀ a ∈ args, a.length ≤ 65536) :
    Calls Tryz.prog 20 #[.agg #[.string (ba cl), .slice A args.length c]] w (EvPost (evR cl args) w) := by
  have bx := Blk.new w 39 #[.string (ba cl), .slice A args.length c]
  have b0 : Below w.heap.size w (w.alloc (.cells #[.string (ba cl), .slice A args.length c] 39)) := (Below.refl _ _).alloc (Nat.le_refl _) _
  have HS := Lib.hid hs
  have HS1 := Lib.hid (show ∀ a ∈ args, a.length ≤ 100000 from fun a ha => by have := hs a ha; omega)
  have HEV : Hid (evR cl args = if validR cl args = false then (ev0 0, 1) else evRow cl args) := Lib.hid rfl
  have HAL := Lib.hid (show ∀ ad, A = some ad → 0 < args.length → ad.block < w.heap.size from fun ad e hp => by
    obtain ⟨ad', e', hb, _⟩ := hA.2 hp
    rw [e] at e'
    injection e' with e'
    subst e'
    exact hb)
  clear hs
  go_enter Tryz.func20, Tryz.ntmps20
  go_upto_region 1 with fail
  have br0 := Blk.new (w.alloc (.cells #[.string (ba cl), .slice A args.length c] 39)) 50 ((ev0 0).cells (.slice none 0 0))
  have k1 := (Kept.refl NoF (w.alloc (.cells #[.string (ba cl), .slice A args.length c] 39))).alloc (.cells ((ev0 0).cells (.slice none 0 0)) 50)
  have b1 := b0.alloc b0.size (.cells ((ev0 0).cells (.slice none 0 0)) 50)
  have hsz : (w.alloc (.cells #[.string (ba cl), .slice A args.length c] 39)).heap.size = w.heap.size + 1 := by simp
  rw [hsz] at br0
  have bx1 := k1.blk bx (fun h => h)
  have hA1 : StrsAt _ A args := hA.same (Kept.of_below (F := NoF) b1)
  have hww : (w.alloc (.cells #[.string (ba cl), .slice A args.length c] 39)).alloc (.cells ((ev0 0).cells (.slice none 0 0)) 50) = (w.alloc (.cells #[.string (ba cl), .slice A args.length c] 39)).alloc (.cells #[.int .i64 0, .int .i64 0, .int .i64 0, .int .i64 0, .string ⟨#[]⟩, .string ⟨#[]⟩, .slice none 0 0, .int .i64 0, .int .i64 0, .bool false] 50) := rfl
  rw [hww] at br0 b1 bx1 hA1
  clear hww bx b0 k1 hA
  generalize (w.alloc (.cells #[.string (ba cl), .slice A args.length c] 39)).alloc (.cells #[.int .i64 0, .int .i64 0, .int .i64 0, .int .i64 0, .string ⟨#[]⟩, .string ⟨#[]⟩, .slice none 0 0, .int .i64 0, .int .i64 0, .bool false] 50) = w1 at br0 b1 bx1 hA1 ⊢
  have c10 : w1.cell? ⟨w.heap.size, 0, none⟩ = some (.string (ba cl)) := (bx1.cell 0).trans rfl
  have c11 : w1.cell? ⟨w.heap.size, 1, none⟩ = some (.slice A args.length c) := (bx1.cell 1).trans rfl
  have CK := Lib.hid (rvalid_any (ba cl) c w1 hA1 hn8 HS.out)
  rw [ba_toList] at CK
  go_wp2_with fail
  refine CK.out.mono ?_
  clear CK
  rintro e w2 ⟨rfl, b2⟩
  have k2 : Kept NoF w1 w2 := Kept.of_below b2
  have bx2 := k2.blk bx1 (fun h => h)
  have br2 := k2.blk br0 (fun h => h)
  have bw2 := b1.trans (b2.mono b1.size)
  have hA2 := hA1.same k2
  clear b1 b2 bx1 br0 c10 c11 hA1 k2
  cases hvv : validR cl args with
  | false =>
    have zr : ∀ i, w2.frozen? ⟨w.heap.size + 1, i, none⟩ = false := fun i => br2.frozen i
    have r0 := (br2.cell 0).trans (show ((ev0 0).cells (.slice none 0 0))[0]? = some (.int .i64 0) from rfl)
    have r1 := (br2.cell 1).trans (show ((ev0 0).cells (.slice none 0 0))[1]? = some (.int .i64 0) from rfl)
    have r2 := (br2.cell 2).trans (show ((ev0 0).cells (.slice none 0 0))[2]? = some (.int .i64 0) from rfl)
    have r3 := (br2.cell 3).trans (show ((ev0 0).cells (.slice none 0 0))[3]? = some (.int .i64 0) from rfl)
    have r4 := (br2.cell 4).trans (show ((ev0 0).cells (.slice none 0 0))[4]? = some (.string (ba [])) from rfl)
    have r5 := (br2.cell 5).trans (show ((ev0 0).cells (.slice none 0 0))[5]? = some (.string (ba [])) from rfl)
    have r6 := (br2.cell 6).trans (show ((ev0 0).cells (.slice none 0 0))[6]? = some (.slice none 0 0) from rfl)
    have r7 := (br2.cell 7).trans (show ((ev0 0).cells (.slice none 0 0))[7]? = some (.int .i64 0) from rfl)
    have r8 := (br2.cell 8).trans (show ((ev0 0).cells (.slice none 0 0))[8]? = some (.int .i64 0) from rfl)
    have r9 := (br2.cell 9).trans (show ((ev0 0).cells (.slice none 0 0))[9]? = some (.bool false) from rfl)
    have HR := Lib.hid (HEV.out.trans (if_pos hvv))
    go_wp2_with fail
    refine bodyPost_ret (results_hap rfl rfl (blk_sets br2 (evList (ev0 0) (.slice none 0 0)))) rfl ?_
    rw [HR.out, evList_cells]
    refine ⟨.slice none 0 0, none, 0, ?_, rfl, Reads.none_, ?_⟩
    · exact rfl
    · exact below_sets bw2 (w.heap.size + 1) (by omega) (evList (ev0 0) (.slice none 0 0))
  | true =>
  have HV := Lib.hid hvv
  have HEV2 := HEV.out
  rw [if_neg (by rw [hvv]; decide)] at HEV2
  clear HEV
  have HEV := Lib.hid HEV2
  clear HEV2 hvv
  have bk := Blk.new w2 9 (strs KS).toArray
  have k3 := (Kept.refl NoF w2).alloc (.cells (strs KS).toArray 9)
  have bw3 := bw2.alloc bw2.size (.cells (strs KS).toArray 9)
  have hww : w2.alloc (.cells (strs KS).toArray 9) = w2.alloc (.cells #[.string ⟨#[]⟩, .string ⟨#[119, 114, 105, 116, 101]⟩, .string ⟨#[114, 101, 109, 111, 118, 101]⟩, .string ⟨#[109, 111, 118, 101]⟩, .string ⟨#[98, 97, 99, 107, 117, 112]⟩, .string ⟨#[112, 97, 115, 115]⟩, .string ⟨#[99, 108, 111, 99, 107]⟩, .string ⟨#[109, 101, 101, 116]⟩, .string ⟨#[108, 111, 115, 101]⟩, .string ⟨#[100, 114, 111, 112]⟩, .string ⟨#[102, 97, 105, 108]⟩, .string ⟨#[104, 111, 108, 100]⟩, .string ⟨#[114, 101, 116, 97, 105, 110]⟩, .string ⟨#[115, 101, 116, 116, 108, 101]⟩, .string ⟨#[114, 101, 115, 116, 111, 114, 101]⟩] 9) := rfl
  rw [hww] at bk k3 bw3
  clear hww
  go_upto_region 4 with fail
  generalize w2.alloc (.cells #[.string ⟨#[]⟩, .string ⟨#[119, 114, 105, 116, 101]⟩, .string ⟨#[114, 101, 109, 111, 118, 101]⟩, .string ⟨#[109, 111, 118, 101]⟩, .string ⟨#[98, 97, 99, 107, 117, 112]⟩, .string ⟨#[112, 97, 115, 115]⟩, .string ⟨#[99, 108, 111, 99, 107]⟩, .string ⟨#[109, 101, 101, 116]⟩, .string ⟨#[108, 111, 115, 101]⟩, .string ⟨#[100, 114, 111, 112]⟩, .string ⟨#[102, 97, 105, 108]⟩, .string ⟨#[104, 111, 108, 100]⟩, .string ⟨#[114, 101, 116, 97, 105, 110]⟩, .string ⟨#[115, 101, 116, 116, 108, 101]⟩, .string ⟨#[114, 101, 115, 116, 111, 114, 101]⟩] 9) = w3 at bk k3 bw3 ⊢
  have bx3 := k3.blk bx2 (fun h => h)
  have br3 := k3.blk br2 (fun h => h)
  have hA3 := hA2.same k3
  have hkb := br2.lt
  generalize w2.heap.size = kb at bk hkb ⊢
  clear k3 bx2 br2 hA2 bw2
  have bq := Blk.new w3 50 ((ev0 0).cells (.slice none 0 0))
  have k4 := (Kept.refl NoF w3).alloc (.cells ((ev0 0).cells (.slice none 0 0)) 50)
  have bw5 := bw3.alloc bw3.size (.cells ((ev0 0).cells (.slice none 0 0)) 50)
  have hww : w3.alloc (.cells ((ev0 0).cells (.slice none 0 0)) 50) = w3.alloc (.cells #[.int .i64 0, .int .i64 0, .int .i64 0, .int .i64 0, .string ⟨#[]⟩, .string ⟨#[]⟩, .slice none 0 0, .int .i64 0, .int .i64 0, .bool false] 50) := rfl
  rw [hww] at bq k4 bw5
  clear hww
  go_upto_region 5 with fail
  generalize w3.alloc (.cells #[.int .i64 0, .int .i64 0, .int .i64 0, .int .i64 0, .string ⟨#[]⟩, .string ⟨#[]⟩, .slice none 0 0, .int .i64 0, .int .i64 0, .bool false] 50) = w5 at bq k4 bw5 ⊢
  have bx5 := k4.blk bx3 (fun h => h)
  have br5 := k4.blk br3 (fun h => h)
  have bk5 := k4.blk bk (fun h => h)
  have hA5 := hA3.same k4
  have heb := bk.lt
  generalize w3.heap.size = eb at bq heb ⊢
  clear k4 bx3 br3 hA3 bw3 bk
  go_wp2_with fail
  go_loopw [6] (HapRel w5 eb cl) (fun i _ => 15 - (intOf i).toNat)
  case atStart => exact ⟨1, Nat.le_refl _, by omega, rfl, bq, Kept.refl _ _⟩
  case round =>
  clear bq
  obtain ⟨j, hj1, hj, rfl, hbk, kr⟩ := hrel
  have bxr := kr.blk bx5 (by show ¬ w.heap.size = eb; omega)
  by_cases hlt : j < 15
  · have c0 : wr.cell? ⟨kb, j, none⟩ = some (.string (ba (KS.getD j []))) := by rw [(kr.blk bk5 (by show ¬ kb = eb; omega)).cell]; exact ks_cell j hlt
    have e0 : wr.cell? ⟨w.heap.size, 0, none⟩ = some (.string (ba cl)) := (bxr.cell 0).trans rfl
    have i1 : (j : Int) < 15 := by omega
    have fz := hbk.frozen 0
    have cc := (hbk.cell 0).trans (show ((ev0 (kf cl j)).cells (.slice none 0 0))[0]? = some (.int .i64 (kf cl j)) from rfl)
    by_cases hq : KS.getD j [] = cl
    · have HK := Lib.hid (show kf cl (j + 1) = (j : Int) from if_pos ⟨by omega, hq⟩)
      have hq' : ((ba (KS.getD j [])).toList == (ba cl).toList) = true := by rw [hq]; simp
      generalize KS.getD j [] = kx at c0 hq'
      generalize kf cl j = kk at cc hbk
      clear hq
      go_wp2_with fail
      go_quiet (fail)
      go_wp2_with fail
      go_roundw
      case rel => exact ⟨j + 1, by omega, by omega, by go_num, by rw [HK.out]; exact ((Kept.refl NoF wr).drewN _ |>.blk hbk (fun h => h)).set_ 0 (.int .i64 (j : Int)), (kr.drewN _).setCell (p := ⟨eb, 0, none⟩) (.inl rfl) _⟩
      case measure => simp [intOf]; omega
    · have HK := Lib.hid (show kf cl (j + 1) = kf cl j from if_neg (fun h => hq h.2))
      have hq' : ((ba (KS.getD j [])).toList == (ba cl).toList) = false := by rw [cmp_ba, Lib.toList_data, ba_toList, beq_eq_false_iff_ne]; exact hq
      generalize KS.getD j [] = kx at c0 hq'
      clear hq
      go_wp2_with fail
      go_quiet (fail)
      go_wp2_with fail
      go_roundw
      case rel => exact ⟨j + 1, by omega, by omega, by go_num, by rw [HK.out]; exact (Kept.refl NoF wr).drewN _ |>.blk hbk (fun h => h), kr.drewN _⟩
      case measure => simp [intOf]; omega
  obtain rfl : j = 15 := by omega
  have brr := kr.blk br5 (by show ¬ w.heap.size + 1 = eb; omega)
  have hAr : StrsAt wr A args := kr.src hA5 (fun ad e hp => by have := HAL.out ad e hp; show ¬ ad.block = eb; omega)
  have HBW : Hid (Below w.heap.size w wr) := Lib.hid (bw5.trans (kr.below (B := w.heap.size) bw5.size (fun x h => by subst h; omega)))
  have i15 : decide ((15 : Int) < 15) = false := by simp
  clear hj1 hj hlt bx5 br5 bk5 hA5 bw5
  rcases ev_or cl with hex | hoth
  rotate_left
  · skip
    have hno := hoth
    have q0 : ((ba cl).toList == [119, 114, 105, 116, 101]) = false := by rw [cmp_ba]; exact other_ne hoth (by decide +kernel)
    have q1 : ((ba cl).toList == [114, 101, 109, 111, 118, 101]) = false := by rw [cmp_ba]; exact other_ne hoth (by decide +kernel)
    have q2 : ((ba cl).toList == [109, 111, 118, 101]) = false := by rw [cmp_ba]; exact other_ne hoth (by decide +kernel)
    have q3 : ((ba cl).toList == [98, 97, 99, 107, 117, 112]) = false := by rw [cmp_ba]; exact other_ne hoth (by decide +kernel)
    have q4 : ((ba cl).toList == [114, 101, 116, 97, 105, 110]) = false := by rw [cmp_ba]; exact other_ne hoth (by decide +kernel)
    have q5 : ((ba cl).toList == [112, 97, 115, 115]) = false := by rw [cmp_ba]; exact other_ne hoth (by decide +kernel)
    have q6 : ((ba cl).toList == [99, 108, 111, 99, 107]) = false := by rw [cmp_ba]; exact other_ne hoth (by decide +kernel)
    have q7 : ((ba cl).toList == [100, 114, 111, 112]) = false := by rw [cmp_ba]; exact other_ne hoth (by decide +kernel)
    have q8 : ((ba cl).toList == [109, 101, 101, 116]) = false := by rw [cmp_ba]; exact other_ne hoth (by decide +kernel)
    have q9 : ((ba cl).toList == [108, 111, 115, 101]) = false := by rw [cmp_ba]; exact other_ne hoth (by decide +kernel)
    have q10 : ((ba cl).toList == [115, 101, 116, 116, 108, 101]) = false := by rw [cmp_ba]; exact other_ne hoth (by decide +kernel)
    have q11 : ((ba cl).toList == [102, 97, 105, 108]) = false := by rw [cmp_ba]; exact other_ne hoth (by decide +kernel)
    have q12 : ((ba cl).toList == [104, 111, 108, 100]) = false := by rw [cmp_ba]; exact other_ne hoth (by decide +kernel)
    have q13 : ((ba cl).toList == [114, 101, 115, 116, 111, 114, 101]) = false := by rw [cmp_ba]; exact other_ne hoth (by decide +kernel)
    have brr' := brr
    have zr : ∀ i, wr.frozen? ⟨w.heap.size + 1, i, none⟩ = false := fun i => brr'.frozen i
    have r0 := (brr.cell 0).trans (show ((ev0 0).cells (.slice none 0 0))[0]? = some (.int .i64 0) from rfl)
    have r1 := (brr.cell 1).trans (show ((ev0 0).cells (.slice none 0 0))[1]? = some (.int .i64 0) from rfl)
    have r2 := (brr.cell 2).trans (show ((ev0 0).cells (.slice none 0 0))[2]? = some (.int .i64 0) from rfl)
    have r3 := (brr.cell 3).trans (show ((ev0 0).cells (.slice none 0 0))[3]? = some (.int .i64 0) from rfl)
    have r4 := (brr.cell 4).trans (show ((ev0 0).cells (.slice none 0 0))[4]? = some (.string (ba [])) from rfl)
    have r5 := (brr.cell 5).trans (show ((ev0 0).cells (.slice none 0 0))[5]? = some (.string (ba [])) from rfl)
    have r6 := (brr.cell 6).trans (show ((ev0 0).cells (.slice none 0 0))[6]? = some (.slice none 0 0) from rfl)
    have r7 := (brr.cell 7).trans (show ((ev0 0).cells (.slice none 0 0))[7]? = some (.int .i64 0) from rfl)
    have r8 := (brr.cell 8).trans (show ((ev0 0).cells (.slice none 0 0))[8]? = some (.int .i64 0) from rfl)
    have r9 := (brr.cell 9).trans (show ((ev0 0).cells (.slice none 0 0))[9]? = some (.bool false) from rfl)
    have e0 : wr.cell? ⟨w.heap.size, 0, none⟩ = some (.string (ba cl)) := (bxr.cell 0).trans rfl
    have HR : Hid (evR cl args = (ev0 0, 14)) := Lib.hid (HEV.out.trans (evRow_other hoth args))
    have HBR := Lib.hid brr
    have HKR := Lib.hid kr
    clear brr brr' kr hbk bxr hAr hno
    go_wp2_with fail
    refine bodyPost_ret (results_hap rfl rfl (blk_sets HBR.out (evList (ev0 0) (.slice none 0 0)))) rfl ?_
    rw [HR.out, evList_cells]
    refine ⟨.slice none 0 0, none, 0, ?_, rfl, Reads.none_, ?_⟩
    · exact rfl
    · exact below_sets HBW.out (w.heap.size + 1) (by omega) (evList (ev0 0) (.slice none 0 0))
  obtain ⟨p, hp, he⟩ := hex
  simp only [evTab, List.mem_cons, List.not_mem_nil, or_false] at hp
  rcases hp with rfl | rfl | rfl | rfl | rfl | rfl | rfl | rfl | rfl | rfl | rfl | rfl | rfl | rfl <;> (simp only at he; subst he)
  · skip
    have q0 : ((ba [119, 114, 105, 116, 101]).toList == [119, 114, 105, 116, 101]) = true := by rw [cmp_ba]; decide
    obtain ⟨a0, a1, a2, rfl⟩ := len3 (valid_len (n := 3) HV.out (by decide +kernel))
    rw [show kf [119, 114, 105, 116, 101] 15 = 1 by decide +kernel] at hbk
    obtain ⟨xb, xo, rfl, hxb, _⟩ := hAr.at_ (k := 0) (by simp)
    have cx1 : wr.cell? ⟨xb, xo + 1, none⟩ = some (.string (ba a1)) := by
      obtain ⟨xb', xo', e, _, h⟩ := hAr.at_ (k := 1) (by simp)
      injection e with e
      injection e with e1 e2
      rw [e1, e2]
      exact h
    have cx2 : wr.cell? ⟨xb, xo + 2, none⟩ = some (.string (ba a2)) := by
      obtain ⟨xb', xo', e, _, h⟩ := hAr.at_ (k := 2) (by simp)
      injection e with e
      injection e with e1 e2
      rw [e1, e2]
      exact h
    have e0 : wr.cell? ⟨w.heap.size, 0, none⟩ = some (.string (ba [119, 114, 105, 116, 101])) := (bxr.cell 0).trans rfl
    have e1 : wr.cell? ⟨w.heap.size, 1, none⟩ = some (.slice (some ⟨xb, xo, none⟩) 3 c) := (bxr.cell 1).trans rfl
    have hxe : xb ≠ eb := by have := HAL.out _ rfl (by simp); simp only at this; omega
    have hse : w.heap.size ≠ eb := by omega
    have CN0 := Lib.hid (fun W (k : Kept NoF wr W) => (show Calls Tryz.prog 47 #[.agg #[.string (ba [119, 114, 105, 116, 101]), .slice (some ⟨xb, xo, none⟩) 3 c], .int .i64 0] W fun e W' => e = .returned (.int .i64 (numR a0).1) ∧ Kept NoF W W' from
      (rnumber_any (ba [119, 114, 105, 116, 101]) _ c [a0, a1, a2] W (hAr.same k) 0 (by simp) HS1.out).mono (fun e W' (h : _ ∧ _) => ⟨h.1, Kept.of_below h.2⟩)))
    have HCV := Lib.hid (fun W : World => (show (convert 9 43 (.string (ba a2))).run Tryz.prog W = .ok (.slice (some ⟨W.heap.size, 0, none⟩) a2.length (grownCap W a2.length 0 5)) (Lib.bytesWorld W 5 (ba a2)) from by rw [← ba_size a2]; exact Lib.run_convert_string_bytes W 9 43 5 (ba a2) Tryz.underlying9 Tryz.underlying43 Tryz.underlying5))
    have SA := Lib.hid (fun W (k : Kept (fun x => x = eb) wr W) => (⟨k.cell e0 hse, k.cell e1 hse, k.cell cx1 hxe, k.cell cx2 hxe⟩ : (fun (w' : World) => w'.cell? ⟨w.heap.size, 0, none⟩ = some (.string (ba [119, 114, 105, 116, 101])) ∧ w'.cell? ⟨w.heap.size, 1, none⟩ = some (.slice (some ⟨xb, xo, none⟩) 3 c) ∧ w'.cell? ⟨xb, xo + 1, none⟩ = some (.string (ba a1)) ∧ w'.cell? ⟨xb, xo + 2, none⟩ = some (.string (ba a2))) W))
    have kE := ((Kept.refl NoF wr).drew).mono (G := fun x => x = eb) (fun _ h => h.elim)
    have kN := (Kept.refl NoF wr).drew
    have bE := kN.blk hbk (fun h => h)
    go_upto_region 13 with fail
    refine wp_region_noPanic ?_
    refine wp_region_held_drew (S := (fun (w' : World) => w'.cell? ⟨w.heap.size, 0, none⟩ = some (.string (ba [119, 114, 105, 116, 101])) ∧ w'.cell? ⟨w.heap.size, 1, none⟩ = some (.slice (some ⟨xb, xo, none⟩) 3 c) ∧ w'.cell? ⟨xb, xo + 1, none⟩ = some (.string (ba a1)) ∧ w'.cell? ⟨xb, xo + 2, none⟩ = some (.string (ba a2)))) (by kernel_rfl) ?_ (fun hHeld => ?_)
    · exact SA.out _ kE
    generalize wr.drew = wq at hHeld kE kN bE ⊢
    refine wpAnyH_take (i := 0) (v := ?_) rfl (by kernel_rfl) (by kernel_rfl) (by kernel_rfl) (fun _ _ _ h => h) (Or.inl ⟨by rfl, ?_⟩) hHeld ?_
    rotate_left
    · (intro w hSw; (try dsimp only at hSw); go_simp; try (with_reducible rfl))
    simp only [Act.put, List.getElem_toArray, List.getElem_cons_zero, List.setIfInBounds_toArray, List.set_cons_zero, List.set_cons_succ]
    refine wpAnyH_take (i := 2) (v := ?_) rfl (by kernel_rfl) (by kernel_rfl) (by kernel_rfl) (fun _ _ _ h => h) (Or.inl ⟨by rfl, ?_⟩) hHeld ?_
    rotate_left
    · (intro w hSw; (try dsimp only at hSw); go_simp; try (with_reducible rfl))
    simp only [Act.put, List.getElem_toArray, List.getElem_cons_zero, List.getElem_cons_succ, List.setIfInBounds_toArray, List.set_cons_zero, List.set_cons_succ]
    refine wpAnyH_take (i := 3) (v := ?_) rfl (by kernel_rfl) (by kernel_rfl) (by kernel_rfl) (fun _ _ _ h => h) (Or.inl ⟨by rfl, ?_⟩) hHeld ?_
    rotate_left
    · (intro w hSw; (try dsimp only at hSw); go_simp; try (with_reducible rfl))
    simp only [Act.put, List.getElem_toArray, List.getElem_cons_zero, List.getElem_cons_succ, List.setIfInBounds_toArray, List.set_cons_zero, List.set_cons_succ]
    refine wpAnyH_take (i := 4) (v := ?_) rfl (by kernel_rfl) (by kernel_rfl) (by kernel_rfl) (fun _ _ _ h => h) (Or.inl ⟨by rfl, ?_⟩) hHeld ?_
    rotate_left
    · (intro w hSw; (try dsimp only at hSw); go_simp; try (with_reducible rfl))
    simp only [Act.put, List.getElem_toArray, List.getElem_cons_zero, List.getElem_cons_succ, List.setIfInBounds_toArray, List.set_cons_zero, List.set_cons_succ]
    refine wpAnyH_take (i := 5) (v := ?_) rfl (by kernel_rfl) (by kernel_rfl) (by kernel_rfl) (fun _ _ _ h => h) (Or.inl ⟨by rfl, ?_⟩) hHeld ?_
    rotate_left
    · (intro w hSw; (try dsimp only at hSw); go_simp; try (with_reducible rfl))
    simp only [Act.put, List.getElem_toArray, List.getElem_cons_zero, List.getElem_cons_succ, List.setIfInBounds_toArray, List.set_cons_zero, List.set_cons_succ]
    refine wpAnyH_take (i := 6) (v := ?_) rfl (by kernel_rfl) (by kernel_rfl) (by kernel_rfl) (fun _ _ _ h => h) (Or.inl ⟨by rfl, ?_⟩) hHeld ?_
    rotate_left
    · (intro w hSw; (try dsimp only at hSw); go_simp; try (with_reducible rfl))
    simp only [Act.put, List.getElem_toArray, List.getElem_cons_zero, List.getElem_cons_succ, List.setIfInBounds_toArray, List.set_cons_zero, List.set_cons_succ]
    refine wpAnyH_take (i := 7) (v := ?_) rfl (by kernel_rfl) (by kernel_rfl) (by kernel_rfl) (fun _ _ _ h => h) (Or.inl ⟨by rfl, ?_⟩) hHeld ?_
    rotate_left
    · (intro w hSw; (try dsimp only at hSw); go_simp; try (with_reducible rfl))
    simp only [Act.put, List.getElem_toArray, List.getElem_cons_zero, List.getElem_cons_succ, List.setIfInBounds_toArray, List.set_cons_zero, List.set_cons_succ]
    refine wpAnyH_take (i := 8) (v := ?_) rfl (by kernel_rfl) (by kernel_rfl) (by kernel_rfl) (fun _ _ _ h => h) (Or.inl ⟨by rfl, ?_⟩) hHeld ?_
    rotate_left
    · (intro w hSw; (try dsimp only at hSw); go_simp; try (with_reducible rfl))
    simp only [Act.put, List.getElem_toArray, List.getElem_cons_zero, List.getElem_cons_succ, List.setIfInBounds_toArray, List.set_cons_zero, List.set_cons_succ]
    refine wpAnyH_take (i := 9) (v := ?_) rfl (by kernel_rfl) (by kernel_rfl) (by kernel_rfl) (fun _ _ _ h => h) (Or.inl ⟨by rfl, ?_⟩) hHeld ?_
    rotate_left
    · (intro w hSw; (try dsimp only at hSw); go_simp; try (with_reducible rfl))
    simp only [Act.put, List.getElem_toArray, List.getElem_cons_zero, List.getElem_cons_succ, List.setIfInBounds_toArray, List.set_cons_zero, List.set_cons_succ]
    refine wpAnyH_ready (rs := [1, 10]) (by kernel_rfl) (by simp) ?_
    refine AllReadyH.cons rfl (fun K hK => ?_) (AllReadyH.cons rfl (fun K hK => ?_) (AllReadyH.nil))
    · skip
      go_simp
      refine (CN0.out _ kN).mono ?_
      rintro e wcq ⟨rfl, kcq⟩
      have kNq := kN.trans kcq (fun _ h => .inl h)
      have kEq := kE.trans kcq (fun _ h => h.elim)
      have bEq := kcq.blk bE (fun h => h)
      have zq : ∀ i, wcq.frozen? ⟨eb, i, none⟩ = false := fun i => bEq.frozen i
      have f1q := (bEq.cell 1).trans (show _ = some (.int .i64 0) from rfl)
      have f4q := (bEq.cell 4).trans (show _ = some (.string (ba [])) from rfl)
      have f6q := (bEq.cell 6).trans (show _ = some (.slice none 0 0) from rfl)
      go_wp2_with fail
      refine hK.out _ _ (SA.out _ kEq) (fun hHeld => ?_)
      clear hK K
      try simp only [Act.put, List.getElem_toArray, List.getElem_cons_zero, List.getElem_cons_succ, List.setIfInBounds_toArray, List.set_cons_zero, List.set_cons_succ]
      refine wpAnyH_take (i := 11) (v := ?_) rfl (by kernel_rfl) (by kernel_rfl) (by kernel_rfl) (fun _ _ _ h => h) (Or.inl ⟨by rfl, ?_⟩) hHeld ?_
      rotate_left
      · (intro w hSw; (try dsimp only at hSw); go_simp; try (with_reducible rfl))
      simp only [Act.put, List.getElem_toArray, List.getElem_cons_zero, List.getElem_cons_succ, List.setIfInBounds_toArray, List.set_cons_zero, List.set_cons_succ]
      refine wpAnyH_ready (rs := [10, 12]) (by kernel_rfl) (by simp) ?_
      refine AllReadyH.cons rfl (fun K hK => ?_) (AllReadyH.cons rfl (fun K hK => ?_) (AllReadyH.nil))
      · skip
        have hcv := HCV.out (wcq)
        go_simp
        clear hcv
        have bzqq : Below (wcq).heap.size (wcq) (Lib.bytesWorld (wcq) 5 (ba a2)) := below_bytes _ _ _
        have hdqq := conv_dat (wcq) eb a2 (Blk.lt bEq)
        rw [ba_size] at hdqq
        have kcqq : Kept NoF (wcq) (Lib.bytesWorld (wcq) 5 (ba a2)) := Kept.of_below bzqq
        have kEqq := Kept.trans kEq kcqq (fun _ h => h.elim)
        have bEqq := kcqq.blk bEq (fun h => h)
        have kNqq := kNq.trans kcqq (fun _ h => .inl h)
        clear bzqq kcqq
        generalize Lib.bytesWorld (wcq) 5 (ba a2) = wcqq at hdqq kEqq bEqq kNqq ⊢
        generalize grownCap (wcq) a2.length 0 5 = gc at hdqq ⊢
        generalize HC : wcq.heap.size = cb at hdqq ⊢
        clear HC
        have zqq : ∀ i, wcqq.frozen? ⟨eb, i, none⟩ = false := fun i => bEqq.frozen i
        have f1qq := (bEqq.cell 1).trans (show _ = some (.int .i64 0) from rfl)
        have f4qq := (bEqq.cell 4).trans (show _ = some (.string (ba [])) from rfl)
        have f6qq := (bEqq.cell 6).trans (show _ = some (.slice none 0 0) from rfl)
        refine hK.out _ _ (SA.out _ kEqq) (fun hHeld => ?_)
        clear hK K
        try simp only [Act.put, List.getElem_toArray, List.getElem_cons_zero, List.getElem_cons_succ, List.setIfInBounds_toArray, List.set_cons_zero, List.set_cons_succ]
        refine wpAnyH_ready (rs := [12]) (by kernel_rfl) (by simp) ?_
        refine AllReadyH.cons rfl (fun K hK => ?_) AllReadyH.nil
        go_simp
        refine hK.out _ _ (SA.out _ (Kept.setCell (p := ⟨eb, 1, none⟩) kEqq (.inl rfl) (.int .i64 (numR a0).1))) (fun hHeld => ?_)
        clear hK K
        try simp only [Act.put, List.getElem_toArray, List.getElem_cons_zero, List.getElem_cons_succ, List.setIfInBounds_toArray, List.set_cons_zero, List.set_cons_succ]
        refine wpAnyH_take (i := 13) (v := ?_) rfl (by kernel_rfl) (by kernel_rfl) (by kernel_rfl) (fun _ _ _ h => h) (Or.inl ⟨by rfl, ?_⟩) hHeld ?_
        rotate_left
        · (intro w hSw; (try dsimp only at hSw); go_simp; try (with_reducible rfl))
        simp only [Act.put, List.getElem_toArray, List.getElem_cons_zero, List.getElem_cons_succ, List.setIfInBounds_toArray, List.set_cons_zero, List.set_cons_succ]
        refine wpAnyH_ready (rs := [14]) (by kernel_rfl) (by simp) ?_
        refine AllReadyH.cons rfl (fun K hK => ?_) AllReadyH.nil
        go_simp
        refine hK.out _ _ (SA.out _ (Kept.setCell (p := ⟨eb, 4, none⟩) (Kept.setCell (p := ⟨eb, 1, none⟩) kEqq (.inl rfl) (.int .i64 (numR a0).1)) (.inl rfl) (.string (ba a1)))) (fun hHeld => ?_)
        clear hK K
        try simp only [Act.put, List.getElem_toArray, List.getElem_cons_zero, List.getElem_cons_succ, List.setIfInBounds_toArray, List.set_cons_zero, List.set_cons_succ]
        refine wpAnyH_take (i := 15) (v := ?_) rfl (by kernel_rfl) (by kernel_rfl) (by kernel_rfl) (fun _ _ _ h => h) (Or.inl ⟨by rfl, ?_⟩) hHeld ?_
        rotate_left
        · (intro w hSw; (try dsimp only at hSw); go_simp; try (with_reducible rfl))
        simp only [Act.put, List.getElem_toArray, List.getElem_cons_zero, List.getElem_cons_succ, List.setIfInBounds_toArray, List.set_cons_zero, List.set_cons_succ]
        refine wpAnyH_ready (rs := [16]) (by kernel_rfl) (by simp) ?_
        refine AllReadyH.cons rfl (fun K hK => ?_) AllReadyH.nil
        go_simp
        refine hK.out _ _ (SA.out _ (Kept.setCell (p := ⟨eb, 6, none⟩) (Kept.setCell (p := ⟨eb, 4, none⟩) (Kept.setCell (p := ⟨eb, 1, none⟩) kEqq (.inl rfl) (.int .i64 (numR a0).1)) (.inl rfl) (.string (ba a1))) (.inl rfl) (.slice (some ⟨cb, 0, none⟩) a2.length gc))) (fun hHeld => ?_)
        clear hK K
        try simp only [Act.put, List.getElem_toArray, List.getElem_cons_zero, List.getElem_cons_succ, List.setIfInBounds_toArray, List.set_cons_zero, List.set_cons_succ]
        refine wpAnyH_done (by kernel_rfl) ?_ _
        refine NoPanic.normal ?_
        have hbE : Blk ((((wcqq.setCell ⟨eb, 1, none⟩ (.int .i64 (numR a0).1)).setCell ⟨eb, 4, none⟩ (.string (ba a1))).setCell ⟨eb, 6, none⟩ (.slice (some ⟨cb, 0, none⟩) a2.length gc))) eb 50 (({ ev0 1 with dev := nv a0, path := a1, data := a2 } : EvD).cells (.slice (some ⟨cb, 0, none⟩) a2.length gc)) := (Blk.set_ (Blk.set_ (Blk.set_ bEqq 1 (.int .i64 (numR a0).1)) 4 (.string (ba a1))) 6 (.slice (some ⟨cb, 0, none⟩) a2.length gc))
        have kz : Kept (fun x => x = eb) wr ((((wcqq.setCell ⟨eb, 1, none⟩ (.int .i64 (numR a0).1)).setCell ⟨eb, 4, none⟩ (.string (ba a1))).setCell ⟨eb, 6, none⟩ (.slice (some ⟨cb, 0, none⟩) a2.length gc))) := (Kept.setCell (p := ⟨eb, 6, none⟩) (Kept.setCell (p := ⟨eb, 4, none⟩) (Kept.setCell (p := ⟨eb, 1, none⟩) kEqq (.inl rfl) (.int .i64 (numR a0).1)) (.inl rfl) (.string (ba a1))) (.inl rfl) (.slice (some ⟨cb, 0, none⟩) a2.length gc))
        have hdE : DatAt ((((wcqq.setCell ⟨eb, 1, none⟩ (.int .i64 (numR a0).1)).setCell ⟨eb, 4, none⟩ (.string (ba a1))).setCell ⟨eb, 6, none⟩ (.slice (some ⟨cb, 0, none⟩) a2.length gc))) eb (.slice (some ⟨cb, 0, none⟩) a2.length gc) ({ ev0 1 with dev := nv a0, path := a1, data := a2 } : EvD).data := hdqq.kept (Kept.setCell (p := ⟨eb, 6, none⟩) (Kept.setCell (p := ⟨eb, 4, none⟩) (Kept.setCell (p := ⟨eb, 1, none⟩) (Kept.refl (fun x => x = eb) wcqq) (.inl rfl) (.int .i64 (numR a0).1)) (.inl rfl) (.string (ba a1))) (.inl rfl) (.slice (some ⟨cb, 0, none⟩) a2.length gc))
        generalize (((wcqq.setCell ⟨eb, 1, none⟩ (.int .i64 (numR a0).1)).setCell ⟨eb, 4, none⟩ (.string (ba a1))).setCell ⟨eb, 6, none⟩ (.slice (some ⟨cb, 0, none⟩) a2.length gc)) = wz at hbE kz hdE ⊢
        have HR : Hid (evR [119, 114, 105, 116, 101] [a0, a1, a2] = (({ ev0 1 with dev := nv a0, path := a1, data := a2 } : EvD), 0)) := Lib.hid (HEV.out.trans rfl)
        obtain ⟨D, cd, hv, hrd, hdn⟩ := hdE
        rw [hv] at hbE
        have HRD := Lib.hid hrd
        have HDN := Lib.hid hdn
        clear hrd hdn hv
        generalize ({ ev0 1 with dev := nv a0, path := a1, data := a2 } : EvD) = ev at hbE HR HRD ⊢
        have bzr := kz.blk brr (by show ¬ w.heap.size + 1 = eb; omega)
        have zr : ∀ i, wz.frozen? ⟨w.heap.size + 1, i, none⟩ = false := fun i => bzr.frozen i
        have e0 := (hbE.cell 0).trans (show (ev.cells (.slice D ev.data.length cd))[0]? = some (.int .i64 ev.kind) from rfl)
        have e1 := (hbE.cell 1).trans (show (ev.cells (.slice D ev.data.length cd))[1]? = some (.int .i64 ev.dev) from rfl)
        have e2 := (hbE.cell 2).trans (show (ev.cells (.slice D ev.data.length cd))[2]? = some (.int .i64 ev.oth) from rfl)
        have e3 := (hbE.cell 3).trans (show (ev.cells (.slice D ev.data.length cd))[3]? = some (.int .i64 ev.vault) from rfl)
        have e4 := (hbE.cell 4).trans (show (ev.cells (.slice D ev.data.length cd))[4]? = some (.string (ba ev.path)) from rfl)
        have e5 := (hbE.cell 5).trans (show (ev.cells (.slice D ev.data.length cd))[5]? = some (.string (ba ev.dest)) from rfl)
        have e6 := (hbE.cell 6).trans (show (ev.cells (.slice D ev.data.length cd))[6]? = some (.slice D ev.data.length cd) from rfl)
        have e7 := (hbE.cell 7).trans (show (ev.cells (.slice D ev.data.length cd))[7]? = some (.int .i64 ev.num) from rfl)
        have e8 := (hbE.cell 8).trans (show (ev.cells (.slice D ev.data.length cd))[8]? = some (.int .i64 ev.cut) from rfl)
        have e9 := (hbE.cell 9).trans (show (ev.cells (.slice D ev.data.length cd))[9]? = some (.bool ev.on) from rfl)
        have r0 := (bzr.cell 0).trans (show ((ev0 0).cells (.slice none 0 0))[0]? = some (.int .i64 0) from rfl)
        have r1 := (bzr.cell 1).trans (show ((ev0 0).cells (.slice none 0 0))[1]? = some (.int .i64 0) from rfl)
        have r2 := (bzr.cell 2).trans (show ((ev0 0).cells (.slice none 0 0))[2]? = some (.int .i64 0) from rfl)
        have r3 := (bzr.cell 3).trans (show ((ev0 0).cells (.slice none 0 0))[3]? = some (.int .i64 0) from rfl)
        have r4 := (bzr.cell 4).trans (show ((ev0 0).cells (.slice none 0 0))[4]? = some (.string (ba [])) from rfl)
        have r5 := (bzr.cell 5).trans (show ((ev0 0).cells (.slice none 0 0))[5]? = some (.string (ba [])) from rfl)
        have r6 := (bzr.cell 6).trans (show ((ev0 0).cells (.slice none 0 0))[6]? = some (.slice none 0 0) from rfl)
        have r7 := (bzr.cell 7).trans (show ((ev0 0).cells (.slice none 0 0))[7]? = some (.int .i64 0) from rfl)
        have r8 := (bzr.cell 8).trans (show ((ev0 0).cells (.slice none 0 0))[8]? = some (.int .i64 0) from rfl)
        have r9 := (bzr.cell 9).trans (show ((ev0 0).cells (.slice none 0 0))[9]? = some (.bool false) from rfl)
        have HKZ := Lib.hid kz
        have HBZ := Lib.hid bzr
        clear kz bzr hbE
        go_wp2_with fail
        have hbz := blk_sets HBZ.out (evList ev (.slice D ev.data.length cd))
        rw [evList_cells] at hbz
        refine bodyPost_ret (results_hap (cs := ev.cells (.slice D ev.data.length cd)) rfl rfl hbz) rfl ?_
        rw [HR.out]
        refine ⟨.slice D ev.data.length cd, D, cd, ?_, rfl, ?_, ?_⟩
        · exact rfl
        · exact (kept_sets (F := fun x => x = w.heap.size + 1) (Kept.refl _ wz) (w.heap.size + 1) (.inl rfl) (evList ev (.slice D ev.data.length cd))).src HRD.out (fun ad e _ => by have := HDN.out ad e; show ¬ ad.block = w.heap.size + 1; omega)
        · exact below_sets (HBW.out.trans (HKZ.out.below (B := w.heap.size) HBW.out.size (fun x h => by subst h; omega))) (w.heap.size + 1) (by omega) (evList ev (.slice D ev.data.length cd))
      · skip
        go_simp
        refine hK.out _ _ (SA.out _ (Kept.setCell (p := ⟨eb, 1, none⟩) kEq (.inl rfl) (.int .i64 (numR a0).1))) (fun hHeld => ?_)
        clear hK K
        try simp only [Act.put, List.getElem_toArray, List.getElem_cons_zero, List.getElem_cons_succ, List.setIfInBounds_toArray, List.set_cons_zero, List.set_cons_succ]
        refine wpAnyH_take (i := 13) (v := ?_) rfl (by kernel_rfl) (by kernel_rfl) (by kernel_rfl) (fun _ _ _ h => h) (Or.inl ⟨by rfl, ?_⟩) hHeld ?_
        rotate_left
        · (intro w hSw; (try dsimp only at hSw); go_simp; try (with_reducible rfl))
        simp only [Act.put, List.getElem_toArray, List.getElem_cons_zero, List.getElem_cons_succ, List.setIfInBounds_toArray, List.set_cons_zero, List.set_cons_succ]
        refine wpAnyH_ready (rs := [10, 14]) (by kernel_rfl) (by simp) ?_
        refine AllReadyH.cons rfl (fun K hK => ?_) (AllReadyH.cons rfl (fun K hK => ?_) (AllReadyH.nil))
        · skip
          have hcv := HCV.out ((wcq.setCell ⟨eb, 1, none⟩ (.int .i64 (numR a0).1)))
          go_simp
          clear hcv
          have bzqq : Below ((wcq.setCell ⟨eb, 1, none⟩ (.int .i64 (numR a0).1))).heap.size ((wcq.setCell ⟨eb, 1, none⟩ (.int .i64 (numR a0).1))) (Lib.bytesWorld ((wcq.setCell ⟨eb, 1, none⟩ (.int .i64 (numR a0).1))) 5 (ba a2)) := below_bytes _ _ _
          have hdqq := conv_dat ((wcq.setCell ⟨eb, 1, none⟩ (.int .i64 (numR a0).1))) eb a2 (Blk.lt (Blk.set_ bEq 1 (.int .i64 (numR a0).1)))
          rw [ba_size] at hdqq
          have kcqq : Kept NoF ((wcq.setCell ⟨eb, 1, none⟩ (.int .i64 (numR a0).1))) (Lib.bytesWorld ((wcq.setCell ⟨eb, 1, none⟩ (.int .i64 (numR a0).1))) 5 (ba a2)) := Kept.of_below bzqq
          have kEqq := Kept.trans (Kept.setCell (p := ⟨eb, 1, none⟩) kEq (.inl rfl) (.int .i64 (numR a0).1)) kcqq (fun _ h => h.elim)
          have bEqq := kcqq.blk (Blk.set_ bEq 1 (.int .i64 (numR a0).1)) (fun h => h)
          clear bzqq kcqq
          generalize Lib.bytesWorld ((wcq.setCell ⟨eb, 1, none⟩ (.int .i64 (numR a0).1))) 5 (ba a2) = wcqq at hdqq kEqq bEqq ⊢
          generalize grownCap ((wcq.setCell ⟨eb, 1, none⟩ (.int .i64 (numR a0).1))) a2.length 0 5 = gc at hdqq ⊢
          rw [show ((wcq.setCell ⟨eb, 1, none⟩ (.int .i64 (numR a0).1))).heap.size = wcq.heap.size by simp] at hdqq
          generalize HC : wcq.heap.size = cb at hdqq ⊢
          clear HC
          have zqq : ∀ i, wcqq.frozen? ⟨eb, i, none⟩ = false := fun i => bEqq.frozen i
          have f4qq := (bEqq.cell 4).trans (show _ = some (.string (ba [])) from rfl)
          have f6qq := (bEqq.cell 6).trans (show _ = some (.slice none 0 0) from rfl)
          refine hK.out _ _ (SA.out _ kEqq) (fun hHeld => ?_)
          clear hK K
          try simp only [Act.put, List.getElem_toArray, List.getElem_cons_zero, List.getElem_cons_succ, List.setIfInBounds_toArray, List.set_cons_zero, List.set_cons_succ]
          refine wpAnyH_ready (rs := [14]) (by kernel_rfl) (by simp) ?_
          refine AllReadyH.cons rfl (fun K hK => ?_) AllReadyH.nil
          go_simp
          refine hK.out _ _ (SA.out _ (Kept.setCell (p := ⟨eb, 4, none⟩) kEqq (.inl rfl) (.string (ba a1)))) (fun hHeld => ?_)
          clear hK K
          try simp only [Act.put, List.getElem_toArray, List.getElem_cons_zero, List.getElem_cons_succ, List.setIfInBounds_toArray, List.set_cons_zero, List.set_cons_succ]
          refine wpAnyH_take (i := 15) (v := ?_) rfl (by kernel_rfl) (by kernel_rfl) (by kernel_rfl) (fun _ _ _ h => h) (Or.inl ⟨by rfl, ?_⟩) hHeld ?_
          rotate_left
          · (intro w hSw; (try dsimp only at hSw); go_simp; try (with_reducible rfl))
          simp only [Act.put, List.getElem_toArray, List.getElem_cons_zero, List.getElem_cons_succ, List.setIfInBounds_toArray, List.set_cons_zero, List.set_cons_succ]
          refine wpAnyH_ready (rs := [16]) (by kernel_rfl) (by simp) ?_
          refine AllReadyH.cons rfl (fun K hK => ?_) AllReadyH.nil
          go_simp
          refine hK.out _ _ (SA.out _ (Kept.setCell (p := ⟨eb, 6, none⟩) (Kept.setCell (p := ⟨eb, 4, none⟩) kEqq (.inl rfl) (.string (ba a1))) (.inl rfl) (.slice (some ⟨cb, 0, none⟩) a2.length gc))) (fun hHeld => ?_)
          clear hK K
          try simp only [Act.put, List.getElem_toArray, List.getElem_cons_zero, List.getElem_cons_succ, List.setIfInBounds_toArray, List.set_cons_zero, List.set_cons_succ]
          refine wpAnyH_done (by kernel_rfl) ?_ _
          refine NoPanic.normal ?_
          have hbE : Blk (((wcqq.setCell ⟨eb, 4, none⟩ (.string (ba a1))).setCell ⟨eb, 6, none⟩ (.slice (some ⟨cb, 0, none⟩) a2.length gc))) eb 50 (({ ev0 1 with dev := nv a0, path := a1, data := a2 } : EvD).cells (.slice (some ⟨cb, 0, none⟩) a2.length gc)) := (Blk.set_ (Blk.set_ bEqq 4 (.string (ba a1))) 6 (.slice (some ⟨cb, 0, none⟩) a2.length gc))
          have kz : Kept (fun x => x = eb) wr (((wcqq.setCell ⟨eb, 4, none⟩ (.string (ba a1))).setCell ⟨eb, 6, none⟩ (.slice (some ⟨cb, 0, none⟩) a2.length gc))) := (Kept.setCell (p := ⟨eb, 6, none⟩) (Kept.setCell (p := ⟨eb, 4, none⟩) kEqq (.inl rfl) (.string (ba a1))) (.inl rfl) (.slice (some ⟨cb, 0, none⟩) a2.length gc))
          have hdE : DatAt (((wcqq.setCell ⟨eb, 4, none⟩ (.string (ba a1))).setCell ⟨eb, 6, none⟩ (.slice (some ⟨cb, 0, none⟩) a2.length gc))) eb (.slice (some ⟨cb, 0, none⟩) a2.length gc) ({ ev0 1 with dev := nv a0, path := a1, data := a2 } : EvD).data := hdqq.kept (Kept.setCell (p := ⟨eb, 6, none⟩) (Kept.setCell (p := ⟨eb, 4, none⟩) (Kept.refl (fun x => x = eb) wcqq) (.inl rfl) (.string (ba a1))) (.inl rfl) (.slice (some ⟨cb, 0, none⟩) a2.length gc))
          generalize ((wcqq.setCell ⟨eb, 4, none⟩ (.string (ba a1))).setCell ⟨eb, 6, none⟩ (.slice (some ⟨cb, 0, none⟩) a2.length gc)) = wz at hbE kz hdE ⊢
          have HR : Hid (evR [119, 114, 105, 116, 101] [a0, a1, a2] = (({ ev0 1 with dev := nv a0, path := a1, data := a2 } : EvD), 0)) := Lib.hid (HEV.out.trans rfl)
          obtain ⟨D, cd, hv, hrd, hdn⟩ := hdE
          rw [hv] at hbE
          have HRD := Lib.hid hrd
          have HDN := Lib.hid hdn
          clear hrd hdn hv
          generalize ({ ev0 1 with dev := nv a0, path := a1, data := a2 } : EvD) = ev at hbE HR HRD ⊢
          have bzr := kz.blk brr (by show ¬ w.heap.size + 1 = eb; omega)
          have zr : ∀ i, wz.frozen? ⟨w.heap.size + 1, i, none⟩ = false := fun i => bzr.frozen i
          have e0 := (hbE.cell 0).trans (show (ev.cells (.slice D ev.data.length cd))[0]? = some (.int .i64 ev.kind) from rfl)
          have e1 := (hbE.cell 1).trans (show (ev.cells (.slice D ev.data.length cd))[1]? = some (.int .i64 ev.dev) from rfl)
          have e2 := (hbE.cell 2).trans (show (ev.cells (.slice D ev.data.length cd))[2]? = some (.int .i64 ev.oth) from rfl)
          have e3 := (hbE.cell 3).trans (show (ev.cells (.slice D ev.data.length cd))[3]? = some (.int .i64 ev.vault) from rfl)
          have e4 := (hbE.cell 4).trans (show (ev.cells (.slice D ev.data.length cd))[4]? = some (.string (ba ev.path)) from rfl)
          have e5 := (hbE.cell 5).trans (show (ev.cells (.slice D ev.data.length cd))[5]? = some (.string (ba ev.dest)) from rfl)
          have e6 := (hbE.cell 6).trans (show (ev.cells (.slice D ev.data.length cd))[6]? = some (.slice D ev.data.length cd) from rfl)
          have e7 := (hbE.cell 7).trans (show (ev.cells (.slice D ev.data.length cd))[7]? = some (.int .i64 ev.num) from rfl)
          have e8 := (hbE.cell 8).trans (show (ev.cells (.slice D ev.data.length cd))[8]? = some (.int .i64 ev.cut) from rfl)
          have e9 := (hbE.cell 9).trans (show (ev.cells (.slice D ev.data.length cd))[9]? = some (.bool ev.on) from rfl)
          have r0 := (bzr.cell 0).trans (show ((ev0 0).cells (.slice none 0 0))[0]? = some (.int .i64 0) from rfl)
          have r1 := (bzr.cell 1).trans (show ((ev0 0).cells (.slice none 0 0))[1]? = some (.int .i64 0) from rfl)
          have r2 := (bzr.cell 2).trans (show ((ev0 0).cells (.slice none 0 0))[2]? = some (.int .i64 0) from rfl)
          have r3 := (bzr.cell 3).trans (show ((ev0 0).cells (.slice none 0 0))[3]? = some (.int .i64 0) from rfl)
          have r4 := (bzr.cell 4).trans (show ((ev0 0).cells (.slice none 0 0))[4]? = some (.string (ba [])) from rfl)
          have r5 := (bzr.cell 5).trans (show ((ev0 0).cells (.slice none 0 0))[5]? = some (.string (ba [])) from rfl)
          have r6 := (bzr.cell 6).trans (show ((ev0 0).cells (.slice none 0 0))[6]? = some (.slice none 0 0) from rfl)
          have r7 := (bzr.cell 7).trans (show ((ev0 0).cells (.slice none 0 0))[7]? = some (.int .i64 0) from rfl)
          have r8 := (bzr.cell 8).trans (show ((ev0 0).cells (.slice none 0 0))[8]? = some (.int .i64 0) from rfl)
          have r9 := (bzr.cell 9).trans (show ((ev0 0).cells (.slice none 0 0))[9]? = some (.bool false) from rfl)
          have HKZ := Lib.hid kz
          have HBZ := Lib.hid bzr
          clear kz bzr hbE
          go_wp2_with fail
          have hbz := blk_sets HBZ.out (evList ev (.slice D ev.data.length cd))
          rw [evList_cells] at hbz
          refine bodyPost_ret (results_hap (cs := ev.cells (.slice D ev.data.length cd)) rfl rfl hbz) rfl ?_
          rw [HR.out]
          refine ⟨.slice D ev.data.length cd, D, cd, ?_, rfl, ?_, ?_⟩
          · exact rfl
          · exact (kept_sets (F := fun x => x = w.heap.size + 1) (Kept.refl _ wz) (w.heap.size + 1) (.inl rfl) (evList ev (.slice D ev.data.length cd))).src HRD.out (fun ad e _ => by have := HDN.out ad e; show ¬ ad.block = w.heap.size + 1; omega)
          · exact below_sets (HBW.out.trans (HKZ.out.below (B := w.heap.size) HBW.out.size (fun x h => by subst h; omega))) (w.heap.size + 1) (by omega) (evList ev (.slice D ev.data.length cd))
        · skip
          go_simp
          refine hK.out _ _ (SA.out _ (Kept.setCell (p := ⟨eb, 4, none⟩) (Kept.setCell (p := ⟨eb, 1, none⟩) kEq (.inl rfl) (.int .i64 (numR a0).1)) (.inl rfl) (.string (ba a1)))) (fun hHeld => ?_)
          clear hK K
          try simp only [Act.put, List.getElem_toArray, List.getElem_cons_zero, List.getElem_cons_succ, List.setIfInBounds_toArray, List.set_cons_zero, List.set_cons_succ]
          refine wpAnyH_ready (rs := [10]) (by kernel_rfl) (by simp) ?_
          refine AllReadyH.cons rfl (fun K hK => ?_) AllReadyH.nil
          have hcv := HCV.out (((wcq.setCell ⟨eb, 1, none⟩ (.int .i64 (numR a0).1)).setCell ⟨eb, 4, none⟩ (.string (ba a1))))
          go_simp
          clear hcv
          have bzqq : Below (((wcq.setCell ⟨eb, 1, none⟩ (.int .i64 (numR a0).1)).setCell ⟨eb, 4, none⟩ (.string (ba a1)))).heap.size (((wcq.setCell ⟨eb, 1, none⟩ (.int .i64 (numR a0).1)).setCell ⟨eb, 4, none⟩ (.string (ba a1)))) (Lib.bytesWorld (((wcq.setCell ⟨eb, 1, none⟩ (.int .i64 (numR a0).1)).setCell ⟨eb, 4, none⟩ (.string (ba a1)))) 5 (ba a2)) := below_bytes _ _ _
          have hdqq := conv_dat (((wcq.setCell ⟨eb, 1, none⟩ (.int .i64 (numR a0).1)).setCell ⟨eb, 4, none⟩ (.string (ba a1)))) eb a2 (Blk.lt (Blk.set_ (Blk.set_ bEq 1 (.int .i64 (numR a0).1)) 4 (.string (ba a1))))
          rw [ba_size] at hdqq
          have kcqq : Kept NoF (((wcq.setCell ⟨eb, 1, none⟩ (.int .i64 (numR a0).1)).setCell ⟨eb, 4, none⟩ (.string (ba a1)))) (Lib.bytesWorld (((wcq.setCell ⟨eb, 1, none⟩ (.int .i64 (numR a0).1)).setCell ⟨eb, 4, none⟩ (.string (ba a1)))) 5 (ba a2)) := Kept.of_below bzqq
          have kEqq := Kept.trans (Kept.setCell (p := ⟨eb, 4, none⟩) (Kept.setCell (p := ⟨eb, 1, none⟩) kEq (.inl rfl) (.int .i64 (numR a0).1)) (.inl rfl) (.string (ba a1))) kcqq (fun _ h => h.elim)
          have bEqq := kcqq.blk (Blk.set_ (Blk.set_ bEq 1 (.int .i64 (numR a0).1)) 4 (.string (ba a1))) (fun h => h)
          clear bzqq kcqq
          generalize Lib.bytesWorld (((wcq.setCell ⟨eb, 1, none⟩ (.int .i64 (numR a0).1)).setCell ⟨eb, 4, none⟩ (.string (ba a1)))) 5 (ba a2) = wcqq at hdqq kEqq bEqq ⊢
          generalize grownCap (((wcq.setCell ⟨eb, 1, none⟩ (.int .i64 (numR a0).1)).setCell ⟨eb, 4, none⟩ (.string (ba a1)))) a2.length 0 5 = gc at hdqq ⊢
          rw [show (((wcq.setCell ⟨eb, 1, none⟩ (.int .i64 (numR a0).1)).setCell ⟨eb, 4, none⟩ (.string (ba a1)))).heap.size = wcq.heap.size by simp] at hdqq
          generalize HC : wcq.heap.size = cb at hdqq ⊢
          clear HC
          have zqq : ∀ i, wcqq.frozen? ⟨eb, i, none⟩ = false := fun i => bEqq.frozen i
          have f6qq := (bEqq.cell 6).trans (show _ = some (.slice none 0 0) from rfl)
          refine hK.out _ _ (SA.out _ kEqq) (fun hHeld => ?_)
          clear hK K
          try simp only [Act.put, List.getElem_toArray, List.getElem_cons_zero, List.getElem_cons_succ, List.setIfInBounds_toArray, List.set_cons_zero, List.set_cons_succ]
          refine wpAnyH_take (i := 15) (v := ?_) rfl (by kernel_rfl) (by kernel_rfl) (by kernel_rfl) (fun _ _ _ h => h) (Or.inl ⟨by rfl, ?_⟩) hHeld ?_
          rotate_left
          · (intro w hSw; (try dsimp only at hSw); go_simp; try (with_reducible rfl))
          simp only [Act.put, List.getElem_toArray, List.getElem_cons_zero, List.getElem_cons_succ, List.setIfInBounds_toArray, List.set_cons_zero, List.set_cons_succ]
          refine wpAnyH_ready (rs := [16]) (by kernel_rfl) (by simp) ?_
          refine AllReadyH.cons rfl (fun K hK => ?_) AllReadyH.nil
          go_simp
          refine hK.out _ _ (SA.out _ (Kept.setCell (p := ⟨eb, 6, none⟩) kEqq (.inl rfl) (.slice (some ⟨cb, 0, none⟩) a2.length gc))) (fun hHeld => ?_)
          clear hK K
          try simp only [Act.put, List.getElem_toArray, List.getElem_cons_zero, List.getElem_cons_succ, List.setIfInBounds_toArray, List.set_cons_zero, List.set_cons_succ]
          refine wpAnyH_done (by kernel_rfl) ?_ _
          refine NoPanic.normal ?_
          have hbE : Blk ((wcqq.setCell ⟨eb, 6, none⟩ (.slice (some ⟨cb, 0, none⟩) a2.length gc))) eb 50 (({ ev0 1 with dev := nv a0, path := a1, data := a2 } : EvD).cells (.slice (some ⟨cb, 0, none⟩) a2.length gc)) := (Blk.set_ bEqq 6 (.slice (some ⟨cb, 0, none⟩) a2.length gc))
          have kz : Kept (fun x => x = eb) wr ((wcqq.setCell ⟨eb, 6, none⟩ (.slice (some ⟨cb, 0, none⟩) a2.length gc))) := (Kept.setCell (p := ⟨eb, 6, none⟩) kEqq (.inl rfl) (.slice (some ⟨cb, 0, none⟩) a2.length gc))
          have hdE : DatAt ((wcqq.setCell ⟨eb, 6, none⟩ (.slice (some ⟨cb, 0, none⟩) a2.length gc))) eb (.slice (some ⟨cb, 0, none⟩) a2.length gc) ({ ev0 1 with dev := nv a0, path := a1, data := a2 } : EvD).data := hdqq.kept (Kept.setCell (p := ⟨eb, 6, none⟩) (Kept.refl (fun x => x = eb) wcqq) (.inl rfl) (.slice (some ⟨cb, 0, none⟩) a2.length gc))
          generalize (wcqq.setCell ⟨eb, 6, none⟩ (.slice (some ⟨cb, 0, none⟩) a2.length gc)) = wz at hbE kz hdE ⊢
          have HR : Hid (evR [119, 114, 105, 116, 101] [a0, a1, a2] = (({ ev0 1 with dev := nv a0, path := a1, data := a2 } : EvD), 0)) := Lib.hid (HEV.out.trans rfl)
          obtain ⟨D, cd, hv, hrd, hdn⟩ := hdE
          rw [hv] at hbE
          have HRD := Lib.hid hrd
          have HDN := Lib.hid hdn
          clear hrd hdn hv
          generalize ({ ev0 1 with dev := nv a0, path := a1, data := a2 } : EvD) = ev at hbE HR HRD ⊢
          have bzr := kz.blk brr (by show ¬ w.heap.size + 1 = eb; omega)
          have zr : ∀ i, wz.frozen? ⟨w.heap.size + 1, i, none⟩ = false := fun i => bzr.frozen i
          have e0 := (hbE.cell 0).trans (show (ev.cells (.slice D ev.data.length cd))[0]? = some (.int .i64 ev.kind) from rfl)
          have e1 := (hbE.cell 1).trans (show (ev.cells (.slice D ev.data.length cd))[1]? = some (.int .i64 ev.dev) from rfl)
          have e2 := (hbE.cell 2).trans (show (ev.cells (.slice D ev.data.length cd))[2]? = some (.int .i64 ev.oth) from rfl)
          have e3 := (hbE.cell 3).trans (show (ev.cells (.slice D ev.data.length cd))[3]? = some (.int .i64 ev.vault) from rfl)
          have e4 := (hbE.cell 4).trans (show (ev.cells (.slice D ev.data.length cd))[4]? = some (.string (ba ev.path)) from rfl)
          have e5 := (hbE.cell 5).trans (show (ev.cells (.slice D ev.data.length cd))[5]? = some (.string (ba ev.dest)) from rfl)
          have e6 := (hbE.cell 6).trans (show (ev.cells (.slice D ev.data.length cd))[6]? = some (.slice D ev.data.length cd) from rfl)
          have e7 := (hbE.cell 7).trans (show (ev.cells (.slice D ev.data.length cd))[7]? = some (.int .i64 ev.num) from rfl)
          have e8 := (hbE.cell 8).trans (show (ev.cells (.slice D ev.data.length cd))[8]? = some (.int .i64 ev.cut) from rfl)
          have e9 := (hbE.cell 9).trans (show (ev.cells (.slice D ev.data.length cd))[9]? = some (.bool ev.on) from rfl)
          have r0 := (bzr.cell 0).trans (show ((ev0 0).cells (.slice none 0 0))[0]? = some (.int .i64 0) from rfl)
          have r1 := (bzr.cell 1).trans (show ((ev0 0).cells (.slice none 0 0))[1]? = some (.int .i64 0) from rfl)
          have r2 := (bzr.cell 2).trans (show ((ev0 0).cells (.slice none 0 0))[2]? = some (.int .i64 0) from rfl)
          have r3 := (bzr.cell 3).trans (show ((ev0 0).cells (.slice none 0 0))[3]? = some (.int .i64 0) from rfl)
          have r4 := (bzr.cell 4).trans (show ((ev0 0).cells (.slice none 0 0))[4]? = some (.string (ba [])) from rfl)
          have r5 := (bzr.cell 5).trans (show ((ev0 0).cells (.slice none 0 0))[5]? = some (.string (ba [])) from rfl)
          have r6 := (bzr.cell 6).trans (show ((ev0 0).cells (.slice none 0 0))[6]? = some (.slice none 0 0) from rfl)
          have r7 := (bzr.cell 7).trans (show ((ev0 0).cells (.slice none 0 0))[7]? = some (.int .i64 0) from rfl)
          have r8 := (bzr.cell 8).trans (show ((ev0 0).cells (.slice none 0 0))[8]? = some (.int .i64 0) from rfl)
          have r9 := (bzr.cell 9).trans (show ((ev0 0).cells (.slice none 0 0))[9]? = some (.bool false) from rfl)
          have HKZ := Lib.hid kz
          have HBZ := Lib.hid bzr
          clear kz bzr hbE
          go_wp2_with fail
          have hbz := blk_sets HBZ.out (evList ev (.slice D ev.data.length cd))
          rw [evList_cells] at hbz
          refine bodyPost_ret (results_hap (cs := ev.cells (.slice D ev.data.length cd)) rfl rfl hbz) rfl ?_
          rw [HR.out]
          refine ⟨.slice D ev.data.length cd, D, cd, ?_, rfl, ?_, ?_⟩
          · exact rfl
          · exact (kept_sets (F := fun x => x = w.heap.size + 1) (Kept.refl _ wz) (w.heap.size + 1) (.inl rfl) (evList ev (.slice D ev.data.length cd))).src HRD.out (fun ad e _ => by have := HDN.out ad e; show ¬ ad.block = w.heap.size + 1; omega)
          · exact below_sets (HBW.out.trans (HKZ.out.below (B := w.heap.size) HBW.out.size (fun x h => by subst h; omega))) (w.heap.size + 1) (by omega) (evList ev (.slice D ev.data.length cd))
    · skip
      have hcv := HCV.out (wq)
      go_simp
      clear hcv
      have bzq : Below (wq).heap.size (wq) (Lib.bytesWorld (wq) 5 (ba a2)) := below_bytes _ _ _
      have hdq := conv_dat (wq) eb a2 (Blk.lt bE)
      rw [ba_size] at hdq
      have kcq : Kept NoF (wq) (Lib.bytesWorld (wq) 5 (ba a2)) := Kept.of_below bzq
      have kEq := Kept.trans kE kcq (fun _ h => h.elim)
      have bEq := kcq.blk bE (fun h => h)
      have kNq := kN.trans kcq (fun _ h => .inl h)
      clear bzq kcq
      generalize Lib.bytesWorld (wq) 5 (ba a2) = wcq at hdq kEq bEq kNq ⊢
      generalize grownCap (wq) a2.length 0 5 = gc at hdq ⊢
      generalize HC : wq.heap.size = cb at hdq ⊢
      clear HC
      have zq : ∀ i, wcq.frozen? ⟨eb, i, none⟩ = false := fun i => bEq.frozen i
      have f1q := (bEq.cell 1).trans (show _ = some (.int .i64 0) from rfl)
      have f4q := (bEq.cell 4).trans (show _ = some (.string (ba [])) from rfl)
      have f6q := (bEq.cell 6).trans (show _ = some (.slice none 0 0) from rfl)
      refine hK.out _ _ (SA.out _ kEq) (fun hHeld => ?_)
      clear hK K
      try simp only [Act.put, List.getElem_toArray, List.getElem_cons_zero, List.getElem_cons_succ, List.setIfInBounds_toArray, List.set_cons_zero, List.set_cons_succ]
      refine wpAnyH_ready (rs := [1]) (by kernel_rfl) (by simp) ?_
      refine AllReadyH.cons rfl (fun K hK => ?_) AllReadyH.nil
      go_simp
      refine (CN0.out _ kNq).mono ?_
      rintro e wcqq ⟨rfl, kcqq⟩
      have kNqq := kNq.trans kcqq (fun _ h => .inl h)
      have kEqq := kEq.trans kcqq (fun _ h => h.elim)
      have bEqq := kcqq.blk bEq (fun h => h)
      have hdqq := hdq.kept (kcqq.mono (fun _ h => h.elim))
      have zqq : ∀ i, wcqq.frozen? ⟨eb, i, none⟩ = false := fun i => bEqq.frozen i
      have f1qq := (bEqq.cell 1).trans (show _ = some (.int .i64 0) from rfl)
      have f4qq := (bEqq.cell 4).trans (show _ = some (.string (ba [])) from rfl)
      have f6qq := (bEqq.cell 6).trans (show _ = some (.slice none 0 0) from rfl)
      go_wp2_with fail
      refine hK.out _ _ (SA.out _ kEqq) (fun hHeld => ?_)
      clear hK K
      try simp only [Act.put, List.getElem_toArray, List.getElem_cons_zero, List.getElem_cons_succ, List.setIfInBounds_toArray, List.set_cons_zero, List.set_cons_succ]
      refine wpAnyH_take (i := 11) (v := ?_) rfl (by kernel_rfl) (by kernel_rfl) (by kernel_rfl) (fun _ _ _ h => h) (Or.inl ⟨by rfl, ?_⟩) hHeld ?_
      rotate_left
      · (intro w hSw; (try dsimp only at hSw); go_simp; try (with_reducible rfl))
      simp only [Act.put, List.getElem_toArray, List.getElem_cons_zero, List.getElem_cons_succ, List.setIfInBounds_toArray, List.set_cons_zero, List.set_cons_succ]
      refine wpAnyH_ready (rs := [12]) (by kernel_rfl) (by simp) ?_
      refine AllReadyH.cons rfl (fun K hK => ?_) AllReadyH.nil
      go_simp
      refine hK.out _ _ (SA.out _ (Kept.setCell (p := ⟨eb, 1, none⟩) kEqq (.inl rfl) (.int .i64 (numR a0).1))) (fun hHeld => ?_)
      clear hK K
      try simp only [Act.put, List.getElem_toArray, List.getElem_cons_zero, List.getElem_cons_succ, List.setIfInBounds_toArray, List.set_cons_zero, List.set_cons_succ]
      refine wpAnyH_take (i := 13) (v := ?_) rfl (by kernel_rfl) (by kernel_rfl) (by kernel_rfl) (fun _ _ _ h => h) (Or.inl ⟨by rfl, ?_⟩) hHeld ?_
      rotate_left
      · (intro w hSw; (try dsimp only at hSw); go_simp; try (with_reducible rfl))
      simp only [Act.put, List.getElem_toArray, List.getElem_cons_zero, List.getElem_cons_succ, List.setIfInBounds_toArray, List.set_cons_zero, List.set_cons_succ]
      refine wpAnyH_ready (rs := [14]) (by kernel_rfl) (by simp) ?_
      refine AllReadyH.cons rfl (fun K hK => ?_) AllReadyH.nil
      go_simp
      refine hK.out _ _ (SA.out _ (Kept.setCell (p := ⟨eb, 4, none⟩) (Kept.setCell (p := ⟨eb, 1, none⟩) kEqq (.inl rfl) (.int .i64 (numR a0).1)) (.inl rfl) (.string (ba a1)))) (fun hHeld => ?_)
      clear hK K
      try simp only [Act.put, List.getElem_toArray, List.getElem_cons_zero, List.getElem_cons_succ, List.setIfInBounds_toArray, List.set_cons_zero, List.set_cons_succ]
      refine wpAnyH_take (i := 15) (v := ?_) rfl (by kernel_rfl) (by kernel_rfl) (by kernel_rfl) (fun _ _ _ h => h) (Or.inl ⟨by rfl, ?_⟩) hHeld ?_
      rotate_left
      · (intro w hSw; (try dsimp only at hSw); go_simp; try (with_reducible rfl))
      simp only [Act.put, List.getElem_toArray, List.getElem_cons_zero, List.getElem_cons_succ, List.setIfInBounds_toArray, List.set_cons_zero, List.set_cons_succ]
      refine wpAnyH_ready (rs := [16]) (by kernel_rfl) (by simp) ?_
      refine AllReadyH.cons rfl (fun K hK => ?_) AllReadyH.nil
      go_simp
      refine hK.out _ _ (SA.out _ (Kept.setCell (p := ⟨eb, 6, none⟩) (Kept.setCell (p := ⟨eb, 4, none⟩) (Kept.setCell (p := ⟨eb, 1, none⟩) kEqq (.inl rfl) (.int .i64 (numR a0).1)) (.inl rfl) (.string (ba a1))) (.inl rfl) (.slice (some ⟨cb, 0, none⟩) a2.length gc))) (fun hHeld => ?_)
      clear hK K
      try simp only [Act.put, List.getElem_toArray, List.getElem_cons_zero, List.getElem_cons_succ, List.setIfInBounds_toArray, List.set_cons_zero, List.set_cons_succ]
      refine wpAnyH_done (by kernel_rfl) ?_ _
      refine NoPanic.normal ?_
      have hbE : Blk ((((wcqq.setCell ⟨eb, 1, none⟩ (.int .i64 (numR a0).1)).setCell ⟨eb, 4, none⟩ (.string (ba a1))).setCell ⟨eb, 6, none⟩ (.slice (some ⟨cb, 0, none⟩) a2.length gc))) eb 50 (({ ev0 1 with dev := nv a0, path := a1, data := a2 } : EvD).cells (.slice (some ⟨cb, 0, none⟩) a2.length gc)) := (Blk.set_ (Blk.set_ (Blk.set_ bEqq 1 (.int .i64 (numR a0).1)) 4 (.string (ba a1))) 6 (.slice (some ⟨cb, 0, none⟩) a2.length gc))
      have kz : Kept (fun x => x = eb) wr ((((wcqq.setCell ⟨eb, 1, none⟩ (.int .i64 (numR a0).1)).setCell ⟨eb, 4, none⟩ (.string (ba a1))).setCell ⟨eb, 6, none⟩ (.slice (some ⟨cb, 0, none⟩) a2.length gc))) := (Kept.setCell (p := ⟨eb, 6, none⟩) (Kept.setCell (p := ⟨eb, 4, none⟩) (Kept.setCell (p := ⟨eb, 1, none⟩) kEqq (.inl rfl) (.int .i64 (numR a0).1)) (.inl rfl) (.string (ba a1))) (.inl rfl) (.slice (some ⟨cb, 0, none⟩) a2.length gc))
      have hdE : DatAt ((((wcqq.setCell ⟨eb, 1, none⟩ (.int .i64 (numR a0).1)).setCell ⟨eb, 4, none⟩ (.string (ba a1))).setCell ⟨eb, 6, none⟩ (.slice (some ⟨cb, 0, none⟩) a2.length gc))) eb (.slice (some ⟨cb, 0, none⟩) a2.length gc) ({ ev0 1 with dev := nv a0, path := a1, data := a2 } : EvD).data := hdqq.kept (Kept.setCell (p := ⟨eb, 6, none⟩) (Kept.setCell (p := ⟨eb, 4, none⟩) (Kept.setCell (p := ⟨eb, 1, none⟩) (Kept.refl (fun x => x = eb) wcqq) (.inl rfl) (.int .i64 (numR a0).1)) (.inl rfl) (.string (ba a1))) (.inl rfl) (.slice (some ⟨cb, 0, none⟩) a2.length gc))
      generalize (((wcqq.setCell ⟨eb, 1, none⟩ (.int .i64 (numR a0).1)).setCell ⟨eb, 4, none⟩ (.string (ba a1))).setCell ⟨eb, 6, none⟩ (.slice (some ⟨cb, 0, none⟩) a2.length gc)) = wz at hbE kz hdE ⊢
      have HR : Hid (evR [119, 114, 105, 116, 101] [a0, a1, a2] = (({ ev0 1 with dev := nv a0, path := a1, data := a2 } : EvD), 0)) := Lib.hid (HEV.out.trans rfl)
      obtain ⟨D, cd, hv, hrd, hdn⟩ := hdE
      rw [hv] at hbE
      have HRD := Lib.hid hrd
      have HDN := Lib.hid hdn
      clear hrd hdn hv
      generalize ({ ev0 1 with dev := nv a0, path := a1, data := a2 } : EvD) = ev at hbE HR HRD ⊢
      have bzr := kz.blk brr (by show ¬ w.heap.size + 1 = eb; omega)
      have zr : ∀ i, wz.frozen? ⟨w.heap.size + 1, i, none⟩ = false := fun i => bzr.frozen i
      have e0 := (hbE.cell 0).trans (show (ev.cells (.slice D ev.data.length cd))[0]? = some (.int .i64 ev.kind) from rfl)
      have e1 := (hbE.cell 1).trans (show (ev.cells (.slice D ev.data.length cd))[1]? = some (.int .i64 ev.dev) from rfl)
      have e2 := (hbE.cell 2).trans (show (ev.cells (.slice D ev.data.length cd))[2]? = some (.int .i64 ev.oth) from rfl)
      have e3 := (hbE.cell 3).trans (show (ev.cells (.slice D ev.data.length cd))[3]? = some (.int .i64 ev.vault) from rfl)
      have e4 := (hbE.cell 4).trans (show (ev.cells (.slice D ev.data.length cd))[4]? = some (.string (ba ev.path)) from rfl)
      have e5 := (hbE.cell 5).trans (show (ev.cells (.slice D ev.data.length cd))[5]? = some (.string (ba ev.dest)) from rfl)
      have e6 := (hbE.cell 6).trans (show (ev.cells (.slice D ev.data.length cd))[6]? = some (.slice D ev.data.length cd) from rfl)
      have e7 := (hbE.cell 7).trans (show (ev.cells (.slice D ev.data.length cd))[7]? = some (.int .i64 ev.num) from rfl)
      have e8 := (hbE.cell 8).trans (show (ev.cells (.slice D ev.data.length cd))[8]? = some (.int .i64 ev.cut) from rfl)
      have e9 := (hbE.cell 9).trans (show (ev.cells (.slice D ev.data.length cd))[9]? = some (.bool ev.on) from rfl)
      have r0 := (bzr.cell 0).trans (show ((ev0 0).cells (.slice none 0 0))[0]? = some (.int .i64 0) from rfl)
      have r1 := (bzr.cell 1).trans (show ((ev0 0).cells (.slice none 0 0))[1]? = some (.int .i64 0) from rfl)
      have r2 := (bzr.cell 2).trans (show ((ev0 0).cells (.slice none 0 0))[2]? = some (.int .i64 0) from rfl)
      have r3 := (bzr.cell 3).trans (show ((ev0 0).cells (.slice none 0 0))[3]? = some (.int .i64 0) from rfl)
      have r4 := (bzr.cell 4).trans (show ((ev0 0).cells (.slice none 0 0))[4]? = some (.string (ba [])) from rfl)
      have r5 := (bzr.cell 5).trans (show ((ev0 0).cells (.slice none 0 0))[5]? = some (.string (ba [])) from rfl)
      have r6 := (bzr.cell 6).trans (show ((ev0 0).cells (.slice none 0 0))[6]? = some (.slice none 0 0) from rfl)
      have r7 := (bzr.cell 7).trans (show ((ev0 0).cells (.slice none 0 0))[7]? = some (.int .i64 0) from rfl)
      have r8 := (bzr.cell 8).trans (show ((ev0 0).cells (.slice none 0 0))[8]? = some (.int .i64 0) from rfl)
      have r9 := (bzr.cell 9).trans (show ((ev0 0).cells (.slice none 0 0))[9]? = some (.bool false) from rfl)
      have HKZ := Lib.hid kz
      have HBZ := Lib.hid bzr
      clear kz bzr hbE
      go_wp2_with fail
      have hbz := blk_sets HBZ.out (evList ev (.slice D ev.data.length cd))
      rw [evList_cells] at hbz
      refine bodyPost_ret (results_hap (cs := ev.cells (.slice D ev.data.length cd)) rfl rfl hbz) rfl ?_
      rw [HR.out]
      refine ⟨.slice D ev.data.length cd, D, cd, ?_, rfl, ?_, ?_⟩
      · exact rfl
      · exact (kept_sets (F := fun x => x = w.heap.size + 1) (Kept.refl _ wz) (w.heap.size + 1) (.inl rfl) (evList ev (.slice D ev.data.length cd))).src HRD.out (fun ad e _ => by have := HDN.out ad e; show ¬ ad.block = w.heap.size + 1; omega)
      · exact below_sets (HBW.out.trans (HKZ.out.below (B := w.heap.size) HBW.out.size (fun x h => by subst h; omega))) (w.heap.size + 1) (by omega) (evList ev (.slice D ev.data.length cd))
  · skip
    have q0 : ((ba [114, 101, 109, 111, 118, 101]).toList == [119, 114, 105, 116, 101]) = false := by rw [cmp_ba]; decide
    have q1 : ((ba [114, 101, 109, 111, 118, 101]).toList == [114, 101, 109, 111, 118, 101]) = true := by rw [cmp_ba]; decide
    obtain ⟨a0, a1, rfl⟩ := len2 (valid_len (n := 2) HV.out (by decide +kernel))
    rw [show kf [114, 101, 109, 111, 118, 101] 15 = 2 by decide +kernel] at hbk
    obtain ⟨xb, xo, rfl, hxb, _⟩ := hAr.at_ (k := 0) (by simp)
    have cx1 : wr.cell? ⟨xb, xo + 1, none⟩ = some (.string (ba a1)) := by
      obtain ⟨xb', xo', e, _, h⟩ := hAr.at_ (k := 1) (by simp)
      injection e with e
      injection e with e1 e2
      rw [e1, e2]
      exact h
    have e0 : wr.cell? ⟨w.heap.size, 0, none⟩ = some (.string (ba [114, 101, 109, 111, 118, 101])) := (bxr.cell 0).trans rfl
    have e1 : wr.cell? ⟨w.heap.size, 1, none⟩ = some (.slice (some ⟨xb, xo, none⟩) 2 c) := (bxr.cell 1).trans rfl
    have hxe : xb ≠ eb := by have := HAL.out _ rfl (by simp); simp only at this; omega
    have hse : w.heap.size ≠ eb := by omega
    have CN0 := Lib.hid (fun W (k : Kept NoF wr W) => (show Calls Tryz.prog 47 #[.agg #[.string (ba [114, 101, 109, 111, 118, 101]), .slice (some ⟨xb, xo, none⟩) 2 c], .int .i64 0] W fun e W' => e = .returned (.int .i64 (numR a0).1) ∧ Kept NoF wr W' ∧ (∀ i, W'.frozen? ⟨eb, i, none⟩ = false) ∧ W'.cell? ⟨eb, 1, none⟩ = some (.int .i64 0) ∧ W'.cell? ⟨eb, 4, none⟩ = some (.string (ba []))  from
      (rnumber_any (ba [114, 101, 109, 111, 118, 101]) _ c [a0, a1] W (hAr.same k) 0 (by simp) HS1.out).mono (fun e W' (h : _ ∧ _) => by
        have k2 := k.trans (Kept.of_below (F := NoF) h.2) (fun _ h => .inl h)
        have hb := k2.blk hbk (fun h => h)
        exact ⟨h.1, k2, fun i => hb.frozen i, (hb.cell 1).trans rfl, (hb.cell 4).trans rfl⟩)))
    have SA := Lib.hid (fun W (k : Kept NoF wr W) => (⟨k.cell e0 (fun h => h), k.cell e1 (fun h => h), k.cell cx1 (fun h => h)⟩ : (fun (w' : World) => w'.cell? ⟨w.heap.size, 0, none⟩ = some (.string (ba [114, 101, 109, 111, 118, 101])) ∧ w'.cell? ⟨w.heap.size, 1, none⟩ = some (.slice (some ⟨xb, xo, none⟩) 2 c) ∧ w'.cell? ⟨xb, xo + 1, none⟩ = some (.string (ba a1))) W))
    have SB := Lib.hid (fun (W : World) (i : Nat) (u : Value) (h : (fun (w' : World) => w'.cell? ⟨w.heap.size, 0, none⟩ = some (.string (ba [114, 101, 109, 111, 118, 101])) ∧ w'.cell? ⟨w.heap.size, 1, none⟩ = some (.slice (some ⟨xb, xo, none⟩) 2 c) ∧ w'.cell? ⟨xb, xo + 1, none⟩ = some (.string (ba a1))) W) => (⟨cell_set_far h.1 hse, cell_set_far h.2.1 hse, cell_set_far h.2.2 hxe⟩ : (fun (w' : World) => w'.cell? ⟨w.heap.size, 0, none⟩ = some (.string (ba [114, 101, 109, 111, 118, 101])) ∧ w'.cell? ⟨w.heap.size, 1, none⟩ = some (.slice (some ⟨xb, xo, none⟩) 2 c) ∧ w'.cell? ⟨xb, xo + 1, none⟩ = some (.string (ba a1))) (W.setCell ⟨eb, i, none⟩ u)))
    have k0 := (Kept.refl NoF wr).drew
    go_upto_region 15 with fail
    refine wp_region_noPanic ?_
    refine wp_region_held_drew (S := (fun (w' : World) => w'.cell? ⟨w.heap.size, 0, none⟩ = some (.string (ba [114, 101, 109, 111, 118, 101])) ∧ w'.cell? ⟨w.heap.size, 1, none⟩ = some (.slice (some ⟨xb, xo, none⟩) 2 c) ∧ w'.cell? ⟨xb, xo + 1, none⟩ = some (.string (ba a1)))) (by kernel_rfl) ?_ (fun hHeld => ?_)
    · exact SA.out _ k0
    refine wpAnyH_take (i := 0) (v := ?_) rfl (by kernel_rfl) (by kernel_rfl) (by kernel_rfl) (fun _ _ _ h => h) (Or.inl ⟨by rfl, ?_⟩) hHeld ?_
    rotate_left
    · (intro w hSw; (try dsimp only at hSw); go_simp; try (with_reducible rfl))
    simp only [Act.put, List.getElem_toArray, List.getElem_cons_zero, List.setIfInBounds_toArray, List.set_cons_zero, List.set_cons_succ]
    refine wpAnyH_take (i := 2) (v := ?_) rfl (by kernel_rfl) (by kernel_rfl) (by kernel_rfl) (fun _ _ _ h => h) (Or.inl ⟨by rfl, ?_⟩) hHeld ?_
    rotate_left
    · (intro w hSw; (try dsimp only at hSw); go_simp; try (with_reducible rfl))
    simp only [Act.put, List.getElem_toArray, List.getElem_cons_zero, List.getElem_cons_succ, List.setIfInBounds_toArray, List.set_cons_zero, List.set_cons_succ]
    refine wpAnyH_take (i := 3) (v := ?_) rfl (by kernel_rfl) (by kernel_rfl) (by kernel_rfl) (fun _ _ _ h => h) (Or.inl ⟨by rfl, ?_⟩) hHeld ?_
    rotate_left
    · (intro w hSw; (try dsimp only at hSw); go_simp; try (with_reducible rfl))
    simp only [Act.put, List.getElem_toArray, List.getElem_cons_zero, List.getElem_cons_succ, List.setIfInBounds_toArray, List.set_cons_zero, List.set_cons_succ]
    refine wpAnyH_take (i := 4) (v := ?_) rfl (by kernel_rfl) (by kernel_rfl) (by kernel_rfl) (fun _ _ _ h => h) (Or.inl ⟨by rfl, ?_⟩) hHeld ?_
    rotate_left
    · (intro w hSw; (try dsimp only at hSw); go_simp; try (with_reducible rfl))
    simp only [Act.put, List.getElem_toArray, List.getElem_cons_zero, List.getElem_cons_succ, List.setIfInBounds_toArray, List.set_cons_zero, List.set_cons_succ]
    refine wpAnyH_take (i := 5) (v := ?_) rfl (by kernel_rfl) (by kernel_rfl) (by kernel_rfl) (fun _ _ _ h => h) (Or.inl ⟨by rfl, ?_⟩) hHeld ?_
    rotate_left
    · (intro w hSw; (try dsimp only at hSw); go_simp; try (with_reducible rfl))
    simp only [Act.put, List.getElem_toArray, List.getElem_cons_zero, List.getElem_cons_succ, List.setIfInBounds_toArray, List.set_cons_zero, List.set_cons_succ]
    refine wpAnyH_ready (rs := [1]) (by kernel_rfl) (by simp) ?_
    refine AllReadyH.cons rfl (fun K hK => ?_) AllReadyH.nil
    go_simp
    refine (CN0.out _ k0).mono ?_
    rintro e w0 ⟨rfl, k0, z0, f1, f4⟩
    go_wp2_with fail
    refine hK.out _ _ (SA.out _ k0) (fun hHeld => ?_)
    clear hK K
    try simp only [Act.put, List.getElem_toArray, List.getElem_cons_zero, List.getElem_cons_succ, List.setIfInBounds_toArray, List.set_cons_zero, List.set_cons_succ]
    refine wpAnyH_take (i := 6) (v := ?_) rfl (by kernel_rfl) (by kernel_rfl) (by kernel_rfl) (fun _ _ _ h => h) (Or.inl ⟨by rfl, ?_⟩) hHeld ?_
    rotate_left
    · (intro w hSw; (try dsimp only at hSw); go_simp; try (with_reducible rfl))
    simp only [Act.put, List.getElem_toArray, List.getElem_cons_zero, List.getElem_cons_succ, List.setIfInBounds_toArray, List.set_cons_zero, List.set_cons_succ]
    refine wpAnyH_ready (rs := [7]) (by kernel_rfl) (by simp) ?_
    refine AllReadyH.cons rfl (fun K hK => ?_) AllReadyH.nil
    go_simp
    refine hK.out _ _ (SB.out _ _ _ hHeld) (fun hHeld => ?_)
    clear hK K
    try simp only [Act.put, List.getElem_toArray, List.getElem_cons_zero, List.getElem_cons_succ, List.setIfInBounds_toArray, List.set_cons_zero, List.set_cons_succ]
    refine wpAnyH_take (i := 8) (v := ?_) rfl (by kernel_rfl) (by kernel_rfl) (by kernel_rfl) (fun _ _ _ h => h) (Or.inl ⟨by rfl, ?_⟩) hHeld ?_
    rotate_left
    · (intro w hSw; (try dsimp only at hSw); go_simp; try (with_reducible rfl))
    simp only [Act.put, List.getElem_toArray, List.getElem_cons_zero, List.getElem_cons_succ, List.setIfInBounds_toArray, List.set_cons_zero, List.set_cons_succ]
    refine wpAnyH_ready (rs := [9]) (by kernel_rfl) (by simp) ?_
    refine AllReadyH.cons rfl (fun K hK => ?_) AllReadyH.nil
    go_simp
    refine hK.out _ _ (SB.out _ _ _ hHeld) (fun hHeld => ?_)
    clear hK K
    try simp only [Act.put, List.getElem_toArray, List.getElem_cons_zero, List.getElem_cons_succ, List.setIfInBounds_toArray, List.set_cons_zero, List.set_cons_succ]
    refine wpAnyH_done (by kernel_rfl) ?_ _
    refine NoPanic.normal ?_
    have hbE : Blk ((w0.setCell ⟨eb, 1, none⟩ (.int .i64 (numR a0).1)).setCell ⟨eb, 4, none⟩ (.string (ba a1))) eb 50 (({ ev0 2 with dev := nv a0, path := a1 } : EvD).cells (.slice none 0 0)) := ((k0.blk hbk (fun h => h)).set_ 1 (.int .i64 (numR a0).1)).set_ 4 (.string (ba a1))
    have kz : Kept (fun x => x = eb) wr ((w0.setCell ⟨eb, 1, none⟩ (.int .i64 (numR a0).1)).setCell ⟨eb, 4, none⟩ (.string (ba a1))) := ((k0.mono (G := fun x => x = eb) (fun _ h => h.elim)).setCell (p := ⟨eb, 1, none⟩) (.inl rfl) (.int .i64 (numR a0).1)).setCell (p := ⟨eb, 4, none⟩) (.inl rfl) (.string (ba a1))
    have hdE : DatAt ((w0.setCell ⟨eb, 1, none⟩ (.int .i64 (numR a0).1)).setCell ⟨eb, 4, none⟩ (.string (ba a1))) eb (.slice none 0 0) ({ ev0 2 with dev := nv a0, path := a1 } : EvD).data := DatAt.nil _ _
    generalize (w0.setCell ⟨eb, 1, none⟩ (.int .i64 (numR a0).1)).setCell ⟨eb, 4, none⟩ (.string (ba a1)) = wz at hbE kz hdE ⊢
    have HR : Hid (evR [114, 101, 109, 111, 118, 101] [a0, a1] = (({ ev0 2 with dev := nv a0, path := a1 } : EvD), 0)) := Lib.hid (HEV.out.trans rfl)
    obtain ⟨D, cd, hv, hrd, hdn⟩ := hdE
    rw [hv] at hbE
    have HRD := Lib.hid hrd
    have HDN := Lib.hid hdn
    clear hrd hdn hv
    generalize ({ ev0 2 with dev := nv a0, path := a1 } : EvD) = ev at hbE HR HRD ⊢
    have bzr := kz.blk brr (by show ¬ w.heap.size + 1 = eb; omega)
    have zr : ∀ i, wz.frozen? ⟨w.heap.size + 1, i, none⟩ = false := fun i => bzr.frozen i
    have e0 := (hbE.cell 0).trans (show (ev.cells (.slice D ev.data.length cd))[0]? = some (.int .i64 ev.kind) from rfl)
    have e1 := (hbE.cell 1).trans (show (ev.cells (.slice D ev.data.length cd))[1]? = some (.int .i64 ev.dev) from rfl)
    have e2 := (hbE.cell 2).trans (show (ev.cells (.slice D ev.data.length cd))[2]? = some (.int .i64 ev.oth) from rfl)
    have e3 := (hbE.cell 3).trans (show (ev.cells (.slice D ev.data.length cd))[3]? = some (.int .i64 ev.vault) from rfl)
    have e4 := (hbE.cell 4).trans (show (ev.cells (.slice D ev.data.length cd))[4]? = some (.string (ba ev.path)) from rfl)
    have e5 := (hbE.cell 5).trans (show (ev.cells (.slice D ev.data.length cd))[5]? = some (.string (ba ev.dest)) from rfl)
    have e6 := (hbE.cell 6).trans (show (ev.cells (.slice D ev.data.length cd))[6]? = some (.slice D ev.data.length cd) from rfl)
    have e7 := (hbE.cell 7).trans (show (ev.cells (.slice D ev.data.length cd))[7]? = some (.int .i64 ev.num) from rfl)
    have e8 := (hbE.cell 8).trans (show (ev.cells (.slice D ev.data.length cd))[8]? = some (.int .i64 ev.cut) from rfl)
    have e9 := (hbE.cell 9).trans (show (ev.cells (.slice D ev.data.length cd))[9]? = some (.bool ev.on) from rfl)
    have r0 := (bzr.cell 0).trans (show ((ev0 0).cells (.slice none 0 0))[0]? = some (.int .i64 0) from rfl)
    have r1 := (bzr.cell 1).trans (show ((ev0 0).cells (.slice none 0 0))[1]? = some (.int .i64 0) from rfl)
    have r2 := (bzr.cell 2).trans (show ((ev0 0).cells (.slice none 0 0))[2]? = some (.int .i64 0) from rfl)
    have r3 := (bzr.cell 3).trans (show ((ev0 0).cells (.slice none 0 0))[3]? = some (.int .i64 0) from rfl)
    have r4 := (bzr.cell 4).trans (show ((ev0 0).cells (.slice none 0 0))[4]? = some (.string (ba [])) from rfl)
    have r5 := (bzr.cell 5).trans (show ((ev0 0).cells (.slice none 0 0))[5]? = some (.string (ba [])) from rfl)
    have r6 := (bzr.cell 6).trans (show ((ev0 0).cells (.slice none 0 0))[6]? = some (.slice none 0 0) from rfl)
    have r7 := (bzr.cell 7).trans (show ((ev0 0).cells (.slice none 0 0))[7]? = some (.int .i64 0) from rfl)
    have r8 := (bzr.cell 8).trans (show ((ev0 0).cells (.slice none 0 0))[8]? = some (.int .i64 0) from rfl)
    have r9 := (bzr.cell 9).trans (show ((ev0 0).cells (.slice none 0 0))[9]? = some (.bool false) from rfl)
    have HKZ := Lib.hid kz
    have HBZ := Lib.hid bzr
    clear kz bzr hbE
    go_wp2_with fail
    have hbz := blk_sets HBZ.out (evList ev (.slice D ev.data.length cd))
    rw [evList_cells] at hbz
    refine bodyPost_ret (results_hap (cs := ev.cells (.slice D ev.data.length cd)) rfl rfl hbz) rfl ?_
    rw [HR.out]
    refine ⟨.slice D ev.data.length cd, D, cd, ?_, rfl, ?_, ?_⟩
    · exact rfl
    · exact (kept_sets (F := fun x => x = w.heap.size + 1) (Kept.refl _ wz) (w.heap.size + 1) (.inl rfl) (evList ev (.slice D ev.data.length cd))).src HRD.out (fun ad e _ => by have := HDN.out ad e; show ¬ ad.block = w.heap.size + 1; omega)
    · exact below_sets (HBW.out.trans (HKZ.out.below (B := w.heap.size) HBW.out.size (fun x h => by subst h; omega))) (w.heap.size + 1) (by omega) (evList ev (.slice D ev.data.length cd))
  · skip
    have q0 : ((ba [109, 111, 118, 101]).toList == [119, 114, 105, 116, 101]) = false := by rw [cmp_ba]; decide
    have q1 : ((ba [109, 111, 118, 101]).toList == [114, 101, 109, 111, 118, 101]) = false := by rw [cmp_ba]; decide
    have q2 : ((ba [109, 111, 118, 101]).toList == [109, 111, 118, 101]) = true := by rw [cmp_ba]; decide
    obtain ⟨a0, a1, a2, rfl⟩ := len3 (valid_len (n := 3) HV.out (by decide +kernel))
    rw [show kf [109, 111, 118, 101] 15 = 3 by decide +kernel] at hbk
    obtain ⟨xb, xo, rfl, hxb, _⟩ := hAr.at_ (k := 0) (by simp)
    have cx1 : wr.cell? ⟨xb, xo + 1, none⟩ = some (.string (ba a1)) := by
      obtain ⟨xb', xo', e, _, h⟩ := hAr.at_ (k := 1) (by simp)
      injection e with e
      injection e with e1 e2
      rw [e1, e2]
      exact h
    have cx2 : wr.cell? ⟨xb, xo + 2, none⟩ = some (.string (ba a2)) := by
      obtain ⟨xb', xo', e, _, h⟩ := hAr.at_ (k := 2) (by simp)
      injection e with e
      injection e with e1 e2
      rw [e1, e2]
      exact h
    have e0 : wr.cell? ⟨w.heap.size, 0, none⟩ = some (.string (ba [109, 111, 118, 101])) := (bxr.cell 0).trans rfl
    have e1 : wr.cell? ⟨w.heap.size, 1, none⟩ = some (.slice (some ⟨xb, xo, none⟩) 3 c) := (bxr.cell 1).trans rfl
    have hxe : xb ≠ eb := by have := HAL.out _ rfl (by simp); simp only at this; omega
    have hse : w.heap.size ≠ eb := by omega
    have CN0 := Lib.hid (fun W (k : Kept NoF wr W) => (show Calls Tryz.prog 47 #[.agg #[.string (ba [109, 111, 118, 101]), .slice (some ⟨xb, xo, none⟩) 3 c], .int .i64 0] W fun e W' => e = .returned (.int .i64 (numR a0).1) ∧ Kept NoF wr W' ∧ (∀ i, W'.frozen? ⟨eb, i, none⟩ = false) ∧ W'.cell? ⟨eb, 1, none⟩ = some (.int .i64 0) ∧ W'.cell? ⟨eb, 4, none⟩ = some (.string (ba [])) ∧ W'.cell? ⟨eb, 5, none⟩ = some (.string (ba []))  from
      (rnumber_any (ba [109, 111, 118, 101]) _ c [a0, a1, a2] W (hAr.same k) 0 (by simp) HS1.out).mono (fun e W' (h : _ ∧ _) => by
        have k2 := k.trans (Kept.of_below (F := NoF) h.2) (fun _ h => .inl h)
        have hb := k2.blk hbk (fun h => h)
        exact ⟨h.1, k2, fun i => hb.frozen i, (hb.cell 1).trans rfl, (hb.cell 4).trans rfl, (hb.cell 5).trans rfl⟩)))
    have SA := Lib.hid (fun W (k : Kept NoF wr W) => (⟨k.cell e0 (fun h => h), k.cell e1 (fun h => h), k.cell cx1 (fun h => h), k.cell cx2 (fun h => h)⟩ : (fun (w' : World) => w'.cell? ⟨w.heap.size, 0, none⟩ = some (.string (ba [109, 111, 118, 101])) ∧ w'.cell? ⟨w.heap.size, 1, none⟩ = some (.slice (some ⟨xb, xo, none⟩) 3 c) ∧ w'.cell? ⟨xb, xo + 1, none⟩ = some (.string (ba a1)) ∧ w'.cell? ⟨xb, xo + 2, none⟩ = some (.string (ba a2))) W))
    have SB := Lib.hid (fun (W : World) (i : Nat) (u : Value) (h : (fun (w' : World) => w'.cell? ⟨w.heap.size, 0, none⟩ = some (.string (ba [109, 111, 118, 101])) ∧ w'.cell? ⟨w.heap.size, 1, none⟩ = some (.slice (some ⟨xb, xo, none⟩) 3 c) ∧ w'.cell? ⟨xb, xo + 1, none⟩ = some (.string (ba a1)) ∧ w'.cell? ⟨xb, xo + 2, none⟩ = some (.string (ba a2))) W) => (⟨cell_set_far h.1 hse, cell_set_far h.2.1 hse, cell_set_far h.2.2.1 hxe, cell_set_far h.2.2.2 hxe⟩ : (fun (w' : World) => w'.cell? ⟨w.heap.size, 0, none⟩ = some (.string (ba [109, 111, 118, 101])) ∧ w'.cell? ⟨w.heap.size, 1, none⟩ = some (.slice (some ⟨xb, xo, none⟩) 3 c) ∧ w'.cell? ⟨xb, xo + 1, none⟩ = some (.string (ba a1)) ∧ w'.cell? ⟨xb, xo + 2, none⟩ = some (.string (ba a2))) (W.setCell ⟨eb, i, none⟩ u)))
    have k0 := (Kept.refl NoF wr).drew
    go_upto_region 17 with fail
    refine wp_region_noPanic ?_
    refine wp_region_held_drew (S := (fun (w' : World) => w'.cell? ⟨w.heap.size, 0, none⟩ = some (.string (ba [109, 111, 118, 101])) ∧ w'.cell? ⟨w.heap.size, 1, none⟩ = some (.slice (some ⟨xb, xo, none⟩) 3 c) ∧ w'.cell? ⟨xb, xo + 1, none⟩ = some (.string (ba a1)) ∧ w'.cell? ⟨xb, xo + 2, none⟩ = some (.string (ba a2)))) (by kernel_rfl) ?_ (fun hHeld => ?_)
    · exact SA.out _ k0
    refine wpAnyH_take (i := 0) (v := ?_) rfl (by kernel_rfl) (by kernel_rfl) (by kernel_rfl) (fun _ _ _ h => h) (Or.inl ⟨by rfl, ?_⟩) hHeld ?_
    rotate_left
    · (intro w hSw; (try dsimp only at hSw); go_simp; try (with_reducible rfl))
    simp only [Act.put, List.getElem_toArray, List.getElem_cons_zero, List.setIfInBounds_toArray, List.set_cons_zero, List.set_cons_succ]
    refine wpAnyH_take (i := 2) (v := ?_) rfl (by kernel_rfl) (by kernel_rfl) (by kernel_rfl) (fun _ _ _ h => h) (Or.inl ⟨by rfl, ?_⟩) hHeld ?_
    rotate_left
    · (intro w hSw; (try dsimp only at hSw); go_simp; try (with_reducible rfl))
    simp only [Act.put, List.getElem_toArray, List.getElem_cons_zero, List.getElem_cons_succ, List.setIfInBounds_toArray, List.set_cons_zero, List.set_cons_succ]
    refine wpAnyH_take (i := 3) (v := ?_) rfl (by kernel_rfl) (by kernel_rfl) (by kernel_rfl) (fun _ _ _ h => h) (Or.inl ⟨by rfl, ?_⟩) hHeld ?_
    rotate_left
    · (intro w hSw; (try dsimp only at hSw); go_simp; try (with_reducible rfl))
    simp only [Act.put, List.getElem_toArray, List.getElem_cons_zero, List.getElem_cons_succ, List.setIfInBounds_toArray, List.set_cons_zero, List.set_cons_succ]
    refine wpAnyH_take (i := 4) (v := ?_) rfl (by kernel_rfl) (by kernel_rfl) (by kernel_rfl) (fun _ _ _ h => h) (Or.inl ⟨by rfl, ?_⟩) hHeld ?_
    rotate_left
    · (intro w hSw; (try dsimp only at hSw); go_simp; try (with_reducible rfl))
    simp only [Act.put, List.getElem_toArray, List.getElem_cons_zero, List.getElem_cons_succ, List.setIfInBounds_toArray, List.set_cons_zero, List.set_cons_succ]
    refine wpAnyH_take (i := 5) (v := ?_) rfl (by kernel_rfl) (by kernel_rfl) (by kernel_rfl) (fun _ _ _ h => h) (Or.inl ⟨by rfl, ?_⟩) hHeld ?_
    rotate_left
    · (intro w hSw; (try dsimp only at hSw); go_simp; try (with_reducible rfl))
    simp only [Act.put, List.getElem_toArray, List.getElem_cons_zero, List.getElem_cons_succ, List.setIfInBounds_toArray, List.set_cons_zero, List.set_cons_succ]
    refine wpAnyH_take (i := 6) (v := ?_) rfl (by kernel_rfl) (by kernel_rfl) (by kernel_rfl) (fun _ _ _ h => h) (Or.inl ⟨by rfl, ?_⟩) hHeld ?_
    rotate_left
    · (intro w hSw; (try dsimp only at hSw); go_simp; try (with_reducible rfl))
    simp only [Act.put, List.getElem_toArray, List.getElem_cons_zero, List.getElem_cons_succ, List.setIfInBounds_toArray, List.set_cons_zero, List.set_cons_succ]
    refine wpAnyH_take (i := 7) (v := ?_) rfl (by kernel_rfl) (by kernel_rfl) (by kernel_rfl) (fun _ _ _ h => h) (Or.inl ⟨by rfl, ?_⟩) hHeld ?_
    rotate_left
    · (intro w hSw; (try dsimp only at hSw); go_simp; try (with_reducible rfl))
    simp only [Act.put, List.getElem_toArray, List.getElem_cons_zero, List.getElem_cons_succ, List.setIfInBounds_toArray, List.set_cons_zero, List.set_cons_succ]
    refine wpAnyH_take (i := 8) (v := ?_) rfl (by kernel_rfl) (by kernel_rfl) (by kernel_rfl) (fun _ _ _ h => h) (Or.inl ⟨by rfl, ?_⟩) hHeld ?_
    rotate_left
    · (intro w hSw; (try dsimp only at hSw); go_simp; try (with_reducible rfl))
    simp only [Act.put, List.getElem_toArray, List.getElem_cons_zero, List.getElem_cons_succ, List.setIfInBounds_toArray, List.set_cons_zero, List.set_cons_succ]
    refine wpAnyH_take (i := 9) (v := ?_) rfl (by kernel_rfl) (by kernel_rfl) (by kernel_rfl) (fun _ _ _ h => h) (Or.inl ⟨by rfl, ?_⟩) hHeld ?_
    rotate_left
    · (intro w hSw; (try dsimp only at hSw); go_simp; try (with_reducible rfl))
    simp only [Act.put, List.getElem_toArray, List.getElem_cons_zero, List.getElem_cons_succ, List.setIfInBounds_toArray, List.set_cons_zero, List.set_cons_succ]
    refine wpAnyH_ready (rs := [1]) (by kernel_rfl) (by simp) ?_
    refine AllReadyH.cons rfl (fun K hK => ?_) AllReadyH.nil
    go_simp
    refine (CN0.out _ k0).mono ?_
    rintro e w0 ⟨rfl, k0, z0, f1, f4, f5⟩
    go_wp2_with fail
    refine hK.out _ _ (SA.out _ k0) (fun hHeld => ?_)
    clear hK K
    try simp only [Act.put, List.getElem_toArray, List.getElem_cons_zero, List.getElem_cons_succ, List.setIfInBounds_toArray, List.set_cons_zero, List.set_cons_succ]
    refine wpAnyH_take (i := 10) (v := ?_) rfl (by kernel_rfl) (by kernel_rfl) (by kernel_rfl) (fun _ _ _ h => h) (Or.inl ⟨by rfl, ?_⟩) hHeld ?_
    rotate_left
    · (intro w hSw; (try dsimp only at hSw); go_simp; try (with_reducible rfl))
    simp only [Act.put, List.getElem_toArray, List.getElem_cons_zero, List.getElem_cons_succ, List.setIfInBounds_toArray, List.set_cons_zero, List.set_cons_succ]
    refine wpAnyH_ready (rs := [11]) (by kernel_rfl) (by simp) ?_
    refine AllReadyH.cons rfl (fun K hK => ?_) AllReadyH.nil
    go_simp
    refine hK.out _ _ (SB.out _ _ _ hHeld) (fun hHeld => ?_)
    clear hK K
    try simp only [Act.put, List.getElem_toArray, List.getElem_cons_zero, List.getElem_cons_succ, List.setIfInBounds_toArray, List.set_cons_zero, List.set_cons_succ]
    refine wpAnyH_take (i := 12) (v := ?_) rfl (by kernel_rfl) (by kernel_rfl) (by kernel_rfl) (fun _ _ _ h => h) (Or.inl ⟨by rfl, ?_⟩) hHeld ?_
    rotate_left
    · (intro w hSw; (try dsimp only at hSw); go_simp; try (with_reducible rfl))
    simp only [Act.put, List.getElem_toArray, List.getElem_cons_zero, List.getElem_cons_succ, List.setIfInBounds_toArray, List.set_cons_zero, List.set_cons_succ]
    refine wpAnyH_ready (rs := [13]) (by kernel_rfl) (by simp) ?_
    refine AllReadyH.cons rfl (fun K hK => ?_) AllReadyH.nil
    go_simp
    refine hK.out _ _ (SB.out _ _ _ hHeld) (fun hHeld => ?_)
    clear hK K
    try simp only [Act.put, List.getElem_toArray, List.getElem_cons_zero, List.getElem_cons_succ, List.setIfInBounds_toArray, List.set_cons_zero, List.set_cons_succ]
    refine wpAnyH_take (i := 14) (v := ?_) rfl (by kernel_rfl) (by kernel_rfl) (by kernel_rfl) (fun _ _ _ h => h) (Or.inl ⟨by rfl, ?_⟩) hHeld ?_
    rotate_left
    · (intro w hSw; (try dsimp only at hSw); go_simp; try (with_reducible rfl))
    simp only [Act.put, List.getElem_toArray, List.getElem_cons_zero, List.getElem_cons_succ, List.setIfInBounds_toArray, List.set_cons_zero, List.set_cons_succ]
    refine wpAnyH_ready (rs := [15]) (by kernel_rfl) (by simp) ?_
    refine AllReadyH.cons rfl (fun K hK => ?_) AllReadyH.nil
    go_simp
    refine hK.out _ _ (SB.out _ _ _ hHeld) (fun hHeld => ?_)
    clear hK K
    try simp only [Act.put, List.getElem_toArray, List.getElem_cons_zero, List.getElem_cons_succ, List.setIfInBounds_toArray, List.set_cons_zero, List.set_cons_succ]
    refine wpAnyH_done (by kernel_rfl) ?_ _
    refine NoPanic.normal ?_
    have hbE : Blk (((w0.setCell ⟨eb, 1, none⟩ (.int .i64 (numR a0).1)).setCell ⟨eb, 4, none⟩ (.string (ba a1))).setCell ⟨eb, 5, none⟩ (.string (ba a2))) eb 50 (({ ev0 3 with dev := nv a0, path := a1, dest := a2 } : EvD).cells (.slice none 0 0)) := (((k0.blk hbk (fun h => h)).set_ 1 (.int .i64 (numR a0).1)).set_ 4 (.string (ba a1))).set_ 5 (.string (ba a2))
    have kz : Kept (fun x => x = eb) wr (((w0.setCell ⟨eb, 1, none⟩ (.int .i64 (numR a0).1)).setCell ⟨eb, 4, none⟩ (.string (ba a1))).setCell ⟨eb, 5, none⟩ (.string (ba a2))) := (((k0.mono (G := fun x => x = eb) (fun _ h => h.elim)).setCell (p := ⟨eb, 1, none⟩) (.inl rfl) (.int .i64 (numR a0).1)).setCell (p := ⟨eb, 4, none⟩) (.inl rfl) (.string (ba a1))).setCell (p := ⟨eb, 5, none⟩) (.inl rfl) (.string (ba a2))
    have hdE : DatAt (((w0.setCell ⟨eb, 1, none⟩ (.int .i64 (numR a0).1)).setCell ⟨eb, 4, none⟩ (.string (ba a1))).setCell ⟨eb, 5, none⟩ (.string (ba a2))) eb (.slice none 0 0) ({ ev0 3 with dev := nv a0, path := a1, dest := a2 } : EvD).data := DatAt.nil _ _
    generalize ((w0.setCell ⟨eb, 1, none⟩ (.int .i64 (numR a0).1)).setCell ⟨eb, 4, none⟩ (.string (ba a1))).setCell ⟨eb, 5, none⟩ (.string (ba a2)) = wz at hbE kz hdE ⊢
    have HR : Hid (evR [109, 111, 118, 101] [a0, a1, a2] = (({ ev0 3 with dev := nv a0, path := a1, dest := a2 } : EvD), 0)) := Lib.hid (HEV.out.trans rfl)
    obtain ⟨D, cd, hv, hrd, hdn⟩ := hdE
    rw [hv] at hbE
    have HRD := Lib.hid hrd
    have HDN := Lib.hid hdn
    clear hrd hdn hv
    generalize ({ ev0 3 with dev := nv a0, path := a1, dest := a2 } : EvD) = ev at hbE HR HRD ⊢
    have bzr := kz.blk brr (by show ¬ w.heap.size + 1 = eb; omega)
    have zr : ∀ i, wz.frozen? ⟨w.heap.size + 1, i, none⟩ = false := fun i => bzr.frozen i
    have e0 := (hbE.cell 0).trans (show (ev.cells (.slice D ev.data.length cd))[0]? = some (.int .i64 ev.kind) from rfl)
    have e1 := (hbE.cell 1).trans (show (ev.cells (.slice D ev.data.length cd))[1]? = some (.int .i64 ev.dev) from rfl)
    have e2 := (hbE.cell 2).trans (show (ev.cells (.slice D ev.data.length cd))[2]? = some (.int .i64 ev.oth) from rfl)
    have e3 := (hbE.cell 3).trans (show (ev.cells (.slice D ev.data.length cd))[3]? = some (.int .i64 ev.vault) from rfl)
    have e4 := (hbE.cell 4).trans (show (ev.cells (.slice D ev.data.length cd))[4]? = some (.string (ba ev.path)) from rfl)
    have e5 := (hbE.cell 5).trans (show (ev.cells (.slice D ev.data.length cd))[5]? = some (.string (ba ev.dest)) from rfl)
    have e6 := (hbE.cell 6).trans (show (ev.cells (.slice D ev.data.length cd))[6]? = some (.slice D ev.data.length cd) from rfl)
    have e7 := (hbE.cell 7).trans (show (ev.cells (.slice D ev.data.length cd))[7]? = some (.int .i64 ev.num) from rfl)
    have e8 := (hbE.cell 8).trans (show (ev.cells (.slice D ev.data.length cd))[8]? = some (.int .i64 ev.cut) from rfl)
    have e9 := (hbE.cell 9).trans (show (ev.cells (.slice D ev.data.length cd))[9]? = some (.bool ev.on) from rfl)
    have r0 := (bzr.cell 0).trans (show ((ev0 0).cells (.slice none 0 0))[0]? = some (.int .i64 0) from rfl)
    have r1 := (bzr.cell 1).trans (show ((ev0 0).cells (.slice none 0 0))[1]? = some (.int .i64 0) from rfl)
    have r2 := (bzr.cell 2).trans (show ((ev0 0).cells (.slice none 0 0))[2]? = some (.int .i64 0) from rfl)
    have r3 := (bzr.cell 3).trans (show ((ev0 0).cells (.slice none 0 0))[3]? = some (.int .i64 0) from rfl)
    have r4 := (bzr.cell 4).trans (show ((ev0 0).cells (.slice none 0 0))[4]? = some (.string (ba [])) from rfl)
    have r5 := (bzr.cell 5).trans (show ((ev0 0).cells (.slice none 0 0))[5]? = some (.string (ba [])) from rfl)
    have r6 := (bzr.cell 6).trans (show ((ev0 0).cells (.slice none 0 0))[6]? = some (.slice none 0 0) from rfl)
    have r7 := (bzr.cell 7).trans (show ((ev0 0).cells (.slice none 0 0))[7]? = some (.int .i64 0) from rfl)
    have r8 := (bzr.cell 8).trans (show ((ev0 0).cells (.slice none 0 0))[8]? = some (.int .i64 0) from rfl)
    have r9 := (bzr.cell 9).trans (show ((ev0 0).cells (.slice none 0 0))[9]? = some (.bool false) from rfl)
    have HKZ := Lib.hid kz
    have HBZ := Lib.hid bzr
    clear kz bzr hbE
    go_wp2_with fail
    have hbz := blk_sets HBZ.out (evList ev (.slice D ev.data.length cd))
    rw [evList_cells] at hbz
    refine bodyPost_ret (results_hap (cs := ev.cells (.slice D ev.data.length cd)) rfl rfl hbz) rfl ?_
    rw [HR.out]
    refine ⟨.slice D ev.data.length cd, D, cd, ?_, rfl, ?_, ?_⟩
    · exact rfl
    · exact (kept_sets (F := fun x => x = w.heap.size + 1) (Kept.refl _ wz) (w.heap.size + 1) (.inl rfl) (evList ev (.slice D ev.data.length cd))).src HRD.out (fun ad e _ => by have := HDN.out ad e; show ¬ ad.block = w.heap.size + 1; omega)
    · exact below_sets (HBW.out.trans (HKZ.out.below (B := w.heap.size) HBW.out.size (fun x h => by subst h; omega))) (w.heap.size + 1) (by omega) (evList ev (.slice D ev.data.length cd))
  · skip
    have q0 : ((ba [98, 97, 99, 107, 117, 112]).toList == [119, 114, 105, 116, 101]) = false := by rw [cmp_ba]; decide
    have q1 : ((ba [98, 97, 99, 107, 117, 112]).toList == [114, 101, 109, 111, 118, 101]) = false := by rw [cmp_ba]; decide
    have q2 : ((ba [98, 97, 99, 107, 117, 112]).toList == [109, 111, 118, 101]) = false := by rw [cmp_ba]; decide
    have q3 : ((ba [98, 97, 99, 107, 117, 112]).toList == [98, 97, 99, 107, 117, 112]) = true := by rw [cmp_ba]; decide
    obtain ⟨a0, a1, rfl⟩ := len2 (valid_len (n := 2) HV.out (by decide +kernel))
    rw [show kf [98, 97, 99, 107, 117, 112] 15 = 4 by decide +kernel] at hbk
    obtain ⟨xb, xo, rfl, hxb, _⟩ := hAr.at_ (k := 0) (by simp)
    have e0 : wr.cell? ⟨w.heap.size, 0, none⟩ = some (.string (ba [98, 97, 99, 107, 117, 112])) := (bxr.cell 0).trans rfl
    have e1 : wr.cell? ⟨w.heap.size, 1, none⟩ = some (.slice (some ⟨xb, xo, none⟩) 2 c) := (bxr.cell 1).trans rfl
    have hxe : xb ≠ eb := by have := HAL.out _ rfl (by simp); simp only at this; omega
    have hse : w.heap.size ≠ eb := by omega
    have CN0 := Lib.hid (fun W (k : Kept NoF wr W) => (show Calls Tryz.prog 47 #[.agg #[.string (ba [98, 97, 99, 107, 117, 112]), .slice (some ⟨xb, xo, none⟩) 2 c], .int .i64 0] W fun e W' => e = .returned (.int .i64 (numR a0).1) ∧ Kept NoF wr W' ∧ (∀ i, W'.frozen? ⟨eb, i, none⟩ = false) ∧ W'.cell? ⟨eb, 1, none⟩ = some (.int .i64 0) ∧ W'.cell? ⟨eb, 3, none⟩ = some (.int .i64 0)  from
      (rnumber_any (ba [98, 97, 99, 107, 117, 112]) _ c [a0, a1] W (hAr.same k) 0 (by simp) HS1.out).mono (fun e W' (h : _ ∧ _) => by
        have k2 := k.trans (Kept.of_below (F := NoF) h.2) (fun _ h => .inl h)
        have hb := k2.blk hbk (fun h => h)
        exact ⟨h.1, k2, fun i => hb.frozen i, (hb.cell 1).trans rfl, (hb.cell 3).trans rfl⟩)))
    have CN1 := Lib.hid (fun W (k : Kept NoF wr W) => (show Calls Tryz.prog 47 #[.agg #[.string (ba [98, 97, 99, 107, 117, 112]), .slice (some ⟨xb, xo, none⟩) 2 c], .int .i64 1] W fun e W' => e = .returned (.int .i64 (numR a1).1) ∧ Kept NoF wr W' ∧ (∀ i, W'.frozen? ⟨eb, i, none⟩ = false) ∧ W'.cell? ⟨eb, 1, none⟩ = some (.int .i64 0) ∧ W'.cell? ⟨eb, 3, none⟩ = some (.int .i64 0)  from
      (rnumber_any (ba [98, 97, 99, 107, 117, 112]) _ c [a0, a1] W (hAr.same k) 1 (by simp) HS1.out).mono (fun e W' (h : _ ∧ _) => by
        have k2 := k.trans (Kept.of_below (F := NoF) h.2) (fun _ h => .inl h)
        have hb := k2.blk hbk (fun h => h)
        exact ⟨h.1, k2, fun i => hb.frozen i, (hb.cell 1).trans rfl, (hb.cell 3).trans rfl⟩)))
    have SA := Lib.hid (fun W (k : Kept NoF wr W) => (⟨k.cell e0 (fun h => h), k.cell e1 (fun h => h)⟩ : (fun (w' : World) => w'.cell? ⟨w.heap.size, 0, none⟩ = some (.string (ba [98, 97, 99, 107, 117, 112])) ∧ w'.cell? ⟨w.heap.size, 1, none⟩ = some (.slice (some ⟨xb, xo, none⟩) 2 c)) W))
    have SB := Lib.hid (fun (W : World) (i : Nat) (u : Value) (h : (fun (w' : World) => w'.cell? ⟨w.heap.size, 0, none⟩ = some (.string (ba [98, 97, 99, 107, 117, 112])) ∧ w'.cell? ⟨w.heap.size, 1, none⟩ = some (.slice (some ⟨xb, xo, none⟩) 2 c)) W) => (⟨cell_set_far h.1 hse, cell_set_far h.2 hse⟩ : (fun (w' : World) => w'.cell? ⟨w.heap.size, 0, none⟩ = some (.string (ba [98, 97, 99, 107, 117, 112])) ∧ w'.cell? ⟨w.heap.size, 1, none⟩ = some (.slice (some ⟨xb, xo, none⟩) 2 c)) (W.setCell ⟨eb, i, none⟩ u)))
    have k0 := (Kept.refl NoF wr).drew
    go_upto_region 20 with fail
    refine wp_region_noPanic ?_
    refine wp_region_held_drew (S := (fun (w' : World) => w'.cell? ⟨w.heap.size, 0, none⟩ = some (.string (ba [98, 97, 99, 107, 117, 112])) ∧ w'.cell? ⟨w.heap.size, 1, none⟩ = some (.slice (some ⟨xb, xo, none⟩) 2 c))) (by kernel_rfl) ?_ (fun hHeld => ?_)
    · exact SA.out _ k0
    refine wpAnyH_take (i := 0) (v := ?_) rfl (by kernel_rfl) (by kernel_rfl) (by kernel_rfl) (fun _ _ _ h => h) (Or.inl ⟨by rfl, ?_⟩) hHeld ?_
    rotate_left
    · (intro w hSw; (try dsimp only at hSw); go_simp; try (with_reducible rfl))
    simp only [Act.put, List.getElem_toArray, List.getElem_cons_zero, List.setIfInBounds_toArray, List.set_cons_zero, List.set_cons_succ]
    refine wpAnyH_take (i := 2) (v := ?_) rfl (by kernel_rfl) (by kernel_rfl) (by kernel_rfl) (fun _ _ _ h => h) (Or.inl ⟨by rfl, ?_⟩) hHeld ?_
    rotate_left
    · (intro w hSw; (try dsimp only at hSw); go_simp; try (with_reducible rfl))
    simp only [Act.put, List.getElem_toArray, List.getElem_cons_zero, List.getElem_cons_succ, List.setIfInBounds_toArray, List.set_cons_zero, List.set_cons_succ]
    refine wpAnyH_ready (rs := [1]) (by kernel_rfl) (by simp) ?_
    refine AllReadyH.cons rfl (fun K hK => ?_) AllReadyH.nil
    go_simp
    refine (CN0.out _ k0).mono ?_
    rintro e w0 ⟨rfl, k0, z0, f1, f3⟩
    go_wp2_with fail
    refine hK.out _ _ (SA.out _ k0) (fun hHeld => ?_)
    clear hK K
    try simp only [Act.put, List.getElem_toArray, List.getElem_cons_zero, List.getElem_cons_succ, List.setIfInBounds_toArray, List.set_cons_zero, List.set_cons_succ]
    refine wpAnyH_take (i := 4) (v := ?_) rfl (by kernel_rfl) (by kernel_rfl) (by kernel_rfl) (fun _ _ _ h => h) (Or.inl ⟨by rfl, ?_⟩) hHeld ?_
    rotate_left
    · (intro w hSw; (try dsimp only at hSw); go_simp; try (with_reducible rfl))
    simp only [Act.put, List.getElem_toArray, List.getElem_cons_zero, List.getElem_cons_succ, List.setIfInBounds_toArray, List.set_cons_zero, List.set_cons_succ]
    refine wpAnyH_ready (rs := [3]) (by kernel_rfl) (by simp) ?_
    refine AllReadyH.cons rfl (fun K hK => ?_) AllReadyH.nil
    go_simp
    refine (CN1.out _ k0).mono ?_
    rintro e w1 ⟨rfl, k1, z1, f1, f3⟩
    go_wp2_with fail
    refine hK.out _ _ (SA.out _ k1) (fun hHeld => ?_)
    clear hK K
    try simp only [Act.put, List.getElem_toArray, List.getElem_cons_zero, List.getElem_cons_succ, List.setIfInBounds_toArray, List.set_cons_zero, List.set_cons_succ]
    refine wpAnyH_ready (rs := [5]) (by kernel_rfl) (by simp) ?_
    refine AllReadyH.cons rfl (fun K hK => ?_) AllReadyH.nil
    go_simp
    refine hK.out _ _ (SB.out _ _ _ hHeld) (fun hHeld => ?_)
    clear hK K
    try simp only [Act.put, List.getElem_toArray, List.getElem_cons_zero, List.getElem_cons_succ, List.setIfInBounds_toArray, List.set_cons_zero, List.set_cons_succ]
    refine wpAnyH_take (i := 6) (v := ?_) rfl (by kernel_rfl) (by kernel_rfl) (by kernel_rfl) (fun _ _ _ h => h) (Or.inl ⟨by rfl, ?_⟩) hHeld ?_
    rotate_left
    · (intro w hSw; (try dsimp only at hSw); go_simp; try (with_reducible rfl))
    simp only [Act.put, List.getElem_toArray, List.getElem_cons_zero, List.getElem_cons_succ, List.setIfInBounds_toArray, List.set_cons_zero, List.set_cons_succ]
    refine wpAnyH_ready (rs := [7]) (by kernel_rfl) (by simp) ?_
    refine AllReadyH.cons rfl (fun K hK => ?_) AllReadyH.nil
    go_simp
    refine hK.out _ _ (SB.out _ _ _ hHeld) (fun hHeld => ?_)
    clear hK K
    try simp only [Act.put, List.getElem_toArray, List.getElem_cons_zero, List.getElem_cons_succ, List.setIfInBounds_toArray, List.set_cons_zero, List.set_cons_succ]
    refine wpAnyH_done (by kernel_rfl) ?_ _
    refine NoPanic.normal ?_
    have hbE : Blk ((w1.setCell ⟨eb, 1, none⟩ (.int .i64 (numR a0).1)).setCell ⟨eb, 3, none⟩ (.int .i64 (numR a1).1)) eb 50 (({ ev0 4 with dev := nv a0, vault := nv a1 } : EvD).cells (.slice none 0 0)) := ((k1.blk hbk (fun h => h)).set_ 1 (.int .i64 (numR a0).1)).set_ 3 (.int .i64 (numR a1).1)
    have kz : Kept (fun x => x = eb) wr ((w1.setCell ⟨eb, 1, none⟩ (.int .i64 (numR a0).1)).setCell ⟨eb, 3, none⟩ (.int .i64 (numR a1).1)) := ((k1.mono (G := fun x => x = eb) (fun _ h => h.elim)).setCell (p := ⟨eb, 1, none⟩) (.inl rfl) (.int .i64 (numR a0).1)).setCell (p := ⟨eb, 3, none⟩) (.inl rfl) (.int .i64 (numR a1).1)
    have hdE : DatAt ((w1.setCell ⟨eb, 1, none⟩ (.int .i64 (numR a0).1)).setCell ⟨eb, 3, none⟩ (.int .i64 (numR a1).1)) eb (.slice none 0 0) ({ ev0 4 with dev := nv a0, vault := nv a1 } : EvD).data := DatAt.nil _ _
    generalize (w1.setCell ⟨eb, 1, none⟩ (.int .i64 (numR a0).1)).setCell ⟨eb, 3, none⟩ (.int .i64 (numR a1).1) = wz at hbE kz hdE ⊢
    have HR : Hid (evR [98, 97, 99, 107, 117, 112] [a0, a1] = (({ ev0 4 with dev := nv a0, vault := nv a1 } : EvD), 0)) := Lib.hid (HEV.out.trans rfl)
    obtain ⟨D, cd, hv, hrd, hdn⟩ := hdE
    rw [hv] at hbE
    have HRD := Lib.hid hrd
    have HDN := Lib.hid hdn
    clear hrd hdn hv
    generalize ({ ev0 4 with dev := nv a0, vault := nv a1 } : EvD) = ev at hbE HR HRD ⊢
    have bzr := kz.blk brr (by show ¬ w.heap.size + 1 = eb; omega)
    have zr : ∀ i, wz.frozen? ⟨w.heap.size + 1, i, none⟩ = false := fun i => bzr.frozen i
    have e0 := (hbE.cell 0).trans (show (ev.cells (.slice D ev.data.length cd))[0]? = some (.int .i64 ev.kind) from rfl)
    have e1 := (hbE.cell 1).trans (show (ev.cells (.slice D ev.data.length cd))[1]? = some (.int .i64 ev.dev) from rfl)
    have e2 := (hbE.cell 2).trans (show (ev.cells (.slice D ev.data.length cd))[2]? = some (.int .i64 ev.oth) from rfl)
    have e3 := (hbE.cell 3).trans (show (ev.cells (.slice D ev.data.length cd))[3]? = some (.int .i64 ev.vault) from rfl)
    have e4 := (hbE.cell 4).trans (show (ev.cells (.slice D ev.data.length cd))[4]? = some (.string (ba ev.path)) from rfl)
    have e5 := (hbE.cell 5).trans (show (ev.cells (.slice D ev.data.length cd))[5]? = some (.string (ba ev.dest)) from rfl)
    have e6 := (hbE.cell 6).trans (show (ev.cells (.slice D ev.data.length cd))[6]? = some (.slice D ev.data.length cd) from rfl)
    have e7 := (hbE.cell 7).trans (show (ev.cells (.slice D ev.data.length cd))[7]? = some (.int .i64 ev.num) from rfl)
    have e8 := (hbE.cell 8).trans (show (ev.cells (.slice D ev.data.length cd))[8]? = some (.int .i64 ev.cut) from rfl)
    have e9 := (hbE.cell 9).trans (show (ev.cells (.slice D ev.data.length cd))[9]? = some (.bool ev.on) from rfl)
    have r0 := (bzr.cell 0).trans (show ((ev0 0).cells (.slice none 0 0))[0]? = some (.int .i64 0) from rfl)
    have r1 := (bzr.cell 1).trans (show ((ev0 0).cells (.slice none 0 0))[1]? = some (.int .i64 0) from rfl)
    have r2 := (bzr.cell 2).trans (show ((ev0 0).cells (.slice none 0 0))[2]? = some (.int .i64 0) from rfl)
    have r3 := (bzr.cell 3).trans (show ((ev0 0).cells (.slice none 0 0))[3]? = some (.int .i64 0) from rfl)
    have r4 := (bzr.cell 4).trans (show ((ev0 0).cells (.slice none 0 0))[4]? = some (.string (ba [])) from rfl)
    have r5 := (bzr.cell 5).trans (show ((ev0 0).cells (.slice none 0 0))[5]? = some (.string (ba [])) from rfl)
    have r6 := (bzr.cell 6).trans (show ((ev0 0).cells (.slice none 0 0))[6]? = some (.slice none 0 0) from rfl)
    have r7 := (bzr.cell 7).trans (show ((ev0 0).cells (.slice none 0 0))[7]? = some (.int .i64 0) from rfl)
    have r8 := (bzr.cell 8).trans (show ((ev0 0).cells (.slice none 0 0))[8]? = some (.int .i64 0) from rfl)
    have r9 := (bzr.cell 9).trans (show ((ev0 0).cells (.slice none 0 0))[9]? = some (.bool false) from rfl)
    have HKZ := Lib.hid kz
    have HBZ := Lib.hid bzr
    clear kz bzr hbE
    go_wp2_with fail
    have hbz := blk_sets HBZ.out (evList ev (.slice D ev.data.length cd))
    rw [evList_cells] at hbz
    refine bodyPost_ret (results_hap (cs := ev.cells (.slice D ev.data.length cd)) rfl rfl hbz) rfl ?_
    rw [HR.out]
    refine ⟨.slice D ev.data.length cd, D, cd, ?_, rfl, ?_, ?_⟩
    · exact rfl
    · exact (kept_sets (F := fun x => x = w.heap.size + 1) (Kept.refl _ wz) (w.heap.size + 1) (.inl rfl) (evList ev (.slice D ev.data.length cd))).src HRD.out (fun ad e _ => by have := HDN.out ad e; show ¬ ad.block = w.heap.size + 1; omega)
    · exact below_sets (HBW.out.trans (HKZ.out.below (B := w.heap.size) HBW.out.size (fun x h => by subst h; omega))) (w.heap.size + 1) (by omega) (evList ev (.slice D ev.data.length cd))
  · skip
    have q0 : ((ba [112, 97, 115, 115]).toList == [119, 114, 105, 116, 101]) = false := by rw [cmp_ba]; decide
    have q1 : ((ba [112, 97, 115, 115]).toList == [114, 101, 109, 111, 118, 101]) = false := by rw [cmp_ba]; decide
    have q2 : ((ba [112, 97, 115, 115]).toList == [109, 111, 118, 101]) = false := by rw [cmp_ba]; decide
    have q3 : ((ba [112, 97, 115, 115]).toList == [98, 97, 99, 107, 117, 112]) = false := by rw [cmp_ba]; decide
    have q4 : ((ba [112, 97, 115, 115]).toList == [114, 101, 116, 97, 105, 110]) = false := by rw [cmp_ba]; decide
    have q5 : ((ba [112, 97, 115, 115]).toList == [112, 97, 115, 115]) = true := by rw [cmp_ba]; decide
    obtain ⟨a0, rfl⟩ := len1 (valid_len (n := 1) HV.out (by decide +kernel))
    rw [show kf [112, 97, 115, 115] 15 = 5 by decide +kernel] at hbk
    obtain ⟨xb, xo, rfl, hxb, _⟩ := hAr.at_ (k := 0) (by simp)
    have e0 : wr.cell? ⟨w.heap.size, 0, none⟩ = some (.string (ba [112, 97, 115, 115])) := (bxr.cell 0).trans rfl
    have e1 : wr.cell? ⟨w.heap.size, 1, none⟩ = some (.slice (some ⟨xb, xo, none⟩) 1 c) := (bxr.cell 1).trans rfl
    have hxe : xb ≠ eb := by have := HAL.out _ rfl (by simp); simp only at this; omega
    have hse : w.heap.size ≠ eb := by omega
    have CN0 := Lib.hid (fun W (k : Kept NoF wr W) => (show Calls Tryz.prog 47 #[.agg #[.string (ba [112, 97, 115, 115]), .slice (some ⟨xb, xo, none⟩) 1 c], .int .i64 0] W fun e W' => e = .returned (.int .i64 (numR a0).1) ∧ Kept NoF wr W' ∧ (∀ i, W'.frozen? ⟨eb, i, none⟩ = false) ∧ W'.cell? ⟨eb, 7, none⟩ = some (.int .i64 0)  from
      (rnumber_any (ba [112, 97, 115, 115]) _ c [a0] W (hAr.same k) 0 (by simp) HS1.out).mono (fun e W' (h : _ ∧ _) => by
        have k2 := k.trans (Kept.of_below (F := NoF) h.2) (fun _ h => .inl h)
        have hb := k2.blk hbk (fun h => h)
        exact ⟨h.1, k2, fun i => hb.frozen i, (hb.cell 7).trans rfl⟩)))
    have k0 := Kept.refl NoF wr
    go_wp2_with fail
    refine (CN0.out _ k0).mono ?_
    rintro e w0 ⟨rfl, k0, z0, f7⟩
    clear CN0
    go_upto_region 41 with fail
    have hbE : Blk (w0.setCell ⟨eb, 7, none⟩ (.int .i64 (numR a0).1)) eb 50 (({ ev0 5 with num := nv a0 } : EvD).cells (.slice none 0 0)) := (k0.blk hbk (fun h => h)).set_ 7 (.int .i64 (numR a0).1)
    have kz : Kept (fun x => x = eb) wr (w0.setCell ⟨eb, 7, none⟩ (.int .i64 (numR a0).1)) := (k0.mono (G := fun x => x = eb) (fun _ h => h.elim)).setCell (p := ⟨eb, 7, none⟩) (.inl rfl) (.int .i64 (numR a0).1)
    have hdE : DatAt (w0.setCell ⟨eb, 7, none⟩ (.int .i64 (numR a0).1)) eb (.slice none 0 0) ({ ev0 5 with num := nv a0 } : EvD).data := DatAt.nil _ _
    generalize w0.setCell ⟨eb, 7, none⟩ (.int .i64 (numR a0).1) = wz at hbE kz hdE ⊢
    have HR : Hid (evR [112, 97, 115, 115] [a0] = (({ ev0 5 with num := nv a0 } : EvD), 0)) := Lib.hid (HEV.out.trans rfl)
    obtain ⟨D, cd, hv, hrd, hdn⟩ := hdE
    rw [hv] at hbE
    have HRD := Lib.hid hrd
    have HDN := Lib.hid hdn
    clear hrd hdn hv
    generalize ({ ev0 5 with num := nv a0 } : EvD) = ev at hbE HR HRD ⊢
    have bzr := kz.blk brr (by show ¬ w.heap.size + 1 = eb; omega)
    have zr : ∀ i, wz.frozen? ⟨w.heap.size + 1, i, none⟩ = false := fun i => bzr.frozen i
    have e0 := (hbE.cell 0).trans (show (ev.cells (.slice D ev.data.length cd))[0]? = some (.int .i64 ev.kind) from rfl)
    have e1 := (hbE.cell 1).trans (show (ev.cells (.slice D ev.data.length cd))[1]? = some (.int .i64 ev.dev) from rfl)
    have e2 := (hbE.cell 2).trans (show (ev.cells (.slice D ev.data.length cd))[2]? = some (.int .i64 ev.oth) from rfl)
    have e3 := (hbE.cell 3).trans (show (ev.cells (.slice D ev.data.length cd))[3]? = some (.int .i64 ev.vault) from rfl)
    have e4 := (hbE.cell 4).trans (show (ev.cells (.slice D ev.data.length cd))[4]? = some (.string (ba ev.path)) from rfl)
    have e5 := (hbE.cell 5).trans (show (ev.cells (.slice D ev.data.length cd))[5]? = some (.string (ba ev.dest)) from rfl)
    have e6 := (hbE.cell 6).trans (show (ev.cells (.slice D ev.data.length cd))[6]? = some (.slice D ev.data.length cd) from rfl)
    have e7 := (hbE.cell 7).trans (show (ev.cells (.slice D ev.data.length cd))[7]? = some (.int .i64 ev.num) from rfl)
    have e8 := (hbE.cell 8).trans (show (ev.cells (.slice D ev.data.length cd))[8]? = some (.int .i64 ev.cut) from rfl)
    have e9 := (hbE.cell 9).trans (show (ev.cells (.slice D ev.data.length cd))[9]? = some (.bool ev.on) from rfl)
    have r0 := (bzr.cell 0).trans (show ((ev0 0).cells (.slice none 0 0))[0]? = some (.int .i64 0) from rfl)
    have r1 := (bzr.cell 1).trans (show ((ev0 0).cells (.slice none 0 0))[1]? = some (.int .i64 0) from rfl)
    have r2 := (bzr.cell 2).trans (show ((ev0 0).cells (.slice none 0 0))[2]? = some (.int .i64 0) from rfl)
    have r3 := (bzr.cell 3).trans (show ((ev0 0).cells (.slice none 0 0))[3]? = some (.int .i64 0) from rfl)
    have r4 := (bzr.cell 4).trans (show ((ev0 0).cells (.slice none 0 0))[4]? = some (.string (ba [])) from rfl)
    have r5 := (bzr.cell 5).trans (show ((ev0 0).cells (.slice none 0 0))[5]? = some (.string (ba [])) from rfl)
    have r6 := (bzr.cell 6).trans (show ((ev0 0).cells (.slice none 0 0))[6]? = some (.slice none 0 0) from rfl)
    have r7 := (bzr.cell 7).trans (show ((ev0 0).cells (.slice none 0 0))[7]? = some (.int .i64 0) from rfl)
    have r8 := (bzr.cell 8).trans (show ((ev0 0).cells (.slice none 0 0))[8]? = some (.int .i64 0) from rfl)
    have r9 := (bzr.cell 9).trans (show ((ev0 0).cells (.slice none 0 0))[9]? = some (.bool false) from rfl)
    have HKZ := Lib.hid kz
    have HBZ := Lib.hid bzr
    clear kz bzr hbE
    go_wp2_with fail
    have hbz := blk_sets HBZ.out (evList ev (.slice D ev.data.length cd))
    rw [evList_cells] at hbz
    refine bodyPost_ret (results_hap (cs := ev.cells (.slice D ev.data.length cd)) rfl rfl hbz) rfl ?_
    rw [HR.out]
    refine ⟨.slice D ev.data.length cd, D, cd, ?_, rfl, ?_, ?_⟩
    · exact rfl
    · exact (kept_sets (F := fun x => x = w.heap.size + 1) (Kept.refl _ wz) (w.heap.size + 1) (.inl rfl) (evList ev (.slice D ev.data.length cd))).src HRD.out (fun ad e _ => by have := HDN.out ad e; show ¬ ad.block = w.heap.size + 1; omega)
    · exact below_sets (HBW.out.trans (HKZ.out.below (B := w.heap.size) HBW.out.size (fun x h => by subst h; omega))) (w.heap.size + 1) (by omega) (evList ev (.slice D ev.data.length cd))
  · skip
    have q0 : ((ba [99, 108, 111, 99, 107]).toList == [119, 114, 105, 116, 101]) = false := by rw [cmp_ba]; decide
    have q1 : ((ba [99, 108, 111, 99, 107]).toList == [114, 101, 109, 111, 118, 101]) = false := by rw [cmp_ba]; decide
    have q2 : ((ba [99, 108, 111, 99, 107]).toList == [109, 111, 118, 101]) = false := by rw [cmp_ba]; decide
    have q3 : ((ba [99, 108, 111, 99, 107]).toList == [98, 97, 99, 107, 117, 112]) = false := by rw [cmp_ba]; decide
    have q4 : ((ba [99, 108, 111, 99, 107]).toList == [114, 101, 116, 97, 105, 110]) = false := by rw [cmp_ba]; decide
    have q5 : ((ba [99, 108, 111, 99, 107]).toList == [112, 97, 115, 115]) = false := by rw [cmp_ba]; decide
    have q6 : ((ba [99, 108, 111, 99, 107]).toList == [99, 108, 111, 99, 107]) = true := by rw [cmp_ba]; decide
    obtain ⟨a0, a1, rfl⟩ := len2 (valid_len (n := 2) HV.out (by decide +kernel))
    rw [show kf [99, 108, 111, 99, 107] 15 = 6 by decide +kernel] at hbk
    obtain ⟨xb, xo, rfl, hxb, _⟩ := hAr.at_ (k := 0) (by simp)
    have e0 : wr.cell? ⟨w.heap.size, 0, none⟩ = some (.string (ba [99, 108, 111, 99, 107])) := (bxr.cell 0).trans rfl
    have e1 : wr.cell? ⟨w.heap.size, 1, none⟩ = some (.slice (some ⟨xb, xo, none⟩) 2 c) := (bxr.cell 1).trans rfl
    have hxe : xb ≠ eb := by have := HAL.out _ rfl (by simp); simp only at this; omega
    have hse : w.heap.size ≠ eb := by omega
    have CN0 := Lib.hid (fun W (k : Kept NoF wr W) => (show Calls Tryz.prog 47 #[.agg #[.string (ba [99, 108, 111, 99, 107]), .slice (some ⟨xb, xo, none⟩) 2 c], .int .i64 0] W fun e W' => e = .returned (.int .i64 (numR a0).1) ∧ Kept NoF wr W' ∧ (∀ i, W'.frozen? ⟨eb, i, none⟩ = false) ∧ W'.cell? ⟨eb, 1, none⟩ = some (.int .i64 0) ∧ W'.cell? ⟨eb, 7, none⟩ = some (.int .i64 0)  from
      (rnumber_any (ba [99, 108, 111, 99, 107]) _ c [a0, a1] W (hAr.same k) 0 (by simp) HS1.out).mono (fun e W' (h : _ ∧ _) => by
        have k2 := k.trans (Kept.of_below (F := NoF) h.2) (fun _ h => .inl h)
        have hb := k2.blk hbk (fun h => h)
        exact ⟨h.1, k2, fun i => hb.frozen i, (hb.cell 1).trans rfl, (hb.cell 7).trans rfl⟩)))
    have CN1 := Lib.hid (fun W (k : Kept NoF wr W) => (show Calls Tryz.prog 47 #[.agg #[.string (ba [99, 108, 111, 99, 107]), .slice (some ⟨xb, xo, none⟩) 2 c], .int .i64 1] W fun e W' => e = .returned (.int .i64 (numR a1).1) ∧ Kept NoF wr W' ∧ (∀ i, W'.frozen? ⟨eb, i, none⟩ = false) ∧ W'.cell? ⟨eb, 1, none⟩ = some (.int .i64 0) ∧ W'.cell? ⟨eb, 7, none⟩ = some (.int .i64 0)  from
      (rnumber_any (ba [99, 108, 111, 99, 107]) _ c [a0, a1] W (hAr.same k) 1 (by simp) HS1.out).mono (fun e W' (h : _ ∧ _) => by
        have k2 := k.trans (Kept.of_below (F := NoF) h.2) (fun _ h => .inl h)
        have hb := k2.blk hbk (fun h => h)
        exact ⟨h.1, k2, fun i => hb.frozen i, (hb.cell 1).trans rfl, (hb.cell 7).trans rfl⟩)))
    have SA := Lib.hid (fun W (k : Kept NoF wr W) => (⟨k.cell e0 (fun h => h), k.cell e1 (fun h => h)⟩ : (fun (w' : World) => w'.cell? ⟨w.heap.size, 0, none⟩ = some (.string (ba [99, 108, 111, 99, 107])) ∧ w'.cell? ⟨w.heap.size, 1, none⟩ = some (.slice (some ⟨xb, xo, none⟩) 2 c)) W))
    have SB := Lib.hid (fun (W : World) (i : Nat) (u : Value) (h : (fun (w' : World) => w'.cell? ⟨w.heap.size, 0, none⟩ = some (.string (ba [99, 108, 111, 99, 107])) ∧ w'.cell? ⟨w.heap.size, 1, none⟩ = some (.slice (some ⟨xb, xo, none⟩) 2 c)) W) => (⟨cell_set_far h.1 hse, cell_set_far h.2 hse⟩ : (fun (w' : World) => w'.cell? ⟨w.heap.size, 0, none⟩ = some (.string (ba [99, 108, 111, 99, 107])) ∧ w'.cell? ⟨w.heap.size, 1, none⟩ = some (.slice (some ⟨xb, xo, none⟩) 2 c)) (W.setCell ⟨eb, i, none⟩ u)))
    have k0 := (Kept.refl NoF wr).drew
    go_upto_region 25 with fail
    refine wp_region_noPanic ?_
    refine wp_region_held_drew (S := (fun (w' : World) => w'.cell? ⟨w.heap.size, 0, none⟩ = some (.string (ba [99, 108, 111, 99, 107])) ∧ w'.cell? ⟨w.heap.size, 1, none⟩ = some (.slice (some ⟨xb, xo, none⟩) 2 c))) (by kernel_rfl) ?_ (fun hHeld => ?_)
    · exact SA.out _ k0
    refine wpAnyH_take (i := 0) (v := ?_) rfl (by kernel_rfl) (by kernel_rfl) (by kernel_rfl) (fun _ _ _ h => h) (Or.inl ⟨by rfl, ?_⟩) hHeld ?_
    rotate_left
    · (intro w hSw; (try dsimp only at hSw); go_simp; try (with_reducible rfl))
    simp only [Act.put, List.getElem_toArray, List.getElem_cons_zero, List.setIfInBounds_toArray, List.set_cons_zero, List.set_cons_succ]
    refine wpAnyH_take (i := 2) (v := ?_) rfl (by kernel_rfl) (by kernel_rfl) (by kernel_rfl) (fun _ _ _ h => h) (Or.inl ⟨by rfl, ?_⟩) hHeld ?_
    rotate_left
    · (intro w hSw; (try dsimp only at hSw); go_simp; try (with_reducible rfl))
    simp only [Act.put, List.getElem_toArray, List.getElem_cons_zero, List.getElem_cons_succ, List.setIfInBounds_toArray, List.set_cons_zero, List.set_cons_succ]
    refine wpAnyH_ready (rs := [1]) (by kernel_rfl) (by simp) ?_
    refine AllReadyH.cons rfl (fun K hK => ?_) AllReadyH.nil
    go_simp
    refine (CN0.out _ k0).mono ?_
    rintro e w0 ⟨rfl, k0, z0, f1, f7⟩
    go_wp2_with fail
    refine hK.out _ _ (SA.out _ k0) (fun hHeld => ?_)
    clear hK K
    try simp only [Act.put, List.getElem_toArray, List.getElem_cons_zero, List.getElem_cons_succ, List.setIfInBounds_toArray, List.set_cons_zero, List.set_cons_succ]
    refine wpAnyH_take (i := 4) (v := ?_) rfl (by kernel_rfl) (by kernel_rfl) (by kernel_rfl) (fun _ _ _ h => h) (Or.inl ⟨by rfl, ?_⟩) hHeld ?_
    rotate_left
    · (intro w hSw; (try dsimp only at hSw); go_simp; try (with_reducible rfl))
    simp only [Act.put, List.getElem_toArray, List.getElem_cons_zero, List.getElem_cons_succ, List.setIfInBounds_toArray, List.set_cons_zero, List.set_cons_succ]
    refine wpAnyH_ready (rs := [3]) (by kernel_rfl) (by simp) ?_
    refine AllReadyH.cons rfl (fun K hK => ?_) AllReadyH.nil
    go_simp
    refine (CN1.out _ k0).mono ?_
    rintro e w1 ⟨rfl, k1, z1, f1, f7⟩
    go_wp2_with fail
    refine hK.out _ _ (SA.out _ k1) (fun hHeld => ?_)
    clear hK K
    try simp only [Act.put, List.getElem_toArray, List.getElem_cons_zero, List.getElem_cons_succ, List.setIfInBounds_toArray, List.set_cons_zero, List.set_cons_succ]
    refine wpAnyH_ready (rs := [5]) (by kernel_rfl) (by simp) ?_
    refine AllReadyH.cons rfl (fun K hK => ?_) AllReadyH.nil
    go_simp
    refine hK.out _ _ (SB.out _ _ _ hHeld) (fun hHeld => ?_)
    clear hK K
    try simp only [Act.put, List.getElem_toArray, List.getElem_cons_zero, List.getElem_cons_succ, List.setIfInBounds_toArray, List.set_cons_zero, List.set_cons_succ]
    refine wpAnyH_take (i := 6) (v := ?_) rfl (by kernel_rfl) (by kernel_rfl) (by kernel_rfl) (fun _ _ _ h => h) (Or.inl ⟨by rfl, ?_⟩) hHeld ?_
    rotate_left
    · (intro w hSw; (try dsimp only at hSw); go_simp; try (with_reducible rfl))
    simp only [Act.put, List.getElem_toArray, List.getElem_cons_zero, List.getElem_cons_succ, List.setIfInBounds_toArray, List.set_cons_zero, List.set_cons_succ]
    refine wpAnyH_ready (rs := [7]) (by kernel_rfl) (by simp) ?_
    refine AllReadyH.cons rfl (fun K hK => ?_) AllReadyH.nil
    go_simp
    refine hK.out _ _ (SB.out _ _ _ hHeld) (fun hHeld => ?_)
    clear hK K
    try simp only [Act.put, List.getElem_toArray, List.getElem_cons_zero, List.getElem_cons_succ, List.setIfInBounds_toArray, List.set_cons_zero, List.set_cons_succ]
    refine wpAnyH_done (by kernel_rfl) ?_ _
    refine NoPanic.normal ?_
    have hbE : Blk ((w1.setCell ⟨eb, 1, none⟩ (.int .i64 (numR a0).1)).setCell ⟨eb, 7, none⟩ (.int .i64 (numR a1).1)) eb 50 (({ ev0 6 with dev := nv a0, num := nv a1 } : EvD).cells (.slice none 0 0)) := ((k1.blk hbk (fun h => h)).set_ 1 (.int .i64 (numR a0).1)).set_ 7 (.int .i64 (numR a1).1)
    have kz : Kept (fun x => x = eb) wr ((w1.setCell ⟨eb, 1, none⟩ (.int .i64 (numR a0).1)).setCell ⟨eb, 7, none⟩ (.int .i64 (numR a1).1)) := ((k1.mono (G := fun x => x = eb) (fun _ h => h.elim)).setCell (p := ⟨eb, 1, none⟩) (.inl rfl) (.int .i64 (numR a0).1)).setCell (p := ⟨eb, 7, none⟩) (.inl rfl) (.int .i64 (numR a1).1)
    have hdE : DatAt ((w1.setCell ⟨eb, 1, none⟩ (.int .i64 (numR a0).1)).setCell ⟨eb, 7, none⟩ (.int .i64 (numR a1).1)) eb (.slice none 0 0) ({ ev0 6 with dev := nv a0, num := nv a1 } : EvD).data := DatAt.nil _ _
    generalize (w1.setCell ⟨eb, 1, none⟩ (.int .i64 (numR a0).1)).setCell ⟨eb, 7, none⟩ (.int .i64 (numR a1).1) = wz at hbE kz hdE ⊢
    have HR : Hid (evR [99, 108, 111, 99, 107] [a0, a1] = (({ ev0 6 with dev := nv a0, num := nv a1 } : EvD), 0)) := Lib.hid (HEV.out.trans rfl)
    obtain ⟨D, cd, hv, hrd, hdn⟩ := hdE
    rw [hv] at hbE
    have HRD := Lib.hid hrd
    have HDN := Lib.hid hdn
    clear hrd hdn hv
    generalize ({ ev0 6 with dev := nv a0, num := nv a1 } : EvD) = ev at hbE HR HRD ⊢
    have bzr := kz.blk brr (by show ¬ w.heap.size + 1 = eb; omega)
    have zr : ∀ i, wz.frozen? ⟨w.heap.size + 1, i, none⟩ = false := fun i => bzr.frozen i
    have e0 := (hbE.cell 0).trans (show (ev.cells (.slice D ev.data.length cd))[0]? = some (.int .i64 ev.kind) from rfl)
    have e1 := (hbE.cell 1).trans (show (ev.cells (.slice D ev.data.length cd))[1]? = some (.int .i64 ev.dev) from rfl)
    have e2 := (hbE.cell 2).trans (show (ev.cells (.slice D ev.data.length cd))[2]? = some (.int .i64 ev.oth) from rfl)
    have e3 := (hbE.cell 3).trans (show (ev.cells (.slice D ev.data.length cd))[3]? = some (.int .i64 ev.vault) from rfl)
    have e4 := (hbE.cell 4).trans (show (ev.cells (.slice D ev.data.length cd))[4]? = some (.string (ba ev.path)) from rfl)
    have e5 := (hbE.cell 5).trans (show (ev.cells (.slice D ev.data.length cd))[5]? = some (.string (ba ev.dest)) from rfl)
    have e6 := (hbE.cell 6).trans (show (ev.cells (.slice D ev.data.length cd))[6]? = some (.slice D ev.data.length cd) from rfl)
    have e7 := (hbE.cell 7).trans (show (ev.cells (.slice D ev.data.length cd))[7]? = some (.int .i64 ev.num) from rfl)
    have e8 := (hbE.cell 8).trans (show (ev.cells (.slice D ev.data.length cd))[8]? = some (.int .i64 ev.cut) from rfl)
    have e9 := (hbE.cell 9).trans (show (ev.cells (.slice D ev.data.length cd))[9]? = some (.bool ev.on) from rfl)
    have r0 := (bzr.cell 0).trans (show ((ev0 0).cells (.slice none 0 0))[0]? = some (.int .i64 0) from rfl)
    have r1 := (bzr.cell 1).trans (show ((ev0 0).cells (.slice none 0 0))[1]? = some (.int .i64 0) from rfl)
    have r2 := (bzr.cell 2).trans (show ((ev0 0).cells (.slice none 0 0))[2]? = some (.int .i64 0) from rfl)
    have r3 := (bzr.cell 3).trans (show ((ev0 0).cells (.slice none 0 0))[3]? = some (.int .i64 0) from rfl)
    have r4 := (bzr.cell 4).trans (show ((ev0 0).cells (.slice none 0 0))[4]? = some (.string (ba [])) from rfl)
    have r5 := (bzr.cell 5).trans (show ((ev0 0).cells (.slice none 0 0))[5]? = some (.string (ba [])) from rfl)
    have r6 := (bzr.cell 6).trans (show ((ev0 0).cells (.slice none 0 0))[6]? = some (.slice none 0 0) from rfl)
    have r7 := (bzr.cell 7).trans (show ((ev0 0).cells (.slice none 0 0))[7]? = some (.int .i64 0) from rfl)
    have r8 := (bzr.cell 8).trans (show ((ev0 0).cells (.slice none 0 0))[8]? = some (.int .i64 0) from rfl)
    have r9 := (bzr.cell 9).trans (show ((ev0 0).cells (.slice none 0 0))[9]? = some (.bool false) from rfl)
    have HKZ := Lib.hid kz
    have HBZ := Lib.hid bzr
    clear kz bzr hbE
    go_wp2_with fail
    have hbz := blk_sets HBZ.out (evList ev (.slice D ev.data.length cd))
    rw [evList_cells] at hbz
    refine bodyPost_ret (results_hap (cs := ev.cells (.slice D ev.data.length cd)) rfl rfl hbz) rfl ?_
    rw [HR.out]
    refine ⟨.slice D ev.data.length cd, D, cd, ?_, rfl, ?_, ?_⟩
    · exact rfl
    · exact (kept_sets (F := fun x => x = w.heap.size + 1) (Kept.refl _ wz) (w.heap.size + 1) (.inl rfl) (evList ev (.slice D ev.data.length cd))).src HRD.out (fun ad e _ => by have := HDN.out ad e; show ¬ ad.block = w.heap.size + 1; omega)
    · exact below_sets (HBW.out.trans (HKZ.out.below (B := w.heap.size) HBW.out.size (fun x h => by subst h; omega))) (w.heap.size + 1) (by omega) (evList ev (.slice D ev.data.length cd))
  · skip
    have q0 : ((ba [109, 101, 101, 116]).toList == [119, 114, 105, 116, 101]) = false := by rw [cmp_ba]; decide
    have q1 : ((ba [109, 101, 101, 116]).toList == [114, 101, 109, 111, 118, 101]) = false := by rw [cmp_ba]; decide
    have q2 : ((ba [109, 101, 101, 116]).toList == [109, 111, 118, 101]) = false := by rw [cmp_ba]; decide
    have q3 : ((ba [109, 101, 101, 116]).toList == [98, 97, 99, 107, 117, 112]) = false := by rw [cmp_ba]; decide
    have q4 : ((ba [109, 101, 101, 116]).toList == [114, 101, 116, 97, 105, 110]) = false := by rw [cmp_ba]; decide
    have q5 : ((ba [109, 101, 101, 116]).toList == [112, 97, 115, 115]) = false := by rw [cmp_ba]; decide
    have q6 : ((ba [109, 101, 101, 116]).toList == [99, 108, 111, 99, 107]) = false := by rw [cmp_ba]; decide
    have q7 : ((ba [109, 101, 101, 116]).toList == [100, 114, 111, 112]) = false := by rw [cmp_ba]; decide
    have q8 : ((ba [109, 101, 101, 116]).toList == [109, 101, 101, 116]) = true := by rw [cmp_ba]; decide
    obtain ⟨a0, a1, a2, a3, rfl⟩ := len4 (valid_len (n := 4) HV.out (by decide +kernel))
    rw [show kf [109, 101, 101, 116] 15 = 7 by decide +kernel] at hbk
    obtain ⟨xb, xo, rfl, hxb, _⟩ := hAr.at_ (k := 0) (by simp)
    have e0 : wr.cell? ⟨w.heap.size, 0, none⟩ = some (.string (ba [109, 101, 101, 116])) := (bxr.cell 0).trans rfl
    have e1 : wr.cell? ⟨w.heap.size, 1, none⟩ = some (.slice (some ⟨xb, xo, none⟩) 4 c) := (bxr.cell 1).trans rfl
    have hxe : xb ≠ eb := by have := HAL.out _ rfl (by simp); simp only at this; omega
    have hse : w.heap.size ≠ eb := by omega
    have CN0 := Lib.hid (fun W (k : Kept NoF wr W) => (show Calls Tryz.prog 47 #[.agg #[.string (ba [109, 101, 101, 116]), .slice (some ⟨xb, xo, none⟩) 4 c], .int .i64 0] W fun e W' => e = .returned (.int .i64 (numR a0).1) ∧ Kept NoF wr W' ∧ (∀ i, W'.frozen? ⟨eb, i, none⟩ = false) ∧ W'.cell? ⟨eb, 1, none⟩ = some (.int .i64 0) ∧ W'.cell? ⟨eb, 2, none⟩ = some (.int .i64 0) ∧ W'.cell? ⟨eb, 7, none⟩ = some (.int .i64 0) ∧ W'.cell? ⟨eb, 8, none⟩ = some (.int .i64 0)  from
      (rnumber_any (ba [109, 101, 101, 116]) _ c [a0, a1, a2, a3] W (hAr.same k) 0 (by simp) HS1.out).mono (fun e W' (h : _ ∧ _) => by
        have k2 := k.trans (Kept.of_below (F := NoF) h.2) (fun _ h => .inl h)
        have hb := k2.blk hbk (fun h => h)
        exact ⟨h.1, k2, fun i => hb.frozen i, (hb.cell 1).trans rfl, (hb.cell 2).trans rfl, (hb.cell 7).trans rfl, (hb.cell 8).trans rfl⟩)))
    have CN1 := Lib.hid (fun W (k : Kept NoF wr W) => (show Calls Tryz.prog 47 #[.agg #[.string (ba [109, 101, 101, 116]), .slice (some ⟨xb, xo, none⟩) 4 c], .int .i64 1] W fun e W' => e = .returned (.int .i64 (numR a1).1) ∧ Kept NoF wr W' ∧ (∀ i, W'.frozen? ⟨eb, i, none⟩ = false) ∧ W'.cell? ⟨eb, 1, none⟩ = some (.int .i64 0) ∧ W'.cell? ⟨eb, 2, none⟩ = some (.int .i64 0) ∧ W'.cell? ⟨eb, 7, none⟩ = some (.int .i64 0) ∧ W'.cell? ⟨eb, 8, none⟩ = some (.int .i64 0)  from
      (rnumber_any (ba [109, 101, 101, 116]) _ c [a0, a1, a2, a3] W (hAr.same k) 1 (by simp) HS1.out).mono (fun e W' (h : _ ∧ _) => by
        have k2 := k.trans (Kept.of_below (F := NoF) h.2) (fun _ h => .inl h)
        have hb := k2.blk hbk (fun h => h)
        exact ⟨h.1, k2, fun i => hb.frozen i, (hb.cell 1).trans rfl, (hb.cell 2).trans rfl, (hb.cell 7).trans rfl, (hb.cell 8).trans rfl⟩)))
    have CN2 := Lib.hid (fun W (k : Kept NoF wr W) => (show Calls Tryz.prog 47 #[.agg #[.string (ba [109, 101, 101, 116]), .slice (some ⟨xb, xo, none⟩) 4 c], .int .i64 2] W fun e W' => e = .returned (.int .i64 (numR a2).1) ∧ Kept NoF wr W' ∧ (∀ i, W'.frozen? ⟨eb, i, none⟩ = false) ∧ W'.cell? ⟨eb, 1, none⟩ = some (.int .i64 0) ∧ W'.cell? ⟨eb, 2, none⟩ = some (.int .i64 0) ∧ W'.cell? ⟨eb, 7, none⟩ = some (.int .i64 0) ∧ W'.cell? ⟨eb, 8, none⟩ = some (.int .i64 0)  from
      (rnumber_any (ba [109, 101, 101, 116]) _ c [a0, a1, a2, a3] W (hAr.same k) 2 (by simp) HS1.out).mono (fun e W' (h : _ ∧ _) => by
        have k2 := k.trans (Kept.of_below (F := NoF) h.2) (fun _ h => .inl h)
        have hb := k2.blk hbk (fun h => h)
        exact ⟨h.1, k2, fun i => hb.frozen i, (hb.cell 1).trans rfl, (hb.cell 2).trans rfl, (hb.cell 7).trans rfl, (hb.cell 8).trans rfl⟩)))
    have CN3 := Lib.hid (fun W (k : Kept NoF wr W) => (show Calls Tryz.prog 47 #[.agg #[.string (ba [109, 101, 101, 116]), .slice (some ⟨xb, xo, none⟩) 4 c], .int .i64 3] W fun e W' => e = .returned (.int .i64 (numR a3).1) ∧ Kept NoF wr W' ∧ (∀ i, W'.frozen? ⟨eb, i, none⟩ = false) ∧ W'.cell? ⟨eb, 1, none⟩ = some (.int .i64 0) ∧ W'.cell? ⟨eb, 2, none⟩ = some (.int .i64 0) ∧ W'.cell? ⟨eb, 7, none⟩ = some (.int .i64 0) ∧ W'.cell? ⟨eb, 8, none⟩ = some (.int .i64 0)  from
      (rnumber_any (ba [109, 101, 101, 116]) _ c [a0, a1, a2, a3] W (hAr.same k) 3 (by simp) HS1.out).mono (fun e W' (h : _ ∧ _) => by
        have k2 := k.trans (Kept.of_below (F := NoF) h.2) (fun _ h => .inl h)
        have hb := k2.blk hbk (fun h => h)
        exact ⟨h.1, k2, fun i => hb.frozen i, (hb.cell 1).trans rfl, (hb.cell 2).trans rfl, (hb.cell 7).trans rfl, (hb.cell 8).trans rfl⟩)))
    have SA := Lib.hid (fun W (k : Kept NoF wr W) => (⟨k.cell e0 (fun h => h), k.cell e1 (fun h => h)⟩ : (fun (w' : World) => w'.cell? ⟨w.heap.size, 0, none⟩ = some (.string (ba [109, 101, 101, 116])) ∧ w'.cell? ⟨w.heap.size, 1, none⟩ = some (.slice (some ⟨xb, xo, none⟩) 4 c)) W))
    have SB := Lib.hid (fun (W : World) (i : Nat) (u : Value) (h : (fun (w' : World) => w'.cell? ⟨w.heap.size, 0, none⟩ = some (.string (ba [109, 101, 101, 116])) ∧ w'.cell? ⟨w.heap.size, 1, none⟩ = some (.slice (some ⟨xb, xo, none⟩) 4 c)) W) => (⟨cell_set_far h.1 hse, cell_set_far h.2 hse⟩ : (fun (w' : World) => w'.cell? ⟨w.heap.size, 0, none⟩ = some (.string (ba [109, 101, 101, 116])) ∧ w'.cell? ⟨w.heap.size, 1, none⟩ = some (.slice (some ⟨xb, xo, none⟩) 4 c)) (W.setCell ⟨eb, i, none⟩ u)))
    have k0 := (Kept.refl NoF wr).drew
    go_upto_region 27 with fail
    refine wp_region_noPanic ?_
    refine wp_region_held_drew (S := (fun (w' : World) => w'.cell? ⟨w.heap.size, 0, none⟩ = some (.string (ba [109, 101, 101, 116])) ∧ w'.cell? ⟨w.heap.size, 1, none⟩ = some (.slice (some ⟨xb, xo, none⟩) 4 c))) (by kernel_rfl) ?_ (fun hHeld => ?_)
    · exact SA.out _ k0
    refine wpAnyH_take (i := 0) (v := ?_) rfl (by kernel_rfl) (by kernel_rfl) (by kernel_rfl) (fun _ _ _ h => h) (Or.inl ⟨by rfl, ?_⟩) hHeld ?_
    rotate_left
    · (intro w hSw; (try dsimp only at hSw); go_simp; try (with_reducible rfl))
    simp only [Act.put, List.getElem_toArray, List.getElem_cons_zero, List.setIfInBounds_toArray, List.set_cons_zero, List.set_cons_succ]
    refine wpAnyH_take (i := 2) (v := ?_) rfl (by kernel_rfl) (by kernel_rfl) (by kernel_rfl) (fun _ _ _ h => h) (Or.inl ⟨by rfl, ?_⟩) hHeld ?_
    rotate_left
    · (intro w hSw; (try dsimp only at hSw); go_simp; try (with_reducible rfl))
    simp only [Act.put, List.getElem_toArray, List.getElem_cons_zero, List.getElem_cons_succ, List.setIfInBounds_toArray, List.set_cons_zero, List.set_cons_succ]
    refine wpAnyH_take (i := 4) (v := ?_) rfl (by kernel_rfl) (by kernel_rfl) (by kernel_rfl) (fun _ _ _ h => h) (Or.inl ⟨by rfl, ?_⟩) hHeld ?_
    rotate_left
    · (intro w hSw; (try dsimp only at hSw); go_simp; try (with_reducible rfl))
    simp only [Act.put, List.getElem_toArray, List.getElem_cons_zero, List.getElem_cons_succ, List.setIfInBounds_toArray, List.set_cons_zero, List.set_cons_succ]
    refine wpAnyH_take (i := 6) (v := ?_) rfl (by kernel_rfl) (by kernel_rfl) (by kernel_rfl) (fun _ _ _ h => h) (Or.inl ⟨by rfl, ?_⟩) hHeld ?_
    rotate_left
    · (intro w hSw; (try dsimp only at hSw); go_simp; try (with_reducible rfl))
    simp only [Act.put, List.getElem_toArray, List.getElem_cons_zero, List.getElem_cons_succ, List.setIfInBounds_toArray, List.set_cons_zero, List.set_cons_succ]
    refine wpAnyH_ready (rs := [1]) (by kernel_rfl) (by simp) ?_
    refine AllReadyH.cons rfl (fun K hK => ?_) AllReadyH.nil
    go_simp
    refine (CN0.out _ k0).mono ?_
    rintro e w0 ⟨rfl, k0, z0, f1, f2, f7, f8⟩
    go_wp2_with fail
    refine hK.out _ _ (SA.out _ k0) (fun hHeld => ?_)
    clear hK K
    try simp only [Act.put, List.getElem_toArray, List.getElem_cons_zero, List.getElem_cons_succ, List.setIfInBounds_toArray, List.set_cons_zero, List.set_cons_succ]
    refine wpAnyH_take (i := 8) (v := ?_) rfl (by kernel_rfl) (by kernel_rfl) (by kernel_rfl) (fun _ _ _ h => h) (Or.inl ⟨by rfl, ?_⟩) hHeld ?_
    rotate_left
    · (intro w hSw; (try dsimp only at hSw); go_simp; try (with_reducible rfl))
    simp only [Act.put, List.getElem_toArray, List.getElem_cons_zero, List.getElem_cons_succ, List.setIfInBounds_toArray, List.set_cons_zero, List.set_cons_succ]
    refine wpAnyH_ready (rs := [3]) (by kernel_rfl) (by simp) ?_
    refine AllReadyH.cons rfl (fun K hK => ?_) AllReadyH.nil
    go_simp
    refine (CN1.out _ k0).mono ?_
    rintro e w1 ⟨rfl, k1, z1, f1, f2, f7, f8⟩
    go_wp2_with fail
    refine hK.out _ _ (SA.out _ k1) (fun hHeld => ?_)
    clear hK K
    try simp only [Act.put, List.getElem_toArray, List.getElem_cons_zero, List.getElem_cons_succ, List.setIfInBounds_toArray, List.set_cons_zero, List.set_cons_succ]
    refine wpAnyH_ready (rs := [5]) (by kernel_rfl) (by simp) ?_
    refine AllReadyH.cons rfl (fun K hK => ?_) AllReadyH.nil
    go_simp
    refine (CN2.out _ k1).mono ?_
    rintro e w2 ⟨rfl, k2, z2, f1, f2, f7, f8⟩
    go_wp2_with fail
    refine hK.out _ _ (SA.out _ k2) (fun hHeld => ?_)
    clear hK K
    try simp only [Act.put, List.getElem_toArray, List.getElem_cons_zero, List.getElem_cons_succ, List.setIfInBounds_toArray, List.set_cons_zero, List.set_cons_succ]
    refine wpAnyH_ready (rs := [7]) (by kernel_rfl) (by simp) ?_
    refine AllReadyH.cons rfl (fun K hK => ?_) AllReadyH.nil
    go_simp
    refine (CN3.out _ k2).mono ?_
    rintro e w3 ⟨rfl, k3, z3, f1, f2, f7, f8⟩
    go_wp2_with fail
    refine hK.out _ _ (SA.out _ k3) (fun hHeld => ?_)
    clear hK K
    try simp only [Act.put, List.getElem_toArray, List.getElem_cons_zero, List.getElem_cons_succ, List.setIfInBounds_toArray, List.set_cons_zero, List.set_cons_succ]
    refine wpAnyH_ready (rs := [9]) (by kernel_rfl) (by simp) ?_
    refine AllReadyH.cons rfl (fun K hK => ?_) AllReadyH.nil
    go_simp
    refine hK.out _ _ (SB.out _ _ _ hHeld) (fun hHeld => ?_)
    clear hK K
    try simp only [Act.put, List.getElem_toArray, List.getElem_cons_zero, List.getElem_cons_succ, List.setIfInBounds_toArray, List.set_cons_zero, List.set_cons_succ]
    refine wpAnyH_take (i := 10) (v := ?_) rfl (by kernel_rfl) (by kernel_rfl) (by kernel_rfl) (fun _ _ _ h => h) (Or.inl ⟨by rfl, ?_⟩) hHeld ?_
    rotate_left
    · (intro w hSw; (try dsimp only at hSw); go_simp; try (with_reducible rfl))
    simp only [Act.put, List.getElem_toArray, List.getElem_cons_zero, List.getElem_cons_succ, List.setIfInBounds_toArray, List.set_cons_zero, List.set_cons_succ]
    refine wpAnyH_ready (rs := [11]) (by kernel_rfl) (by simp) ?_
    refine AllReadyH.cons rfl (fun K hK => ?_) AllReadyH.nil
    go_simp
    refine hK.out _ _ (SB.out _ _ _ hHeld) (fun hHeld => ?_)
    clear hK K
    try simp only [Act.put, List.getElem_toArray, List.getElem_cons_zero, List.getElem_cons_succ, List.setIfInBounds_toArray, List.set_cons_zero, List.set_cons_succ]
    refine wpAnyH_take (i := 12) (v := ?_) rfl (by kernel_rfl) (by kernel_rfl) (by kernel_rfl) (fun _ _ _ h => h) (Or.inl ⟨by rfl, ?_⟩) hHeld ?_
    rotate_left
    · (intro w hSw; (try dsimp only at hSw); go_simp; try (with_reducible rfl))
    simp only [Act.put, List.getElem_toArray, List.getElem_cons_zero, List.getElem_cons_succ, List.setIfInBounds_toArray, List.set_cons_zero, List.set_cons_succ]
    refine wpAnyH_ready (rs := [13]) (by kernel_rfl) (by simp) ?_
    refine AllReadyH.cons rfl (fun K hK => ?_) AllReadyH.nil
    go_simp
    refine hK.out _ _ (SB.out _ _ _ hHeld) (fun hHeld => ?_)
    clear hK K
    try simp only [Act.put, List.getElem_toArray, List.getElem_cons_zero, List.getElem_cons_succ, List.setIfInBounds_toArray, List.set_cons_zero, List.set_cons_succ]
    refine wpAnyH_take (i := 14) (v := ?_) rfl (by kernel_rfl) (by kernel_rfl) (by kernel_rfl) (fun _ _ _ h => h) (Or.inl ⟨by rfl, ?_⟩) hHeld ?_
    rotate_left
    · (intro w hSw; (try dsimp only at hSw); go_simp; try (with_reducible rfl))
    simp only [Act.put, List.getElem_toArray, List.getElem_cons_zero, List.getElem_cons_succ, List.setIfInBounds_toArray, List.set_cons_zero, List.set_cons_succ]
    refine wpAnyH_ready (rs := [15]) (by kernel_rfl) (by simp) ?_
    refine AllReadyH.cons rfl (fun K hK => ?_) AllReadyH.nil
    go_simp
    refine hK.out _ _ (SB.out _ _ _ hHeld) (fun hHeld => ?_)
    clear hK K
    try simp only [Act.put, List.getElem_toArray, List.getElem_cons_zero, List.getElem_cons_succ, List.setIfInBounds_toArray, List.set_cons_zero, List.set_cons_succ]
    refine wpAnyH_done (by kernel_rfl) ?_ _
    refine NoPanic.normal ?_
    have hbE : Blk ((((w3.setCell ⟨eb, 1, none⟩ (.int .i64 (numR a0).1)).setCell ⟨eb, 2, none⟩ (.int .i64 (numR a1).1)).setCell ⟨eb, 7, none⟩ (.int .i64 (numR a2).1)).setCell ⟨eb, 8, none⟩ (.int .i64 (numR a3).1)) eb 50 (({ ev0 7 with dev := nv a0, oth := nv a1, num := nv a2, cut := nv a3 } : EvD).cells (.slice none 0 0)) := ((((k3.blk hbk (fun h => h)).set_ 1 (.int .i64 (numR a0).1)).set_ 2 (.int .i64 (numR a1).1)).set_ 7 (.int .i64 (numR a2).1)).set_ 8 (.int .i64 (numR a3).1)
    have kz : Kept (fun x => x = eb) wr ((((w3.setCell ⟨eb, 1, none⟩ (.int .i64 (numR a0).1)).setCell ⟨eb, 2, none⟩ (.int .i64 (numR a1).1)).setCell ⟨eb, 7, none⟩ (.int .i64 (numR a2).1)).setCell ⟨eb, 8, none⟩ (.int .i64 (numR a3).1)) := ((((k3.mono (G := fun x => x = eb) (fun _ h => h.elim)).setCell (p := ⟨eb, 1, none⟩) (.inl rfl) (.int .i64 (numR a0).1)).setCell (p := ⟨eb, 2, none⟩) (.inl rfl) (.int .i64 (numR a1).1)).setCell (p := ⟨eb, 7, none⟩) (.inl rfl) (.int .i64 (numR a2).1)).setCell (p := ⟨eb, 8, none⟩) (.inl rfl) (.int .i64 (numR a3).1)
    have hdE : DatAt ((((w3.setCell ⟨eb, 1, none⟩ (.int .i64 (numR a0).1)).setCell ⟨eb, 2, none⟩ (.int .i64 (numR a1).1)).setCell ⟨eb, 7, none⟩ (.int .i64 (numR a2).1)).setCell ⟨eb, 8, none⟩ (.int .i64 (numR a3).1)) eb (.slice none 0 0) ({ ev0 7 with dev := nv a0, oth := nv a1, num := nv a2, cut := nv a3 } : EvD).data := DatAt.nil _ _
    generalize (((w3.setCell ⟨eb, 1, none⟩ (.int .i64 (numR a0).1)).setCell ⟨eb, 2, none⟩ (.int .i64 (numR a1).1)).setCell ⟨eb, 7, none⟩ (.int .i64 (numR a2).1)).setCell ⟨eb, 8, none⟩ (.int .i64 (numR a3).1) = wz at hbE kz hdE ⊢
    have HR : Hid (evR [109, 101, 101, 116] [a0, a1, a2, a3] = (({ ev0 7 with dev := nv a0, oth := nv a1, num := nv a2, cut := nv a3 } : EvD), 0)) := Lib.hid (HEV.out.trans rfl)
    obtain ⟨D, cd, hv, hrd, hdn⟩ := hdE
    rw [hv] at hbE
    have HRD := Lib.hid hrd
    have HDN := Lib.hid hdn
    clear hrd hdn hv
    generalize ({ ev0 7 with dev := nv a0, oth := nv a1, num := nv a2, cut := nv a3 } : EvD) = ev at hbE HR HRD ⊢
    have bzr := kz.blk brr (by show ¬ w.heap.size + 1 = eb; omega)
    have zr : ∀ i, wz.frozen? ⟨w.heap.size + 1, i, none⟩ = false := fun i => bzr.frozen i
    have e0 := (hbE.cell 0).trans (show (ev.cells (.slice D ev.data.length cd))[0]? = some (.int .i64 ev.kind) from rfl)
    have e1 := (hbE.cell 1).trans (show (ev.cells (.slice D ev.data.length cd))[1]? = some (.int .i64 ev.dev) from rfl)
    have e2 := (hbE.cell 2).trans (show (ev.cells (.slice D ev.data.length cd))[2]? = some (.int .i64 ev.oth) from rfl)
    have e3 := (hbE.cell 3).trans (show (ev.cells (.slice D ev.data.length cd))[3]? = some (.int .i64 ev.vault) from rfl)
    have e4 := (hbE.cell 4).trans (show (ev.cells (.slice D ev.data.length cd))[4]? = some (.string (ba ev.path)) from rfl)
    have e5 := (hbE.cell 5).trans (show (ev.cells (.slice D ev.data.length cd))[5]? = some (.string (ba ev.dest)) from rfl)
    have e6 := (hbE.cell 6).trans (show (ev.cells (.slice D ev.data.length cd))[6]? = some (.slice D ev.data.length cd) from rfl)
    have e7 := (hbE.cell 7).trans (show (ev.cells (.slice D ev.data.length cd))[7]? = some (.int .i64 ev.num) from rfl)
    have e8 := (hbE.cell 8).trans (show (ev.cells (.slice D ev.data.length cd))[8]? = some (.int .i64 ev.cut) from rfl)
    have e9 := (hbE.cell 9).trans (show (ev.cells (.slice D ev.data.length cd))[9]? = some (.bool ev.on) from rfl)
    have r0 := (bzr.cell 0).trans (show ((ev0 0).cells (.slice none 0 0))[0]? = some (.int .i64 0) from rfl)
    have r1 := (bzr.cell 1).trans (show ((ev0 0).cells (.slice none 0 0))[1]? = some (.int .i64 0) from rfl)
    have r2 := (bzr.cell 2).trans (show ((ev0 0).cells (.slice none 0 0))[2]? = some (.int .i64 0) from rfl)
    have r3 := (bzr.cell 3).trans (show ((ev0 0).cells (.slice none 0 0))[3]? = some (.int .i64 0) from rfl)
    have r4 := (bzr.cell 4).trans (show ((ev0 0).cells (.slice none 0 0))[4]? = some (.string (ba [])) from rfl)
    have r5 := (bzr.cell 5).trans (show ((ev0 0).cells (.slice none 0 0))[5]? = some (.string (ba [])) from rfl)
    have r6 := (bzr.cell 6).trans (show ((ev0 0).cells (.slice none 0 0))[6]? = some (.slice none 0 0) from rfl)
    have r7 := (bzr.cell 7).trans (show ((ev0 0).cells (.slice none 0 0))[7]? = some (.int .i64 0) from rfl)
    have r8 := (bzr.cell 8).trans (show ((ev0 0).cells (.slice none 0 0))[8]? = some (.int .i64 0) from rfl)
    have r9 := (bzr.cell 9).trans (show ((ev0 0).cells (.slice none 0 0))[9]? = some (.bool false) from rfl)
    have HKZ := Lib.hid kz
    have HBZ := Lib.hid bzr
    clear kz bzr hbE
    go_wp2_with fail
    have hbz := blk_sets HBZ.out (evList ev (.slice D ev.data.length cd))
    rw [evList_cells] at hbz
    refine bodyPost_ret (results_hap (cs := ev.cells (.slice D ev.data.length cd)) rfl rfl hbz) rfl ?_
    rw [HR.out]
    refine ⟨.slice D ev.data.length cd, D, cd, ?_, rfl, ?_, ?_⟩
    · exact rfl
    · exact (kept_sets (F := fun x => x = w.heap.size + 1) (Kept.refl _ wz) (w.heap.size + 1) (.inl rfl) (evList ev (.slice D ev.data.length cd))).src HRD.out (fun ad e _ => by have := HDN.out ad e; show ¬ ad.block = w.heap.size + 1; omega)
    · exact below_sets (HBW.out.trans (HKZ.out.below (B := w.heap.size) HBW.out.size (fun x h => by subst h; omega))) (w.heap.size + 1) (by omega) (evList ev (.slice D ev.data.length cd))
  · skip
    have q0 : ((ba [108, 111, 115, 101]).toList == [119, 114, 105, 116, 101]) = false := by rw [cmp_ba]; decide
    have q1 : ((ba [108, 111, 115, 101]).toList == [114, 101, 109, 111, 118, 101]) = false := by rw [cmp_ba]; decide
    have q2 : ((ba [108, 111, 115, 101]).toList == [109, 111, 118, 101]) = false := by rw [cmp_ba]; decide
    have q3 : ((ba [108, 111, 115, 101]).toList == [98, 97, 99, 107, 117, 112]) = false := by rw [cmp_ba]; decide
    have q4 : ((ba [108, 111, 115, 101]).toList == [114, 101, 116, 97, 105, 110]) = false := by rw [cmp_ba]; decide
    have q5 : ((ba [108, 111, 115, 101]).toList == [112, 97, 115, 115]) = false := by rw [cmp_ba]; decide
    have q6 : ((ba [108, 111, 115, 101]).toList == [99, 108, 111, 99, 107]) = false := by rw [cmp_ba]; decide
    have q7 : ((ba [108, 111, 115, 101]).toList == [100, 114, 111, 112]) = false := by rw [cmp_ba]; decide
    have q8 : ((ba [108, 111, 115, 101]).toList == [109, 101, 101, 116]) = false := by rw [cmp_ba]; decide
    have q9 : ((ba [108, 111, 115, 101]).toList == [108, 111, 115, 101]) = true := by rw [cmp_ba]; decide
    obtain ⟨a0, rfl⟩ := len1 (valid_len (n := 1) HV.out (by decide +kernel))
    rw [show kf [108, 111, 115, 101] 15 = 8 by decide +kernel] at hbk
    obtain ⟨xb, xo, rfl, hxb, _⟩ := hAr.at_ (k := 0) (by simp)
    have e0 : wr.cell? ⟨w.heap.size, 0, none⟩ = some (.string (ba [108, 111, 115, 101])) := (bxr.cell 0).trans rfl
    have e1 : wr.cell? ⟨w.heap.size, 1, none⟩ = some (.slice (some ⟨xb, xo, none⟩) 1 c) := (bxr.cell 1).trans rfl
    have hxe : xb ≠ eb := by have := HAL.out _ rfl (by simp); simp only at this; omega
    have hse : w.heap.size ≠ eb := by omega
    have CN0 := Lib.hid (fun W (k : Kept NoF wr W) => (show Calls Tryz.prog 47 #[.agg #[.string (ba [108, 111, 115, 101]), .slice (some ⟨xb, xo, none⟩) 1 c], .int .i64 0] W fun e W' => e = .returned (.int .i64 (numR a0).1) ∧ Kept NoF wr W' ∧ (∀ i, W'.frozen? ⟨eb, i, none⟩ = false) ∧ W'.cell? ⟨eb, 1, none⟩ = some (.int .i64 0)  from
      (rnumber_any (ba [108, 111, 115, 101]) _ c [a0] W (hAr.same k) 0 (by simp) HS1.out).mono (fun e W' (h : _ ∧ _) => by
        have k2 := k.trans (Kept.of_below (F := NoF) h.2) (fun _ h => .inl h)
        have hb := k2.blk hbk (fun h => h)
        exact ⟨h.1, k2, fun i => hb.frozen i, (hb.cell 1).trans rfl⟩)))
    have k0 := Kept.refl NoF wr
    go_wp2_with fail
    refine (CN0.out _ k0).mono ?_
    rintro e w0 ⟨rfl, k0, z0, f1⟩
    clear CN0
    go_upto_region 41 with fail
    have hbE : Blk (w0.setCell ⟨eb, 1, none⟩ (.int .i64 (numR a0).1)) eb 50 (({ ev0 8 with dev := nv a0 } : EvD).cells (.slice none 0 0)) := (k0.blk hbk (fun h => h)).set_ 1 (.int .i64 (numR a0).1)
    have kz : Kept (fun x => x = eb) wr (w0.setCell ⟨eb, 1, none⟩ (.int .i64 (numR a0).1)) := (k0.mono (G := fun x => x = eb) (fun _ h => h.elim)).setCell (p := ⟨eb, 1, none⟩) (.inl rfl) (.int .i64 (numR a0).1)
    have hdE : DatAt (w0.setCell ⟨eb, 1, none⟩ (.int .i64 (numR a0).1)) eb (.slice none 0 0) ({ ev0 8 with dev := nv a0 } : EvD).data := DatAt.nil _ _
    generalize w0.setCell ⟨eb, 1, none⟩ (.int .i64 (numR a0).1) = wz at hbE kz hdE ⊢
    have HR : Hid (evR [108, 111, 115, 101] [a0] = (({ ev0 8 with dev := nv a0 } : EvD), 0)) := Lib.hid (HEV.out.trans rfl)
    obtain ⟨D, cd, hv, hrd, hdn⟩ := hdE
    rw [hv] at hbE
    have HRD := Lib.hid hrd
    have HDN := Lib.hid hdn
    clear hrd hdn hv
    generalize ({ ev0 8 with dev := nv a0 } : EvD) = ev at hbE HR HRD ⊢
    have bzr := kz.blk brr (by show ¬ w.heap.size + 1 = eb; omega)
    have zr : ∀ i, wz.frozen? ⟨w.heap.size + 1, i, none⟩ = false := fun i => bzr.frozen i
    have e0 := (hbE.cell 0).trans (show (ev.cells (.slice D ev.data.length cd))[0]? = some (.int .i64 ev.kind) from rfl)
    have e1 := (hbE.cell 1).trans (show (ev.cells (.slice D ev.data.length cd))[1]? = some (.int .i64 ev.dev) from rfl)
    have e2 := (hbE.cell 2).trans (show (ev.cells (.slice D ev.data.length cd))[2]? = some (.int .i64 ev.oth) from rfl)
    have e3 := (hbE.cell 3).trans (show (ev.cells (.slice D ev.data.length cd))[3]? = some (.int .i64 ev.vault) from rfl)
    have e4 := (hbE.cell 4).trans (show (ev.cells (.slice D ev.data.length cd))[4]? = some (.string (ba ev.path)) from rfl)
    have e5 := (hbE.cell 5).trans (show (ev.cells (.slice D ev.data.length cd))[5]? = some (.string (ba ev.dest)) from rfl)
    have e6 := (hbE.cell 6).trans (show (ev.cells (.slice D ev.data.length cd))[6]? = some (.slice D ev.data.length cd) from rfl)
    have e7 := (hbE.cell 7).trans (show (ev.cells (.slice D ev.data.length cd))[7]? = some (.int .i64 ev.num) from rfl)
    have e8 := (hbE.cell 8).trans (show (ev.cells (.slice D ev.data.length cd))[8]? = some (.int .i64 ev.cut) from rfl)
    have e9 := (hbE.cell 9).trans (show (ev.cells (.slice D ev.data.length cd))[9]? = some (.bool ev.on) from rfl)
    have r0 := (bzr.cell 0).trans (show ((ev0 0).cells (.slice none 0 0))[0]? = some (.int .i64 0) from rfl)
    have r1 := (bzr.cell 1).trans (show ((ev0 0).cells (.slice none 0 0))[1]? = some (.int .i64 0) from rfl)
    have r2 := (bzr.cell 2).trans (show ((ev0 0).cells (.slice none 0 0))[2]? = some (.int .i64 0) from rfl)
    have r3 := (bzr.cell 3).trans (show ((ev0 0).cells (.slice none 0 0))[3]? = some (.int .i64 0) from rfl)
    have r4 := (bzr.cell 4).trans (show ((ev0 0).cells (.slice none 0 0))[4]? = some (.string (ba [])) from rfl)
    have r5 := (bzr.cell 5).trans (show ((ev0 0).cells (.slice none 0 0))[5]? = some (.string (ba [])) from rfl)
    have r6 := (bzr.cell 6).trans (show ((ev0 0).cells (.slice none 0 0))[6]? = some (.slice none 0 0) from rfl)
    have r7 := (bzr.cell 7).trans (show ((ev0 0).cells (.slice none 0 0))[7]? = some (.int .i64 0) from rfl)
    have r8 := (bzr.cell 8).trans (show ((ev0 0).cells (.slice none 0 0))[8]? = some (.int .i64 0) from rfl)
    have r9 := (bzr.cell 9).trans (show ((ev0 0).cells (.slice none 0 0))[9]? = some (.bool false) from rfl)
    have HKZ := Lib.hid kz
    have HBZ := Lib.hid bzr
    clear kz bzr hbE
    go_wp2_with fail
    have hbz := blk_sets HBZ.out (evList ev (.slice D ev.data.length cd))
    rw [evList_cells] at hbz
    refine bodyPost_ret (results_hap (cs := ev.cells (.slice D ev.data.length cd)) rfl rfl hbz) rfl ?_
    rw [HR.out]
    refine ⟨.slice D ev.data.length cd, D, cd, ?_, rfl, ?_, ?_⟩
    · exact rfl
    · exact (kept_sets (F := fun x => x = w.heap.size + 1) (Kept.refl _ wz) (w.heap.size + 1) (.inl rfl) (evList ev (.slice D ev.data.length cd))).src HRD.out (fun ad e _ => by have := HDN.out ad e; show ¬ ad.block = w.heap.size + 1; omega)
    · exact below_sets (HBW.out.trans (HKZ.out.below (B := w.heap.size) HBW.out.size (fun x h => by subst h; omega))) (w.heap.size + 1) (by omega) (evList ev (.slice D ev.data.length cd))
  · skip
    have q0 : ((ba [100, 114, 111, 112]).toList == [119, 114, 105, 116, 101]) = false := by rw [cmp_ba]; decide
    have q1 : ((ba [100, 114, 111, 112]).toList == [114, 101, 109, 111, 118, 101]) = false := by rw [cmp_ba]; decide
    have q2 : ((ba [100, 114, 111, 112]).toList == [109, 111, 118, 101]) = false := by rw [cmp_ba]; decide
    have q3 : ((ba [100, 114, 111, 112]).toList == [98, 97, 99, 107, 117, 112]) = false := by rw [cmp_ba]; decide
    have q4 : ((ba [100, 114, 111, 112]).toList == [114, 101, 116, 97, 105, 110]) = false := by rw [cmp_ba]; decide
    have q5 : ((ba [100, 114, 111, 112]).toList == [112, 97, 115, 115]) = false := by rw [cmp_ba]; decide
    have q6 : ((ba [100, 114, 111, 112]).toList == [99, 108, 111, 99, 107]) = false := by rw [cmp_ba]; decide
    have q7 : ((ba [100, 114, 111, 112]).toList == [100, 114, 111, 112]) = true := by rw [cmp_ba]; decide
    obtain ⟨a0, a1, rfl⟩ := len2 (valid_len (n := 2) HV.out (by decide +kernel))
    rw [show kf [100, 114, 111, 112] 15 = 9 by decide +kernel] at hbk
    obtain ⟨xb, xo, rfl, hxb, _⟩ := hAr.at_ (k := 0) (by simp)
    have e0 : wr.cell? ⟨w.heap.size, 0, none⟩ = some (.string (ba [100, 114, 111, 112])) := (bxr.cell 0).trans rfl
    have e1 : wr.cell? ⟨w.heap.size, 1, none⟩ = some (.slice (some ⟨xb, xo, none⟩) 2 c) := (bxr.cell 1).trans rfl
    have hxe : xb ≠ eb := by have := HAL.out _ rfl (by simp); simp only at this; omega
    have hse : w.heap.size ≠ eb := by omega
    have CN0 := Lib.hid (fun W (k : Kept NoF wr W) => (show Calls Tryz.prog 47 #[.agg #[.string (ba [100, 114, 111, 112]), .slice (some ⟨xb, xo, none⟩) 2 c], .int .i64 0] W fun e W' => e = .returned (.int .i64 (numR a0).1) ∧ Kept NoF wr W' ∧ (∀ i, W'.frozen? ⟨eb, i, none⟩ = false) ∧ W'.cell? ⟨eb, 1, none⟩ = some (.int .i64 0) ∧ W'.cell? ⟨eb, 7, none⟩ = some (.int .i64 0)  from
      (rnumber_any (ba [100, 114, 111, 112]) _ c [a0, a1] W (hAr.same k) 0 (by simp) HS1.out).mono (fun e W' (h : _ ∧ _) => by
        have k2 := k.trans (Kept.of_below (F := NoF) h.2) (fun _ h => .inl h)
        have hb := k2.blk hbk (fun h => h)
        exact ⟨h.1, k2, fun i => hb.frozen i, (hb.cell 1).trans rfl, (hb.cell 7).trans rfl⟩)))
    have CN1 := Lib.hid (fun W (k : Kept NoF wr W) => (show Calls Tryz.prog 47 #[.agg #[.string (ba [100, 114, 111, 112]), .slice (some ⟨xb, xo, none⟩) 2 c], .int .i64 1] W fun e W' => e = .returned (.int .i64 (numR a1).1) ∧ Kept NoF wr W' ∧ (∀ i, W'.frozen? ⟨eb, i, none⟩ = false) ∧ W'.cell? ⟨eb, 1, none⟩ = some (.int .i64 0) ∧ W'.cell? ⟨eb, 7, none⟩ = some (.int .i64 0)  from
      (rnumber_any (ba [100, 114, 111, 112]) _ c [a0, a1] W (hAr.same k) 1 (by simp) HS1.out).mono (fun e W' (h : _ ∧ _) => by
        have k2 := k.trans (Kept.of_below (F := NoF) h.2) (fun _ h => .inl h)
        have hb := k2.blk hbk (fun h => h)
        exact ⟨h.1, k2, fun i => hb.frozen i, (hb.cell 1).trans rfl, (hb.cell 7).trans rfl⟩)))
    have SA := Lib.hid (fun W (k : Kept NoF wr W) => (⟨k.cell e0 (fun h => h), k.cell e1 (fun h => h)⟩ : (fun (w' : World) => w'.cell? ⟨w.heap.size, 0, none⟩ = some (.string (ba [100, 114, 111, 112])) ∧ w'.cell? ⟨w.heap.size, 1, none⟩ = some (.slice (some ⟨xb, xo, none⟩) 2 c)) W))
    have SB := Lib.hid (fun (W : World) (i : Nat) (u : Value) (h : (fun (w' : World) => w'.cell? ⟨w.heap.size, 0, none⟩ = some (.string (ba [100, 114, 111, 112])) ∧ w'.cell? ⟨w.heap.size, 1, none⟩ = some (.slice (some ⟨xb, xo, none⟩) 2 c)) W) => (⟨cell_set_far h.1 hse, cell_set_far h.2 hse⟩ : (fun (w' : World) => w'.cell? ⟨w.heap.size, 0, none⟩ = some (.string (ba [100, 114, 111, 112])) ∧ w'.cell? ⟨w.heap.size, 1, none⟩ = some (.slice (some ⟨xb, xo, none⟩) 2 c)) (W.setCell ⟨eb, i, none⟩ u)))
    have k0 := (Kept.refl NoF wr).drew
    go_upto_region 25 with fail
    refine wp_region_noPanic ?_
    refine wp_region_held_drew (S := (fun (w' : World) => w'.cell? ⟨w.heap.size, 0, none⟩ = some (.string (ba [100, 114, 111, 112])) ∧ w'.cell? ⟨w.heap.size, 1, none⟩ = some (.slice (some ⟨xb, xo, none⟩) 2 c))) (by kernel_rfl) ?_ (fun hHeld => ?_)
    · exact SA.out _ k0
    refine wpAnyH_take (i := 0) (v := ?_) rfl (by kernel_rfl) (by kernel_rfl) (by kernel_rfl) (fun _ _ _ h => h) (Or.inl ⟨by rfl, ?_⟩) hHeld ?_
    rotate_left
    · (intro w hSw; (try dsimp only at hSw); go_simp; try (with_reducible rfl))
    simp only [Act.put, List.getElem_toArray, List.getElem_cons_zero, List.setIfInBounds_toArray, List.set_cons_zero, List.set_cons_succ]
    refine wpAnyH_take (i := 2) (v := ?_) rfl (by kernel_rfl) (by kernel_rfl) (by kernel_rfl) (fun _ _ _ h => h) (Or.inl ⟨by rfl, ?_⟩) hHeld ?_
    rotate_left
    · (intro w hSw; (try dsimp only at hSw); go_simp; try (with_reducible rfl))
    simp only [Act.put, List.getElem_toArray, List.getElem_cons_zero, List.getElem_cons_succ, List.setIfInBounds_toArray, List.set_cons_zero, List.set_cons_succ]
    refine wpAnyH_ready (rs := [1]) (by kernel_rfl) (by simp) ?_
    refine AllReadyH.cons rfl (fun K hK => ?_) AllReadyH.nil
    go_simp
    refine (CN0.out _ k0).mono ?_
    rintro e w0 ⟨rfl, k0, z0, f1, f7⟩
    go_wp2_with fail
    refine hK.out _ _ (SA.out _ k0) (fun hHeld => ?_)
    clear hK K
    try simp only [Act.put, List.getElem_toArray, List.getElem_cons_zero, List.getElem_cons_succ, List.setIfInBounds_toArray, List.set_cons_zero, List.set_cons_succ]
    refine wpAnyH_take (i := 4) (v := ?_) rfl (by kernel_rfl) (by kernel_rfl) (by kernel_rfl) (fun _ _ _ h => h) (Or.inl ⟨by rfl, ?_⟩) hHeld ?_
    rotate_left
    · (intro w hSw; (try dsimp only at hSw); go_simp; try (with_reducible rfl))
    simp only [Act.put, List.getElem_toArray, List.getElem_cons_zero, List.getElem_cons_succ, List.setIfInBounds_toArray, List.set_cons_zero, List.set_cons_succ]
    refine wpAnyH_ready (rs := [3]) (by kernel_rfl) (by simp) ?_
    refine AllReadyH.cons rfl (fun K hK => ?_) AllReadyH.nil
    go_simp
    refine (CN1.out _ k0).mono ?_
    rintro e w1 ⟨rfl, k1, z1, f1, f7⟩
    go_wp2_with fail
    refine hK.out _ _ (SA.out _ k1) (fun hHeld => ?_)
    clear hK K
    try simp only [Act.put, List.getElem_toArray, List.getElem_cons_zero, List.getElem_cons_succ, List.setIfInBounds_toArray, List.set_cons_zero, List.set_cons_succ]
    refine wpAnyH_ready (rs := [5]) (by kernel_rfl) (by simp) ?_
    refine AllReadyH.cons rfl (fun K hK => ?_) AllReadyH.nil
    go_simp
    refine hK.out _ _ (SB.out _ _ _ hHeld) (fun hHeld => ?_)
    clear hK K
    try simp only [Act.put, List.getElem_toArray, List.getElem_cons_zero, List.getElem_cons_succ, List.setIfInBounds_toArray, List.set_cons_zero, List.set_cons_succ]
    refine wpAnyH_take (i := 6) (v := ?_) rfl (by kernel_rfl) (by kernel_rfl) (by kernel_rfl) (fun _ _ _ h => h) (Or.inl ⟨by rfl, ?_⟩) hHeld ?_
    rotate_left
    · (intro w hSw; (try dsimp only at hSw); go_simp; try (with_reducible rfl))
    simp only [Act.put, List.getElem_toArray, List.getElem_cons_zero, List.getElem_cons_succ, List.setIfInBounds_toArray, List.set_cons_zero, List.set_cons_succ]
    refine wpAnyH_ready (rs := [7]) (by kernel_rfl) (by simp) ?_
    refine AllReadyH.cons rfl (fun K hK => ?_) AllReadyH.nil
    go_simp
    refine hK.out _ _ (SB.out _ _ _ hHeld) (fun hHeld => ?_)
    clear hK K
    try simp only [Act.put, List.getElem_toArray, List.getElem_cons_zero, List.getElem_cons_succ, List.setIfInBounds_toArray, List.set_cons_zero, List.set_cons_succ]
    refine wpAnyH_done (by kernel_rfl) ?_ _
    refine NoPanic.normal ?_
    have hbE : Blk ((w1.setCell ⟨eb, 1, none⟩ (.int .i64 (numR a0).1)).setCell ⟨eb, 7, none⟩ (.int .i64 (numR a1).1)) eb 50 (({ ev0 9 with dev := nv a0, num := nv a1 } : EvD).cells (.slice none 0 0)) := ((k1.blk hbk (fun h => h)).set_ 1 (.int .i64 (numR a0).1)).set_ 7 (.int .i64 (numR a1).1)
    have kz : Kept (fun x => x = eb) wr ((w1.setCell ⟨eb, 1, none⟩ (.int .i64 (numR a0).1)).setCell ⟨eb, 7, none⟩ (.int .i64 (numR a1).1)) := ((k1.mono (G := fun x => x = eb) (fun _ h => h.elim)).setCell (p := ⟨eb, 1, none⟩) (.inl rfl) (.int .i64 (numR a0).1)).setCell (p := ⟨eb, 7, none⟩) (.inl rfl) (.int .i64 (numR a1).1)
    have hdE : DatAt ((w1.setCell ⟨eb, 1, none⟩ (.int .i64 (numR a0).1)).setCell ⟨eb, 7, none⟩ (.int .i64 (numR a1).1)) eb (.slice none 0 0) ({ ev0 9 with dev := nv a0, num := nv a1 } : EvD).data := DatAt.nil _ _
    generalize (w1.setCell ⟨eb, 1, none⟩ (.int .i64 (numR a0).1)).setCell ⟨eb, 7, none⟩ (.int .i64 (numR a1).1) = wz at hbE kz hdE ⊢
    have HR : Hid (evR [100, 114, 111, 112] [a0, a1] = (({ ev0 9 with dev := nv a0, num := nv a1 } : EvD), 0)) := Lib.hid (HEV.out.trans rfl)
    obtain ⟨D, cd, hv, hrd, hdn⟩ := hdE
    rw [hv] at hbE
    have HRD := Lib.hid hrd
    have HDN := Lib.hid hdn
    clear hrd hdn hv
    generalize ({ ev0 9 with dev := nv a0, num := nv a1 } : EvD) = ev at hbE HR HRD ⊢
    have bzr := kz.blk brr (by show ¬ w.heap.size + 1 = eb; omega)
    have zr : ∀ i, wz.frozen? ⟨w.heap.size + 1, i, none⟩ = false := fun i => bzr.frozen i
    have e0 := (hbE.cell 0).trans (show (ev.cells (.slice D ev.data.length cd))[0]? = some (.int .i64 ev.kind) from rfl)
    have e1 := (hbE.cell 1).trans (show (ev.cells (.slice D ev.data.length cd))[1]? = some (.int .i64 ev.dev) from rfl)
    have e2 := (hbE.cell 2).trans (show (ev.cells (.slice D ev.data.length cd))[2]? = some (.int .i64 ev.oth) from rfl)
    have e3 := (hbE.cell 3).trans (show (ev.cells (.slice D ev.data.length cd))[3]? = some (.int .i64 ev.vault) from rfl)
    have e4 := (hbE.cell 4).trans (show (ev.cells (.slice D ev.data.length cd))[4]? = some (.string (ba ev.path)) from rfl)
    have e5 := (hbE.cell 5).trans (show (ev.cells (.slice D ev.data.length cd))[5]? = some (.string (ba ev.dest)) from rfl)
    have e6 := (hbE.cell 6).trans (show (ev.cells (.slice D ev.data.length cd))[6]? = some (.slice D ev.data.length cd) from rfl)
    have e7 := (hbE.cell 7).trans (show (ev.cells (.slice D ev.data.length cd))[7]? = some (.int .i64 ev.num) from rfl)
    have e8 := (hbE.cell 8).trans (show (ev.cells (.slice D ev.data.length cd))[8]? = some (.int .i64 ev.cut) from rfl)
    have e9 := (hbE.cell 9).trans (show (ev.cells (.slice D ev.data.length cd))[9]? = some (.bool ev.on) from rfl)
    have r0 := (bzr.cell 0).trans (show ((ev0 0).cells (.slice none 0 0))[0]? = some (.int .i64 0) from rfl)
    have r1 := (bzr.cell 1).trans (show ((ev0 0).cells (.slice none 0 0))[1]? = some (.int .i64 0) from rfl)
    have r2 := (bzr.cell 2).trans (show ((ev0 0).cells (.slice none 0 0))[2]? = some (.int .i64 0) from rfl)
    have r3 := (bzr.cell 3).trans (show ((ev0 0).cells (.slice none 0 0))[3]? = some (.int .i64 0) from rfl)
    have r4 := (bzr.cell 4).trans (show ((ev0 0).cells (.slice none 0 0))[4]? = some (.string (ba [])) from rfl)
    have r5 := (bzr.cell 5).trans (show ((ev0 0).cells (.slice none 0 0))[5]? = some (.string (ba [])) from rfl)
    have r6 := (bzr.cell 6).trans (show ((ev0 0).cells (.slice none 0 0))[6]? = some (.slice none 0 0) from rfl)
    have r7 := (bzr.cell 7).trans (show ((ev0 0).cells (.slice none 0 0))[7]? = some (.int .i64 0) from rfl)
    have r8 := (bzr.cell 8).trans (show ((ev0 0).cells (.slice none 0 0))[8]? = some (.int .i64 0) from rfl)
    have r9 := (bzr.cell 9).trans (show ((ev0 0).cells (.slice none 0 0))[9]? = some (.bool false) from rfl)
    have HKZ := Lib.hid kz
    have HBZ := Lib.hid bzr
    clear kz bzr hbE
    go_wp2_with fail
    have hbz := blk_sets HBZ.out (evList ev (.slice D ev.data.length cd))
    rw [evList_cells] at hbz
    refine bodyPost_ret (results_hap (cs := ev.cells (.slice D ev.data.length cd)) rfl rfl hbz) rfl ?_
    rw [HR.out]
    refine ⟨.slice D ev.data.length cd, D, cd, ?_, rfl, ?_, ?_⟩
    · exact rfl
    · exact (kept_sets (F := fun x => x = w.heap.size + 1) (Kept.refl _ wz) (w.heap.size + 1) (.inl rfl) (evList ev (.slice D ev.data.length cd))).src HRD.out (fun ad e _ => by have := HDN.out ad e; show ¬ ad.block = w.heap.size + 1; omega)
    · exact below_sets (HBW.out.trans (HKZ.out.below (B := w.heap.size) HBW.out.size (fun x h => by subst h; omega))) (w.heap.size + 1) (by omega) (evList ev (.slice D ev.data.length cd))
  · skip
    have q0 : ((ba [102, 97, 105, 108]).toList == [119, 114, 105, 116, 101]) = false := by rw [cmp_ba]; decide
    have q1 : ((ba [102, 97, 105, 108]).toList == [114, 101, 109, 111, 118, 101]) = false := by rw [cmp_ba]; decide
    have q2 : ((ba [102, 97, 105, 108]).toList == [109, 111, 118, 101]) = false := by rw [cmp_ba]; decide
    have q3 : ((ba [102, 97, 105, 108]).toList == [98, 97, 99, 107, 117, 112]) = false := by rw [cmp_ba]; decide
    have q4 : ((ba [102, 97, 105, 108]).toList == [114, 101, 116, 97, 105, 110]) = false := by rw [cmp_ba]; decide
    have q5 : ((ba [102, 97, 105, 108]).toList == [112, 97, 115, 115]) = false := by rw [cmp_ba]; decide
    have q6 : ((ba [102, 97, 105, 108]).toList == [99, 108, 111, 99, 107]) = false := by rw [cmp_ba]; decide
    have q7 : ((ba [102, 97, 105, 108]).toList == [100, 114, 111, 112]) = false := by rw [cmp_ba]; decide
    have q8 : ((ba [102, 97, 105, 108]).toList == [109, 101, 101, 116]) = false := by rw [cmp_ba]; decide
    have q9 : ((ba [102, 97, 105, 108]).toList == [108, 111, 115, 101]) = false := by rw [cmp_ba]; decide
    have q10 : ((ba [102, 97, 105, 108]).toList == [115, 101, 116, 116, 108, 101]) = false := by rw [cmp_ba]; decide
    have q11 : ((ba [102, 97, 105, 108]).toList == [102, 97, 105, 108]) = true := by rw [cmp_ba]; decide
    obtain ⟨a0, a1, a2, a3, rfl⟩ := len4 (valid_len (n := 4) HV.out (by decide +kernel))
    rw [show kf [102, 97, 105, 108] 15 = 10 by decide +kernel] at hbk
    obtain ⟨xb, xo, rfl, hxb, _⟩ := hAr.at_ (k := 0) (by simp)
    have cx3 : wr.cell? ⟨xb, xo + 3, none⟩ = some (.string (ba a3)) := by
      obtain ⟨xb', xo', e, _, h⟩ := hAr.at_ (k := 3) (by simp)
      injection e with e
      injection e with e1 e2
      rw [e1, e2]
      exact h
    have e0 : wr.cell? ⟨w.heap.size, 0, none⟩ = some (.string (ba [102, 97, 105, 108])) := (bxr.cell 0).trans rfl
    have e1 : wr.cell? ⟨w.heap.size, 1, none⟩ = some (.slice (some ⟨xb, xo, none⟩) 4 c) := (bxr.cell 1).trans rfl
    have hxe : xb ≠ eb := by have := HAL.out _ rfl (by simp); simp only at this; omega
    have hse : w.heap.size ≠ eb := by omega
    have CN0 := Lib.hid (fun W (k : Kept NoF wr W) => (show Calls Tryz.prog 47 #[.agg #[.string (ba [102, 97, 105, 108]), .slice (some ⟨xb, xo, none⟩) 4 c], .int .i64 0] W fun e W' => e = .returned (.int .i64 (numR a0).1) ∧ Kept NoF wr W' ∧ (∀ i, W'.frozen? ⟨eb, i, none⟩ = false) ∧ W'.cell? ⟨eb, 1, none⟩ = some (.int .i64 0) ∧ W'.cell? ⟨eb, 7, none⟩ = some (.int .i64 0) ∧ W'.cell? ⟨eb, 8, none⟩ = some (.int .i64 0)  from
      (rnumber_any (ba [102, 97, 105, 108]) _ c [a0, a1, a2, a3] W (hAr.same k) 0 (by simp) HS1.out).mono (fun e W' (h : _ ∧ _) => by
        have k2 := k.trans (Kept.of_below (F := NoF) h.2) (fun _ h => .inl h)
        have hb := k2.blk hbk (fun h => h)
        exact ⟨h.1, k2, fun i => hb.frozen i, (hb.cell 1).trans rfl, (hb.cell 7).trans rfl, (hb.cell 8).trans rfl⟩)))
    have CN1 := Lib.hid (fun W (k : Kept NoF wr W) => (show Calls Tryz.prog 47 #[.agg #[.string (ba [102, 97, 105, 108]), .slice (some ⟨xb, xo, none⟩) 4 c], .int .i64 1] W fun e W' => e = .returned (.int .i64 (numR a1).1) ∧ Kept NoF wr W' ∧ (∀ i, W'.frozen? ⟨eb, i, none⟩ = false) ∧ W'.cell? ⟨eb, 1, none⟩ = some (.int .i64 0) ∧ W'.cell? ⟨eb, 7, none⟩ = some (.int .i64 0) ∧ W'.cell? ⟨eb, 8, none⟩ = some (.int .i64 0)  from
      (rnumber_any (ba [102, 97, 105, 108]) _ c [a0, a1, a2, a3] W (hAr.same k) 1 (by simp) HS1.out).mono (fun e W' (h : _ ∧ _) => by
        have k2 := k.trans (Kept.of_below (F := NoF) h.2) (fun _ h => .inl h)
        have hb := k2.blk hbk (fun h => h)
        exact ⟨h.1, k2, fun i => hb.frozen i, (hb.cell 1).trans rfl, (hb.cell 7).trans rfl, (hb.cell 8).trans rfl⟩)))
    have CN2 := Lib.hid (fun W (k : Kept NoF wr W) => (show Calls Tryz.prog 47 #[.agg #[.string (ba [102, 97, 105, 108]), .slice (some ⟨xb, xo, none⟩) 4 c], .int .i64 2] W fun e W' => e = .returned (.int .i64 (numR a2).1) ∧ Kept NoF wr W' ∧ (∀ i, W'.frozen? ⟨eb, i, none⟩ = false) ∧ W'.cell? ⟨eb, 1, none⟩ = some (.int .i64 0) ∧ W'.cell? ⟨eb, 7, none⟩ = some (.int .i64 0) ∧ W'.cell? ⟨eb, 8, none⟩ = some (.int .i64 0)  from
      (rnumber_any (ba [102, 97, 105, 108]) _ c [a0, a1, a2, a3] W (hAr.same k) 2 (by simp) HS1.out).mono (fun e W' (h : _ ∧ _) => by
        have k2 := k.trans (Kept.of_below (F := NoF) h.2) (fun _ h => .inl h)
        have hb := k2.blk hbk (fun h => h)
        exact ⟨h.1, k2, fun i => hb.frozen i, (hb.cell 1).trans rfl, (hb.cell 7).trans rfl, (hb.cell 8).trans rfl⟩)))
    have SA := Lib.hid (fun W (k : Kept NoF wr W) => (⟨k.cell e0 (fun h => h), k.cell e1 (fun h => h)⟩ : (fun (w' : World) => w'.cell? ⟨w.heap.size, 0, none⟩ = some (.string (ba [102, 97, 105, 108])) ∧ w'.cell? ⟨w.heap.size, 1, none⟩ = some (.slice (some ⟨xb, xo, none⟩) 4 c)) W))
    have SB := Lib.hid (fun (W : World) (i : Nat) (u : Value) (h : (fun (w' : World) => w'.cell? ⟨w.heap.size, 0, none⟩ = some (.string (ba [102, 97, 105, 108])) ∧ w'.cell? ⟨w.heap.size, 1, none⟩ = some (.slice (some ⟨xb, xo, none⟩) 4 c)) W) => (⟨cell_set_far h.1 hse, cell_set_far h.2 hse⟩ : (fun (w' : World) => w'.cell? ⟨w.heap.size, 0, none⟩ = some (.string (ba [102, 97, 105, 108])) ∧ w'.cell? ⟨w.heap.size, 1, none⟩ = some (.slice (some ⟨xb, xo, none⟩) 4 c)) (W.setCell ⟨eb, i, none⟩ u)))
    have k0 := (Kept.refl NoF wr).drew
    go_upto_region 32 with fail
    refine wp_region_noPanic ?_
    refine wp_region_held_drew (S := (fun (w' : World) => w'.cell? ⟨w.heap.size, 0, none⟩ = some (.string (ba [102, 97, 105, 108])) ∧ w'.cell? ⟨w.heap.size, 1, none⟩ = some (.slice (some ⟨xb, xo, none⟩) 4 c))) (by kernel_rfl) ?_ (fun hHeld => ?_)
    · exact SA.out _ k0
    refine wpAnyH_take (i := 0) (v := ?_) rfl (by kernel_rfl) (by kernel_rfl) (by kernel_rfl) (fun _ _ _ h => h) (Or.inl ⟨by rfl, ?_⟩) hHeld ?_
    rotate_left
    · (intro w hSw; (try dsimp only at hSw); go_simp; try (with_reducible rfl))
    simp only [Act.put, List.getElem_toArray, List.getElem_cons_zero, List.setIfInBounds_toArray, List.set_cons_zero, List.set_cons_succ]
    refine wpAnyH_take (i := 2) (v := ?_) rfl (by kernel_rfl) (by kernel_rfl) (by kernel_rfl) (fun _ _ _ h => h) (Or.inl ⟨by rfl, ?_⟩) hHeld ?_
    rotate_left
    · (intro w hSw; (try dsimp only at hSw); go_simp; try (with_reducible rfl))
    simp only [Act.put, List.getElem_toArray, List.getElem_cons_zero, List.getElem_cons_succ, List.setIfInBounds_toArray, List.set_cons_zero, List.set_cons_succ]
    refine wpAnyH_take (i := 4) (v := ?_) rfl (by kernel_rfl) (by kernel_rfl) (by kernel_rfl) (fun _ _ _ h => h) (Or.inl ⟨by rfl, ?_⟩) hHeld ?_
    rotate_left
    · (intro w hSw; (try dsimp only at hSw); go_simp; try (with_reducible rfl))
    simp only [Act.put, List.getElem_toArray, List.getElem_cons_zero, List.getElem_cons_succ, List.setIfInBounds_toArray, List.set_cons_zero, List.set_cons_succ]
    refine wpAnyH_ready (rs := [1]) (by kernel_rfl) (by simp) ?_
    refine AllReadyH.cons rfl (fun K hK => ?_) AllReadyH.nil
    go_simp
    refine (CN0.out _ k0).mono ?_
    rintro e w0c ⟨rfl, k0, z0, f1, f7, f8⟩
    go_wp2_with fail
    refine hK.out _ _ (SA.out _ k0) (fun hHeld => ?_)
    clear hK K
    try simp only [Act.put, List.getElem_toArray, List.getElem_cons_zero, List.getElem_cons_succ, List.setIfInBounds_toArray, List.set_cons_zero, List.set_cons_succ]
    refine wpAnyH_take (i := 6) (v := ?_) rfl (by kernel_rfl) (by kernel_rfl) (by kernel_rfl) (fun _ _ _ h => h) (Or.inl ⟨by rfl, ?_⟩) hHeld ?_
    rotate_left
    · (intro w hSw; (try dsimp only at hSw); go_simp; try (with_reducible rfl))
    simp only [Act.put, List.getElem_toArray, List.getElem_cons_zero, List.getElem_cons_succ, List.setIfInBounds_toArray, List.set_cons_zero, List.set_cons_succ]
    refine wpAnyH_ready (rs := [3]) (by kernel_rfl) (by simp) ?_
    refine AllReadyH.cons rfl (fun K hK => ?_) AllReadyH.nil
    go_simp
    refine (CN1.out _ k0).mono ?_
    rintro e w1c ⟨rfl, k1, z1, f1, f7, f8⟩
    go_wp2_with fail
    refine hK.out _ _ (SA.out _ k1) (fun hHeld => ?_)
    clear hK K
    try simp only [Act.put, List.getElem_toArray, List.getElem_cons_zero, List.getElem_cons_succ, List.setIfInBounds_toArray, List.set_cons_zero, List.set_cons_succ]
    refine wpAnyH_ready (rs := [5]) (by kernel_rfl) (by simp) ?_
    refine AllReadyH.cons rfl (fun K hK => ?_) AllReadyH.nil
    go_simp
    refine (CN2.out _ k1).mono ?_
    rintro e w2c ⟨rfl, k2, z2, f1, f7, f8⟩
    go_wp2_with fail
    refine hK.out _ _ (SA.out _ k2) (fun hHeld => ?_)
    clear hK K
    try simp only [Act.put, List.getElem_toArray, List.getElem_cons_zero, List.getElem_cons_succ, List.setIfInBounds_toArray, List.set_cons_zero, List.set_cons_succ]
    refine wpAnyH_ready (rs := [7]) (by kernel_rfl) (by simp) ?_
    refine AllReadyH.cons rfl (fun K hK => ?_) AllReadyH.nil
    go_simp
    refine hK.out _ _ (SB.out _ _ _ hHeld) (fun hHeld => ?_)
    clear hK K
    try simp only [Act.put, List.getElem_toArray, List.getElem_cons_zero, List.getElem_cons_succ, List.setIfInBounds_toArray, List.set_cons_zero, List.set_cons_succ]
    refine wpAnyH_take (i := 8) (v := ?_) rfl (by kernel_rfl) (by kernel_rfl) (by kernel_rfl) (fun _ _ _ h => h) (Or.inl ⟨by rfl, ?_⟩) hHeld ?_
    rotate_left
    · (intro w hSw; (try dsimp only at hSw); go_simp; try (with_reducible rfl))
    simp only [Act.put, List.getElem_toArray, List.getElem_cons_zero, List.getElem_cons_succ, List.setIfInBounds_toArray, List.set_cons_zero, List.set_cons_succ]
    refine wpAnyH_ready (rs := [9]) (by kernel_rfl) (by simp) ?_
    refine AllReadyH.cons rfl (fun K hK => ?_) AllReadyH.nil
    go_simp
    refine hK.out _ _ (SB.out _ _ _ hHeld) (fun hHeld => ?_)
    clear hK K
    try simp only [Act.put, List.getElem_toArray, List.getElem_cons_zero, List.getElem_cons_succ, List.setIfInBounds_toArray, List.set_cons_zero, List.set_cons_succ]
    refine wpAnyH_take (i := 10) (v := ?_) rfl (by kernel_rfl) (by kernel_rfl) (by kernel_rfl) (fun _ _ _ h => h) (Or.inl ⟨by rfl, ?_⟩) hHeld ?_
    rotate_left
    · (intro w hSw; (try dsimp only at hSw); go_simp; try (with_reducible rfl))
    simp only [Act.put, List.getElem_toArray, List.getElem_cons_zero, List.getElem_cons_succ, List.setIfInBounds_toArray, List.set_cons_zero, List.set_cons_succ]
    refine wpAnyH_ready (rs := [11]) (by kernel_rfl) (by simp) ?_
    refine AllReadyH.cons rfl (fun K hK => ?_) AllReadyH.nil
    go_simp
    refine hK.out _ _ (SB.out _ _ _ hHeld) (fun hHeld => ?_)
    clear hK K
    try simp only [Act.put, List.getElem_toArray, List.getElem_cons_zero, List.getElem_cons_succ, List.setIfInBounds_toArray, List.set_cons_zero, List.set_cons_succ]
    refine wpAnyH_done (by kernel_rfl) ?_ _
    refine NoPanic.normal ?_
    have hbE : Blk (((w2c.setCell ⟨eb, 1, none⟩ (.int .i64 (numR a0).1)).setCell ⟨eb, 7, none⟩ (.int .i64 (numR a1).1)).setCell ⟨eb, 8, none⟩ (.int .i64 (numR a2).1)) eb 50 (({ ev0 10 with dev := nv a0, num := nv a1, cut := nv a2 } : EvD).cells (.slice none 0 0)) := (((k2.blk hbk (fun h => h)).set_ 1 (.int .i64 (numR a0).1)).set_ 7 (.int .i64 (numR a1).1)).set_ 8 (.int .i64 (numR a2).1)
    have kz : Kept (fun x => x = eb) wr (((w2c.setCell ⟨eb, 1, none⟩ (.int .i64 (numR a0).1)).setCell ⟨eb, 7, none⟩ (.int .i64 (numR a1).1)).setCell ⟨eb, 8, none⟩ (.int .i64 (numR a2).1)) := (((k2.mono (G := fun x => x = eb) (fun _ h => h.elim)).setCell (p := ⟨eb, 1, none⟩) (.inl rfl) (.int .i64 (numR a0).1)).setCell (p := ⟨eb, 7, none⟩) (.inl rfl) (.int .i64 (numR a1).1)).setCell (p := ⟨eb, 8, none⟩) (.inl rfl) (.int .i64 (numR a2).1)
    generalize ((w2c.setCell ⟨eb, 1, none⟩ (.int .i64 (numR a0).1)).setCell ⟨eb, 7, none⟩ (.int .i64 (numR a1).1)).setCell ⟨eb, 8, none⟩ (.int .i64 (numR a2).1) = w6 at hbE kz ⊢
    have HEV' : Hid (evR [102, 97, 105, 108] [a0, a1, a2, a3] = (({ ({ ev0 10 with dev := nv a0, num := nv a1, cut := nv a2 } : EvD) with data := a3.map (· - 48) } : EvD), 0)) := Lib.hid (HEV.out.trans rfl)
    clear HEV
    have hdz : ({ ev0 10 with dev := nv a0, num := nv a1, cut := nv a2 } : EvD).data = [] := rfl
    generalize ({ ev0 10 with dev := nv a0, num := nv a1, cut := nv a2 } : EvD) = ev1 at hbE HEV' hdz ⊢
    have brz := kz.blk brr (by show ¬ w.heap.size + 1 = eb; omega)
    have HBZ0 : Hid (Below w.heap.size w w6) := Lib.hid (HBW.out.trans (kz.below (B := w.heap.size) HBW.out.size (fun x h => by subst h; omega)))
    have d1 := kz.cell e1 hse
    have d3 := kz.cell cx3 hxe
    have h6z := HBZ0.out.size
    have heb6 := hbE.lt
    obtain ⟨s, hs⟩ : ∃ s, s = ba a3 := ⟨_, rfl⟩
    rw [← hs] at d3
    have hst : s.data.toList = a3 := by rw [hs, ba_toList]
    have hsl : s.size = a3.length := by rw [hs, ba_size]
    have hs65 : a3.length ≤ 65536 := HS.out a3 (by simp)
    clear hs SA SB CN0 CN1 CN2 z0 z1 z2 f1 f7 f8 k0 k1 k2 hHeld kz brr hbk kr bxr hAr cx3 e0 e1 HV
    obtain ⟨i0, hi0, hz0, hz1, hz2⟩ := info_parts info5
    go_wp2_with fail
    go_loopw [7] (FlagR w6 eb ev1 a3) (fun i _ => a3.length - (intOf i).toNat)
    case atStart => exact ⟨0, .slice none 0 0, Nat.zero_le _, rfl, by rw [flag_zero hdz]; exact hbE, ⟨rfl, .inl ⟨rfl, rfl⟩⟩, Kept.refl _ _⟩
    case round =>
      clear hbE
      rename_i wr0 _
      obtain ⟨i, u, hi', rfl, hbx, hown, kx⟩ := hrel
      have hxz := kx.size
      have g1 := kx.cell d1 hse
      have g3 := kx.cell d3 hxe
      by_cases hil : i < s.size
      · have hil' : i < a3.length := by omega
        have i3 : (i : Int) < (s.size : Int) := by omega
        have hwv : IntKind.u8.wrap ((s[i].toNat : Int) - 48) = ((a3[i] - 48).toNat : Int) := by
          have hg : s[i] = a3[i] := by subst hst; rfl
          rw [hg]; exact sub48 _
        have HTS := Lib.hid (show (a3.take (i + 1)).map (· - 48) = (a3.take i).map (· - 48) ++ [a3[i] - 48] by rw [List.take_succ_eq_append_getElem hil', List.map_append]; rfl)
        have hc256 : (a3[i] - 48).toNat < 256 := (a3[i] - 48).toNat_lt
        have hc255 : s[i].toNat < 256 := s[i].toNat_lt
        generalize (a3.take i).map (· - 48) = dd at hbx hown HTS
        generalize (a3[i] - 48) = bb at hwv HTS hc256
        obtain ⟨U, cu, rfl, _, _⟩ := own_form hown
        have c6 : wr.cell? ⟨eb, 6, none⟩ = some (.slice U i cu) := (hbx.cell 6).trans rfl
        have hbd := (Kept.refl NoF wr).drew.blk hbx (fun h => h)
        have hod : wr.drew.ownsRow w6.heap.size 5 1 (.slice U i cu) i (bvs dd) := hown
        have kd := kx.drew
        go_upto_region 36 with fail
        refine wp_region_noPanic ?_
        refine wp_region_until (by kernel_rfl) 12 (fun (w' : World) => w'.cell? ⟨eb, 6, none⟩ = some (.slice U i cu) ∧ w'.cell? ⟨w.heap.size, 1, none⟩ = some (.slice (some ⟨xb, xo, none⟩) 4 c) ∧ w'.cell? ⟨xb, xo + 3, none⟩ = some (.string s)) ⟨c6, g1, g3⟩ (fun hHeld => ?_)
        generalize wr.drew = W0 at hHeld hbd hod kd ⊢
        refine wpAnyU_take (i := 0) (v := ?_) rfl (by kernel_rfl) (by kernel_rfl) (by kernel_rfl) (by kernel_rfl) (by kernel_rfl) (fun _ _ _ h => h) (Or.inl ⟨by rfl, ?_⟩) hHeld ?_
        rotate_left
        · (intro w hSw; (try dsimp only at hSw); go_simp; try (with_reducible rfl))
        simp only [Act.put, List.getElem_toArray, List.getElem_cons_zero, List.setIfInBounds_toArray, List.set_cons_zero, List.set_cons_succ]
        refine wpAnyU_take (i := 1) (v := ?_) rfl (by kernel_rfl) (by kernel_rfl) (by kernel_rfl) (by kernel_rfl) (by kernel_rfl) (fun _ _ _ h => h) (Or.inl ⟨by rfl, ?_⟩) hHeld ?_
        rotate_left
        · (intro w hSw; (try dsimp only at hSw); go_simp; try (with_reducible rfl))
        simp only [Act.put, List.getElem_toArray, List.getElem_cons_zero, List.getElem_cons_succ, List.setIfInBounds_toArray, List.set_cons_zero, List.set_cons_succ]
        refine wpAnyU_take (i := 2) (v := ?_) rfl (by kernel_rfl) (by kernel_rfl) (by kernel_rfl) (by kernel_rfl) (by kernel_rfl) (fun _ _ _ h => h) (Or.inl ⟨by rfl, ?_⟩) hHeld ?_
        rotate_left
        · (intro w hSw; (try dsimp only at hSw); go_simp; try (with_reducible rfl))
        simp only [Act.put, List.getElem_toArray, List.getElem_cons_zero, List.getElem_cons_succ, List.setIfInBounds_toArray, List.set_cons_zero, List.set_cons_succ]
        refine wpAnyU_take (i := 3) (v := ?_) rfl (by kernel_rfl) (by kernel_rfl) (by kernel_rfl) (by kernel_rfl) (by kernel_rfl) (fun _ _ _ h => h) (Or.inl ⟨by rfl, ?_⟩) hHeld ?_
        rotate_left
        · (intro w hSw; (try dsimp only at hSw); go_simp; try (with_reducible rfl))
        simp only [Act.put, List.getElem_toArray, List.getElem_cons_zero, List.getElem_cons_succ, List.setIfInBounds_toArray, List.set_cons_zero, List.set_cons_succ]
        refine wpAnyU_take (i := 4) (v := ?_) rfl (by kernel_rfl) (by kernel_rfl) (by kernel_rfl) (by kernel_rfl) (by kernel_rfl) (fun _ _ _ h => h) (Or.inl ⟨by rfl, ?_⟩) hHeld ?_
        rotate_left
        · (intro w hSw; (try dsimp only at hSw); go_simp; try (with_reducible rfl))
        simp only [Act.put, List.getElem_toArray, List.getElem_cons_zero, List.getElem_cons_succ, List.setIfInBounds_toArray, List.set_cons_zero, List.set_cons_succ]
        refine wpAnyU_take (i := 5) (v := ?_) rfl (by kernel_rfl) (by kernel_rfl) (by kernel_rfl) (by kernel_rfl) (by kernel_rfl) (fun _ _ _ h => h) (Or.inl ⟨by rfl, ?_⟩) hHeld ?_
        rotate_left
        · (intro w hSw; (try dsimp only at hSw); go_simp; try (with_reducible rfl))
        simp only [Act.put, List.getElem_toArray, List.getElem_cons_zero, List.getElem_cons_succ, List.setIfInBounds_toArray, List.set_cons_zero, List.set_cons_succ]
        refine wpAnyU_take (i := 6) (v := ?_) rfl (by kernel_rfl) (by kernel_rfl) (by kernel_rfl) (by kernel_rfl) (by kernel_rfl) (fun _ _ _ h => h) (Or.inl ⟨by rfl, ?_⟩) hHeld ?_
        rotate_left
        · (intro w hSw; (try dsimp only at hSw); go_simp; try (with_reducible rfl))
        simp only [Act.put, List.getElem_toArray, List.getElem_cons_zero, List.getElem_cons_succ, List.setIfInBounds_toArray, List.set_cons_zero, List.set_cons_succ]
        refine wpAnyU_take (i := 7) (v := ?_) rfl (by kernel_rfl) (by kernel_rfl) (by kernel_rfl) (by kernel_rfl) (by kernel_rfl) (fun _ _ _ h => h) (Or.inl ⟨by rfl, ?_⟩) hHeld ?_
        rotate_left
        · (intro w hSw; (try dsimp only at hSw); go_simp; try (with_reducible rfl))
        simp only [Act.put, List.getElem_toArray, List.getElem_cons_zero, List.getElem_cons_succ, List.setIfInBounds_toArray, List.set_cons_zero, List.set_cons_succ]
        refine wpAnyU_take (i := 8) (v := ?_) rfl (by kernel_rfl) (by kernel_rfl) (by kernel_rfl) (by kernel_rfl) (by kernel_rfl) (fun _ _ _ h => h) (Or.inl ⟨by rfl, ?_⟩) hHeld ?_
        rotate_left
        · (intro w hSw; (try dsimp only at hSw); go_simp; try (with_reducible rfl))
        simp only [Act.put, List.getElem_toArray, List.getElem_cons_zero, List.getElem_cons_succ, List.setIfInBounds_toArray, List.set_cons_zero, List.set_cons_succ]
        refine wpAnyU_alone (i := 9) (by kernel_rfl) rfl (fun K hK => ?_)
        go_simp
        try rw [hwv]
        have bz := Blk.new W0 5 #[.int .u8 (bb.toNat : Int)]
        have kz := (Kept.refl NoF W0).alloc (.cells #[.int .u8 (bb.toNat : Int)] 5)
        have ownz := hod.alloc (.cells #[.int .u8 (bb.toNat : Int)] 5)
        have hzW : W0.heap.size < (W0.alloc (.cells #[.int .u8 (bb.toNat : Int)] 5)).heap.size := by simp
        generalize W0.alloc (.cells #[.int .u8 (bb.toNat : Int)] 5) = W1 at bz kz ownz hzW ⊢
        refine hK.out _ _ (fun _ => (⟨kz.cell hHeld.1 (fun h => h), kz.cell hHeld.2.1 (fun h => h), kz.cell hHeld.2.2 (fun h => h)⟩ : (fun (w' : World) => w'.cell? ⟨eb, 6, none⟩ = some (.slice U i cu) ∧ w'.cell? ⟨w.heap.size, 1, none⟩ = some (.slice (some ⟨xb, xo, none⟩) 4 c) ∧ w'.cell? ⟨xb, xo + 3, none⟩ = some (.string s)) W1)) ?_
        clear hK K
        try simp only [Act.put, List.getElem_toArray, List.getElem_cons_zero, List.getElem_cons_succ, List.setIfInBounds_toArray, List.set_cons_zero, List.set_cons_succ]
        have hbz := kz.blk hbd (fun h => h)
        have kz1 := kd.trans kz (fun _ h => h.elim)
        have h1z := kz1.size
        generalize W0.heap.size = zb at bz hzW ⊢
        refine wpAnyU_alone (i := 10) (by kernel_rfl) rfl (fun K hK => ?_)
        refine step_append_any _ rfl _ _ 43 rfl w6.heap.size 5 i0 (.int .u8 0) 1 1 Tryz.underlying43 hi0 hz0 hz1 hz2 rfl (by omega) _ i (bvs dd) rfl ownz W1.heap.size (some ⟨zb, 0, none⟩) 1 1 [.int .u8 (bb.toNat : Int)] rfl ?_ ?_ ?_ ?_ h1z ?_
        · refine ⟨by simp, fun _ => ⟨_, rfl, bz.lt, fun j u hu => ?_⟩⟩
          rw [Addr.add_lit, bz.cell, Nat.zero_add, ← Array.getElem?_toList]
          exact hu
        · intro u hu; simp at hu; subst hu; rfl
        · unfold maxLen; omega
        · omega
        intro v' W2 own2 grw at2
        have hb2 := hbz.grown grw (fun e => own_blk_ne ownz hbz (by decide) e.symm)
        have k2 : Kept (fun x => x = eb) w6 W2 := kz1.grown grw (fun g hg => .inr (ownz.lt g hg).1)
        obtain ⟨g', cap', rfl⟩ := ownsRow_succ own2
        have fz := hb2.frozen 6
        have cc6 := (hb2.cell 6).trans (show (({ ev1 with data := dd } : EvD).cells (.slice U i cu))[6]? = some (.slice U i cu) from rfl)
        have hne9 : g' ≠ eb := fun e => own_blk_ne own2 hb2 (by decide) (by rw [e]; rfl)
        have hS2 : (fun (w' : World) => w'.cell? ⟨eb, 6, none⟩ = some (.slice U i cu) ∧ w'.cell? ⟨w.heap.size, 1, none⟩ = some (.slice (some ⟨xb, xo, none⟩) 4 c) ∧ w'.cell? ⟨xb, xo + 3, none⟩ = some (.string s)) W2 := ⟨cc6, k2.cell d1 hse, k2.cell d3 hxe⟩
        refine hK.out _ _ (fun _ => hS2) ?_
        clear hK K
        try simp only [Act.put, List.getElem_toArray, List.getElem_cons_zero, List.getElem_cons_succ, List.setIfInBounds_toArray, List.set_cons_zero, List.set_cons_succ]
        have hHeld := hS2
        refine wpAnyU_take (i := 11) (v := ?_) rfl (by kernel_rfl) (by kernel_rfl) (by kernel_rfl) (by kernel_rfl) (by kernel_rfl) (fun _ _ _ h => h) (Or.inl ⟨by rfl, ?_⟩) hHeld ?_
        rotate_left
        · (intro w hSw; (try dsimp only at hSw); go_simp; try (with_reducible rfl))
        simp only [Act.put, List.getElem_toArray, List.getElem_cons_zero, List.getElem_cons_succ, List.setIfInBounds_toArray, List.set_cons_zero, List.set_cons_succ]
        refine wpAnyU_alone (i := 12) (by kernel_rfl) rfl (fun K hK => ?_)
        go_simp
        refine hK.out _ _ (fun h => by cases h) ?_
        clear hK K
        try simp only [Act.put, List.getElem_toArray, List.getElem_cons_zero, List.getElem_cons_succ, List.setIfInBounds_toArray, List.set_cons_zero, List.set_cons_succ]
        refine wpAnyU_done (by kernel_rfl) ?_ _
        refine NoPanic.normal ?_
        have hb' := hb2.set_ 6 (.slice (some ⟨g', 0, none⟩) (i + 1) cap')
        have k' := k2.setCell (p := ⟨eb, 6, none⟩) (.inl rfl) (.slice (some ⟨g', 0, none⟩) (i + 1) cap')
        have kd' := (Kept.refl (fun x => x = eb) W2).setCell (p := ⟨eb, 6, none⟩) (.inl rfl) (.slice (some ⟨g', 0, none⟩) (i + 1) cap')
        go_wp2_with fail
        go_roundw
        case rel => exact ⟨i + 1, .slice (some ⟨g', 0, none⟩) (i + 1) cap', by omega, by go_num, hb', by rw [HTS.out, bvs_append]; exact kd'.own own2 (fun g hg => by simp only [Value.ownBlock, Option.some.injEq] at hg; omega), k'⟩
        case measure => simp [intOf]; omega
      · obtain rfl : i = a3.length := by omega
        rw [List.take_length] at hbx hown
        have hdE : DatAt wr eb u ({ ev1 with data := a3.map (· - 48) } : EvD).data := DatAt.own (by rw [List.length_map]; exact hown) (by omega)
        have i3 : decide ((a3.length : Int) < (s.size : Int)) = false := by rw [hsl]; simp
        go_upto_region 41 with fail
        have HBW := HBZ0
        have kz := kx
        have brr := brz
        have HEV := HEV'
        have hbE := hbx
        clear kx brz HEV' hbx HBZ0 g1 g3 d1 d3
        have HR : Hid (evR [102, 97, 105, 108] [a0, a1, a2, a3] = (({ ev1 with data := a3.map (· - 48) } : EvD), 0)) := Lib.hid (HEV.out)
        obtain ⟨D, cd, hv, hrd, hdn⟩ := hdE
        rw [hv] at hbE
        have HRD := Lib.hid hrd
        have HDN := Lib.hid hdn
        clear hrd hdn hv
        generalize ({ ev1 with data := a3.map (· - 48) } : EvD) = ev at hbE HR HRD ⊢
        have bzr := kz.blk brr (by show ¬ w.heap.size + 1 = eb; omega)
        have zr : ∀ i, wr.frozen? ⟨w.heap.size + 1, i, none⟩ = false := fun i => bzr.frozen i
        have e0 := (hbE.cell 0).trans (show (ev.cells (.slice D ev.data.length cd))[0]? = some (.int .i64 ev.kind) from rfl)
        have e1 := (hbE.cell 1).trans (show (ev.cells (.slice D ev.data.length cd))[1]? = some (.int .i64 ev.dev) from rfl)
        have e2 := (hbE.cell 2).trans (show (ev.cells (.slice D ev.data.length cd))[2]? = some (.int .i64 ev.oth) from rfl)
        have e3 := (hbE.cell 3).trans (show (ev.cells (.slice D ev.data.length cd))[3]? = some (.int .i64 ev.vault) from rfl)
        have e4 := (hbE.cell 4).trans (show (ev.cells (.slice D ev.data.length cd))[4]? = some (.string (ba ev.path)) from rfl)
        have e5 := (hbE.cell 5).trans (show (ev.cells (.slice D ev.data.length cd))[5]? = some (.string (ba ev.dest)) from rfl)
        have e6 := (hbE.cell 6).trans (show (ev.cells (.slice D ev.data.length cd))[6]? = some (.slice D ev.data.length cd) from rfl)
        have e7 := (hbE.cell 7).trans (show (ev.cells (.slice D ev.data.length cd))[7]? = some (.int .i64 ev.num) from rfl)
        have e8 := (hbE.cell 8).trans (show (ev.cells (.slice D ev.data.length cd))[8]? = some (.int .i64 ev.cut) from rfl)
        have e9 := (hbE.cell 9).trans (show (ev.cells (.slice D ev.data.length cd))[9]? = some (.bool ev.on) from rfl)
        have r0 := (bzr.cell 0).trans (show ((ev0 0).cells (.slice none 0 0))[0]? = some (.int .i64 0) from rfl)
        have r1 := (bzr.cell 1).trans (show ((ev0 0).cells (.slice none 0 0))[1]? = some (.int .i64 0) from rfl)
        have r2 := (bzr.cell 2).trans (show ((ev0 0).cells (.slice none 0 0))[2]? = some (.int .i64 0) from rfl)
        have r3 := (bzr.cell 3).trans (show ((ev0 0).cells (.slice none 0 0))[3]? = some (.int .i64 0) from rfl)
        have r4 := (bzr.cell 4).trans (show ((ev0 0).cells (.slice none 0 0))[4]? = some (.string (ba [])) from rfl)
        have r5 := (bzr.cell 5).trans (show ((ev0 0).cells (.slice none 0 0))[5]? = some (.string (ba [])) from rfl)
        have r6 := (bzr.cell 6).trans (show ((ev0 0).cells (.slice none 0 0))[6]? = some (.slice none 0 0) from rfl)
        have r7 := (bzr.cell 7).trans (show ((ev0 0).cells (.slice none 0 0))[7]? = some (.int .i64 0) from rfl)
        have r8 := (bzr.cell 8).trans (show ((ev0 0).cells (.slice none 0 0))[8]? = some (.int .i64 0) from rfl)
        have r9 := (bzr.cell 9).trans (show ((ev0 0).cells (.slice none 0 0))[9]? = some (.bool false) from rfl)
        have HKZ := Lib.hid kz
        have HBZ := Lib.hid bzr
        clear kz bzr hbE
        go_wp2_with fail
        have hbz := blk_sets HBZ.out (evList ev (.slice D ev.data.length cd))
        rw [evList_cells] at hbz
        refine bodyPost_ret (results_hap (cs := ev.cells (.slice D ev.data.length cd)) rfl rfl hbz) rfl ?_
        rw [HR.out]
        refine ⟨.slice D ev.data.length cd, D, cd, ?_, rfl, ?_, ?_⟩
        · exact rfl
        · exact (kept_sets (F := fun x => x = w.heap.size + 1) (Kept.refl _ wr) (w.heap.size + 1) (.inl rfl) (evList ev (.slice D ev.data.length cd))).src HRD.out (fun ad e _ => by have := HDN.out ad e; show ¬ ad.block = w.heap.size + 1; omega)
        · exact below_sets (HBW.out.trans (HKZ.out.below (B := w.heap.size) HBW.out.size (fun x h => by subst h; omega))) (w.heap.size + 1) (by omega) (evList ev (.slice D ev.data.length cd))
  · skip
    have q0 : ((ba [104, 111, 108, 100]).toList == [119, 114, 105, 116, 101]) = false := by rw [cmp_ba]; decide
    have q1 : ((ba [104, 111, 108, 100]).toList == [114, 101, 109, 111, 118, 101]) = false := by rw [cmp_ba]; decide
    have q2 : ((ba [104, 111, 108, 100]).toList == [109, 111, 118, 101]) = false := by rw [cmp_ba]; decide
    have q3 : ((ba [104, 111, 108, 100]).toList == [98, 97, 99, 107, 117, 112]) = false := by rw [cmp_ba]; decide
    have q4 : ((ba [104, 111, 108, 100]).toList == [114, 101, 116, 97, 105, 110]) = false := by rw [cmp_ba]; decide
    have q5 : ((ba [104, 111, 108, 100]).toList == [112, 97, 115, 115]) = false := by rw [cmp_ba]; decide
    have q6 : ((ba [104, 111, 108, 100]).toList == [99, 108, 111, 99, 107]) = false := by rw [cmp_ba]; decide
    have q7 : ((ba [104, 111, 108, 100]).toList == [100, 114, 111, 112]) = false := by rw [cmp_ba]; decide
    have q8 : ((ba [104, 111, 108, 100]).toList == [109, 101, 101, 116]) = false := by rw [cmp_ba]; decide
    have q9 : ((ba [104, 111, 108, 100]).toList == [108, 111, 115, 101]) = false := by rw [cmp_ba]; decide
    have q10 : ((ba [104, 111, 108, 100]).toList == [115, 101, 116, 116, 108, 101]) = false := by rw [cmp_ba]; decide
    have q11 : ((ba [104, 111, 108, 100]).toList == [102, 97, 105, 108]) = false := by rw [cmp_ba]; decide
    have q12 : ((ba [104, 111, 108, 100]).toList == [104, 111, 108, 100]) = true := by rw [cmp_ba]; decide
    obtain ⟨a0, a1, a2, a3, rfl⟩ := len4 (valid_len (n := 4) HV.out (by decide +kernel))
    rw [show kf [104, 111, 108, 100] 15 = 11 by decide +kernel] at hbk
    obtain ⟨xb, xo, rfl, hxb, _⟩ := hAr.at_ (k := 0) (by simp)
    have cx3 : wr.cell? ⟨xb, xo + 3, none⟩ = some (.string (ba a3)) := by
      obtain ⟨xb', xo', e, _, h⟩ := hAr.at_ (k := 3) (by simp)
      injection e with e
      injection e with e1 e2
      rw [e1, e2]
      exact h
    have e0 : wr.cell? ⟨w.heap.size, 0, none⟩ = some (.string (ba [104, 111, 108, 100])) := (bxr.cell 0).trans rfl
    have e1 : wr.cell? ⟨w.heap.size, 1, none⟩ = some (.slice (some ⟨xb, xo, none⟩) 4 c) := (bxr.cell 1).trans rfl
    have hxe : xb ≠ eb := by have := HAL.out _ rfl (by simp); simp only at this; omega
    have hse : w.heap.size ≠ eb := by omega
    have CN0 := Lib.hid (fun W (k : Kept NoF wr W) => (show Calls Tryz.prog 47 #[.agg #[.string (ba [104, 111, 108, 100]), .slice (some ⟨xb, xo, none⟩) 4 c], .int .i64 0] W fun e W' => e = .returned (.int .i64 (numR a0).1) ∧ Kept NoF wr W' ∧ (∀ i, W'.frozen? ⟨eb, i, none⟩ = false) ∧ W'.cell? ⟨eb, 1, none⟩ = some (.int .i64 0) ∧ W'.cell? ⟨eb, 3, none⟩ = some (.int .i64 0) ∧ W'.cell? ⟨eb, 7, none⟩ = some (.int .i64 0) ∧ W'.cell? ⟨eb, 9, none⟩ = some (.bool false)  from
      (rnumber_any (ba [104, 111, 108, 100]) _ c [a0, a1, a2, a3] W (hAr.same k) 0 (by simp) HS1.out).mono (fun e W' (h : _ ∧ _) => by
        have k2 := k.trans (Kept.of_below (F := NoF) h.2) (fun _ h => .inl h)
        have hb := k2.blk hbk (fun h => h)
        exact ⟨h.1, k2, fun i => hb.frozen i, (hb.cell 1).trans rfl, (hb.cell 3).trans rfl, (hb.cell 7).trans rfl, (hb.cell 9).trans rfl⟩)))
    have CN1 := Lib.hid (fun W (k : Kept NoF wr W) => (show Calls Tryz.prog 47 #[.agg #[.string (ba [104, 111, 108, 100]), .slice (some ⟨xb, xo, none⟩) 4 c], .int .i64 1] W fun e W' => e = .returned (.int .i64 (numR a1).1) ∧ Kept NoF wr W' ∧ (∀ i, W'.frozen? ⟨eb, i, none⟩ = false) ∧ W'.cell? ⟨eb, 1, none⟩ = some (.int .i64 0) ∧ W'.cell? ⟨eb, 3, none⟩ = some (.int .i64 0) ∧ W'.cell? ⟨eb, 7, none⟩ = some (.int .i64 0) ∧ W'.cell? ⟨eb, 9, none⟩ = some (.bool false)  from
      (rnumber_any (ba [104, 111, 108, 100]) _ c [a0, a1, a2, a3] W (hAr.same k) 1 (by simp) HS1.out).mono (fun e W' (h : _ ∧ _) => by
        have k2 := k.trans (Kept.of_below (F := NoF) h.2) (fun _ h => .inl h)
        have hb := k2.blk hbk (fun h => h)
        exact ⟨h.1, k2, fun i => hb.frozen i, (hb.cell 1).trans rfl, (hb.cell 3).trans rfl, (hb.cell 7).trans rfl, (hb.cell 9).trans rfl⟩)))
    have CN2 := Lib.hid (fun W (k : Kept NoF wr W) => (show Calls Tryz.prog 47 #[.agg #[.string (ba [104, 111, 108, 100]), .slice (some ⟨xb, xo, none⟩) 4 c], .int .i64 2] W fun e W' => e = .returned (.int .i64 (numR a2).1) ∧ Kept NoF wr W' ∧ (∀ i, W'.frozen? ⟨eb, i, none⟩ = false) ∧ W'.cell? ⟨eb, 1, none⟩ = some (.int .i64 0) ∧ W'.cell? ⟨eb, 3, none⟩ = some (.int .i64 0) ∧ W'.cell? ⟨eb, 7, none⟩ = some (.int .i64 0) ∧ W'.cell? ⟨eb, 9, none⟩ = some (.bool false)  from
      (rnumber_any (ba [104, 111, 108, 100]) _ c [a0, a1, a2, a3] W (hAr.same k) 2 (by simp) HS1.out).mono (fun e W' (h : _ ∧ _) => by
        have k2 := k.trans (Kept.of_below (F := NoF) h.2) (fun _ h => .inl h)
        have hb := k2.blk hbk (fun h => h)
        exact ⟨h.1, k2, fun i => hb.frozen i, (hb.cell 1).trans rfl, (hb.cell 3).trans rfl, (hb.cell 7).trans rfl, (hb.cell 9).trans rfl⟩)))
    have SA := Lib.hid (fun W (k : Kept NoF wr W) => (⟨k.cell e0 (fun h => h), k.cell e1 (fun h => h), k.cell cx3 (fun h => h)⟩ : (fun (w' : World) => w'.cell? ⟨w.heap.size, 0, none⟩ = some (.string (ba [104, 111, 108, 100])) ∧ w'.cell? ⟨w.heap.size, 1, none⟩ = some (.slice (some ⟨xb, xo, none⟩) 4 c) ∧ w'.cell? ⟨xb, xo + 3, none⟩ = some (.string (ba a3))) W))
    have SB := Lib.hid (fun (W : World) (i : Nat) (u : Value) (h : (fun (w' : World) => w'.cell? ⟨w.heap.size, 0, none⟩ = some (.string (ba [104, 111, 108, 100])) ∧ w'.cell? ⟨w.heap.size, 1, none⟩ = some (.slice (some ⟨xb, xo, none⟩) 4 c) ∧ w'.cell? ⟨xb, xo + 3, none⟩ = some (.string (ba a3))) W) => (⟨cell_set_far h.1 hse, cell_set_far h.2.1 hse, cell_set_far h.2.2 hxe⟩ : (fun (w' : World) => w'.cell? ⟨w.heap.size, 0, none⟩ = some (.string (ba [104, 111, 108, 100])) ∧ w'.cell? ⟨w.heap.size, 1, none⟩ = some (.slice (some ⟨xb, xo, none⟩) 4 c) ∧ w'.cell? ⟨xb, xo + 3, none⟩ = some (.string (ba a3))) (W.setCell ⟨eb, i, none⟩ u)))
    have k0 := (Kept.refl NoF wr).drew
    have qq : ((ba a3).toList == ([111, 110] : List UInt8)) = (a3 == [111, 110]) := cmp_ba _ _
    go_upto_region 38 with fail
    refine wp_region_noPanic ?_
    refine wp_region_held_drew (S := (fun (w' : World) => w'.cell? ⟨w.heap.size, 0, none⟩ = some (.string (ba [104, 111, 108, 100])) ∧ w'.cell? ⟨w.heap.size, 1, none⟩ = some (.slice (some ⟨xb, xo, none⟩) 4 c) ∧ w'.cell? ⟨xb, xo + 3, none⟩ = some (.string (ba a3)))) (by kernel_rfl) ?_ (fun hHeld => ?_)
    · exact SA.out _ k0
    refine wpAnyH_take (i := 0) (v := ?_) rfl (by kernel_rfl) (by kernel_rfl) (by kernel_rfl) (fun _ _ _ h => h) (Or.inl ⟨by rfl, ?_⟩) hHeld ?_
    rotate_left
    · (intro w hSw; (try dsimp only at hSw); go_simp; try (with_reducible rfl))
    simp only [Act.put, List.getElem_toArray, List.getElem_cons_zero, List.setIfInBounds_toArray, List.set_cons_zero, List.set_cons_succ]
    refine wpAnyH_take (i := 2) (v := ?_) rfl (by kernel_rfl) (by kernel_rfl) (by kernel_rfl) (fun _ _ _ h => h) (Or.inl ⟨by rfl, ?_⟩) hHeld ?_
    rotate_left
    · (intro w hSw; (try dsimp only at hSw); go_simp; try (with_reducible rfl))
    simp only [Act.put, List.getElem_toArray, List.getElem_cons_zero, List.getElem_cons_succ, List.setIfInBounds_toArray, List.set_cons_zero, List.set_cons_succ]
    refine wpAnyH_take (i := 4) (v := ?_) rfl (by kernel_rfl) (by kernel_rfl) (by kernel_rfl) (fun _ _ _ h => h) (Or.inl ⟨by rfl, ?_⟩) hHeld ?_
    rotate_left
    · (intro w hSw; (try dsimp only at hSw); go_simp; try (with_reducible rfl))
    simp only [Act.put, List.getElem_toArray, List.getElem_cons_zero, List.getElem_cons_succ, List.setIfInBounds_toArray, List.set_cons_zero, List.set_cons_succ]
    refine wpAnyH_take (i := 6) (v := ?_) rfl (by kernel_rfl) (by kernel_rfl) (by kernel_rfl) (fun _ _ _ h => h) (Or.inl ⟨by rfl, ?_⟩) hHeld ?_
    rotate_left
    · (intro w hSw; (try dsimp only at hSw); go_simp; try (with_reducible rfl))
    simp only [Act.put, List.getElem_toArray, List.getElem_cons_zero, List.getElem_cons_succ, List.setIfInBounds_toArray, List.set_cons_zero, List.set_cons_succ]
    refine wpAnyH_take (i := 7) (v := ?_) rfl (by kernel_rfl) (by kernel_rfl) (by kernel_rfl) (fun _ _ _ h => h) (Or.inl ⟨by rfl, ?_⟩) hHeld ?_
    rotate_left
    · (intro w hSw; (try dsimp only at hSw); go_simp; try (with_reducible rfl))
    simp only [Act.put, List.getElem_toArray, List.getElem_cons_zero, List.getElem_cons_succ, List.setIfInBounds_toArray, List.set_cons_zero, List.set_cons_succ]
    refine wpAnyH_take (i := 8) (v := ?_) rfl (by kernel_rfl) (by kernel_rfl) (by kernel_rfl) (fun _ _ _ h => h) (Or.inl ⟨by rfl, ?_⟩) hHeld ?_
    rotate_left
    · (intro w hSw; (try dsimp only at hSw); go_simp; try (with_reducible rfl))
    simp only [Act.put, List.getElem_toArray, List.getElem_cons_zero, List.getElem_cons_succ, List.setIfInBounds_toArray, List.set_cons_zero, List.set_cons_succ]
    refine wpAnyH_take (i := 9) (v := ?_) rfl (by kernel_rfl) (by kernel_rfl) (by kernel_rfl) (fun _ _ _ h => h) (Or.inl ⟨by rfl, ?_⟩) hHeld ?_
    rotate_left
    · (intro w hSw; (try dsimp only at hSw); go_simp; try (with_reducible rfl))
    simp only [Act.put, List.getElem_toArray, List.getElem_cons_zero, List.getElem_cons_succ, List.setIfInBounds_toArray, List.set_cons_zero, List.set_cons_succ]
    refine wpAnyH_take (i := 10) (v := ?_) rfl (by kernel_rfl) (by kernel_rfl) (by kernel_rfl) (fun _ _ _ h => h) (Or.inl ⟨by rfl, ?_⟩) hHeld ?_
    rotate_left
    · (intro w hSw; (try dsimp only at hSw); go_simp; try (with_reducible rfl))
    simp only [Act.put, List.getElem_toArray, List.getElem_cons_zero, List.getElem_cons_succ, List.setIfInBounds_toArray, List.set_cons_zero, List.set_cons_succ]
    refine wpAnyH_ready (rs := [1]) (by kernel_rfl) (by simp) ?_
    refine AllReadyH.cons rfl (fun K hK => ?_) AllReadyH.nil
    go_simp
    refine (CN0.out _ k0).mono ?_
    rintro e w0 ⟨rfl, k0, z0, f1, f3, f7, f9⟩
    go_wp2_with fail
    refine hK.out _ _ (SA.out _ k0) (fun hHeld => ?_)
    clear hK K
    try simp only [Act.put, List.getElem_toArray, List.getElem_cons_zero, List.getElem_cons_succ, List.setIfInBounds_toArray, List.set_cons_zero, List.set_cons_succ]
    refine wpAnyH_take (i := 11) (v := ?_) rfl (by kernel_rfl) (by kernel_rfl) (by kernel_rfl) (fun _ _ _ h => h) (Or.inl ⟨by rfl, ?_⟩) hHeld ?_
    rotate_left
    · (intro w hSw; (try dsimp only at hSw); go_simp; try (with_reducible rfl))
    simp only [Act.put, List.getElem_toArray, List.getElem_cons_zero, List.getElem_cons_succ, List.setIfInBounds_toArray, List.set_cons_zero, List.set_cons_succ]
    refine wpAnyH_ready (rs := [3]) (by kernel_rfl) (by simp) ?_
    refine AllReadyH.cons rfl (fun K hK => ?_) AllReadyH.nil
    go_simp
    refine (CN1.out _ k0).mono ?_
    rintro e w1 ⟨rfl, k1, z1, f1, f3, f7, f9⟩
    go_wp2_with fail
    refine hK.out _ _ (SA.out _ k1) (fun hHeld => ?_)
    clear hK K
    try simp only [Act.put, List.getElem_toArray, List.getElem_cons_zero, List.getElem_cons_succ, List.setIfInBounds_toArray, List.set_cons_zero, List.set_cons_succ]
    refine wpAnyH_ready (rs := [5]) (by kernel_rfl) (by simp) ?_
    refine AllReadyH.cons rfl (fun K hK => ?_) AllReadyH.nil
    go_simp
    refine (CN2.out _ k1).mono ?_
    rintro e w2 ⟨rfl, k2, z2, f1, f3, f7, f9⟩
    go_wp2_with fail
    refine hK.out _ _ (SA.out _ k2) (fun hHeld => ?_)
    clear hK K
    try simp only [Act.put, List.getElem_toArray, List.getElem_cons_zero, List.getElem_cons_succ, List.setIfInBounds_toArray, List.set_cons_zero, List.set_cons_succ]
    refine wpAnyH_ready (rs := [12]) (by kernel_rfl) (by simp) ?_
    refine AllReadyH.cons rfl (fun K hK => ?_) AllReadyH.nil
    go_simp
    refine hK.out _ _ (SB.out _ _ _ hHeld) (fun hHeld => ?_)
    clear hK K
    try simp only [Act.put, List.getElem_toArray, List.getElem_cons_zero, List.getElem_cons_succ, List.setIfInBounds_toArray, List.set_cons_zero, List.set_cons_succ]
    refine wpAnyH_take (i := 13) (v := ?_) rfl (by kernel_rfl) (by kernel_rfl) (by kernel_rfl) (fun _ _ _ h => h) (Or.inl ⟨by rfl, ?_⟩) hHeld ?_
    rotate_left
    · (intro w hSw; (try dsimp only at hSw); go_simp; try (with_reducible rfl))
    simp only [Act.put, List.getElem_toArray, List.getElem_cons_zero, List.getElem_cons_succ, List.setIfInBounds_toArray, List.set_cons_zero, List.set_cons_succ]
    refine wpAnyH_ready (rs := [14]) (by kernel_rfl) (by simp) ?_
    refine AllReadyH.cons rfl (fun K hK => ?_) AllReadyH.nil
    go_simp
    refine hK.out _ _ (SB.out _ _ _ hHeld) (fun hHeld => ?_)
    clear hK K
    try simp only [Act.put, List.getElem_toArray, List.getElem_cons_zero, List.getElem_cons_succ, List.setIfInBounds_toArray, List.set_cons_zero, List.set_cons_succ]
    refine wpAnyH_take (i := 15) (v := ?_) rfl (by kernel_rfl) (by kernel_rfl) (by kernel_rfl) (fun _ _ _ h => h) (Or.inl ⟨by rfl, ?_⟩) hHeld ?_
    rotate_left
    · (intro w hSw; (try dsimp only at hSw); go_simp; try (with_reducible rfl))
    simp only [Act.put, List.getElem_toArray, List.getElem_cons_zero, List.getElem_cons_succ, List.setIfInBounds_toArray, List.set_cons_zero, List.set_cons_succ]
    refine wpAnyH_ready (rs := [16]) (by kernel_rfl) (by simp) ?_
    refine AllReadyH.cons rfl (fun K hK => ?_) AllReadyH.nil
    go_simp
    refine hK.out _ _ (SB.out _ _ _ hHeld) (fun hHeld => ?_)
    clear hK K
    try simp only [Act.put, List.getElem_toArray, List.getElem_cons_zero, List.getElem_cons_succ, List.setIfInBounds_toArray, List.set_cons_zero, List.set_cons_succ]
    refine wpAnyH_take (i := 17) (v := ?_) rfl (by kernel_rfl) (by kernel_rfl) (by kernel_rfl) (fun _ _ _ h => h) (Or.inl ⟨by rfl, ?_⟩) hHeld ?_
    rotate_left
    · (intro w hSw; (try dsimp only at hSw); go_simp; try (with_reducible rfl))
    simp only [Act.put, List.getElem_toArray, List.getElem_cons_zero, List.getElem_cons_succ, List.setIfInBounds_toArray, List.set_cons_zero, List.set_cons_succ]
    refine wpAnyH_ready (rs := [18]) (by kernel_rfl) (by simp) ?_
    refine AllReadyH.cons rfl (fun K hK => ?_) AllReadyH.nil
    go_simp
    refine hK.out _ _ (SB.out _ _ _ hHeld) (fun hHeld => ?_)
    clear hK K
    try simp only [Act.put, List.getElem_toArray, List.getElem_cons_zero, List.getElem_cons_succ, List.setIfInBounds_toArray, List.set_cons_zero, List.set_cons_succ]
    refine wpAnyH_done (by kernel_rfl) ?_ _
    refine NoPanic.normal ?_
    have hbE : Blk ((((w2.setCell ⟨eb, 1, none⟩ (.int .i64 (numR a0).1)).setCell ⟨eb, 3, none⟩ (.int .i64 (numR a1).1)).setCell ⟨eb, 7, none⟩ (.int .i64 (numR a2).1)).setCell ⟨eb, 9, none⟩ (.bool (a3 == [111, 110]))) eb 50 (({ ev0 11 with dev := nv a0, vault := nv a1, num := nv a2, on := a3 == [111, 110] } : EvD).cells (.slice none 0 0)) := ((((k2.blk hbk (fun h => h)).set_ 1 (.int .i64 (numR a0).1)).set_ 3 (.int .i64 (numR a1).1)).set_ 7 (.int .i64 (numR a2).1)).set_ 9 (.bool (a3 == [111, 110]))
    have kz : Kept (fun x => x = eb) wr ((((w2.setCell ⟨eb, 1, none⟩ (.int .i64 (numR a0).1)).setCell ⟨eb, 3, none⟩ (.int .i64 (numR a1).1)).setCell ⟨eb, 7, none⟩ (.int .i64 (numR a2).1)).setCell ⟨eb, 9, none⟩ (.bool (a3 == [111, 110]))) := ((((k2.mono (G := fun x => x = eb) (fun _ h => h.elim)).setCell (p := ⟨eb, 1, none⟩) (.inl rfl) (.int .i64 (numR a0).1)).setCell (p := ⟨eb, 3, none⟩) (.inl rfl) (.int .i64 (numR a1).1)).setCell (p := ⟨eb, 7, none⟩) (.inl rfl) (.int .i64 (numR a2).1)).setCell (p := ⟨eb, 9, none⟩) (.inl rfl) (.bool (a3 == [111, 110]))
    have hdE : DatAt ((((w2.setCell ⟨eb, 1, none⟩ (.int .i64 (numR a0).1)).setCell ⟨eb, 3, none⟩ (.int .i64 (numR a1).1)).setCell ⟨eb, 7, none⟩ (.int .i64 (numR a2).1)).setCell ⟨eb, 9, none⟩ (.bool (a3 == [111, 110]))) eb (.slice none 0 0) ({ ev0 11 with dev := nv a0, vault := nv a1, num := nv a2, on := a3 == [111, 110] } : EvD).data := DatAt.nil _ _
    generalize (((w2.setCell ⟨eb, 1, none⟩ (.int .i64 (numR a0).1)).setCell ⟨eb, 3, none⟩ (.int .i64 (numR a1).1)).setCell ⟨eb, 7, none⟩ (.int .i64 (numR a2).1)).setCell ⟨eb, 9, none⟩ (.bool (a3 == [111, 110])) = wz at hbE kz hdE ⊢
    have HR : Hid (evR [104, 111, 108, 100] [a0, a1, a2, a3] = (({ ev0 11 with dev := nv a0, vault := nv a1, num := nv a2, on := a3 == [111, 110] } : EvD), 0)) := Lib.hid (HEV.out.trans rfl)
    obtain ⟨D, cd, hv, hrd, hdn⟩ := hdE
    rw [hv] at hbE
    have HRD := Lib.hid hrd
    have HDN := Lib.hid hdn
    clear hrd hdn hv
    generalize ({ ev0 11 with dev := nv a0, vault := nv a1, num := nv a2, on := a3 == [111, 110] } : EvD) = ev at hbE HR HRD ⊢
    have bzr := kz.blk brr (by show ¬ w.heap.size + 1 = eb; omega)
    have zr : ∀ i, wz.frozen? ⟨w.heap.size + 1, i, none⟩ = false := fun i => bzr.frozen i
    have e0 := (hbE.cell 0).trans (show (ev.cells (.slice D ev.data.length cd))[0]? = some (.int .i64 ev.kind) from rfl)
    have e1 := (hbE.cell 1).trans (show (ev.cells (.slice D ev.data.length cd))[1]? = some (.int .i64 ev.dev) from rfl)
    have e2 := (hbE.cell 2).trans (show (ev.cells (.slice D ev.data.length cd))[2]? = some (.int .i64 ev.oth) from rfl)
    have e3 := (hbE.cell 3).trans (show (ev.cells (.slice D ev.data.length cd))[3]? = some (.int .i64 ev.vault) from rfl)
    have e4 := (hbE.cell 4).trans (show (ev.cells (.slice D ev.data.length cd))[4]? = some (.string (ba ev.path)) from rfl)
    have e5 := (hbE.cell 5).trans (show (ev.cells (.slice D ev.data.length cd))[5]? = some (.string (ba ev.dest)) from rfl)
    have e6 := (hbE.cell 6).trans (show (ev.cells (.slice D ev.data.length cd))[6]? = some (.slice D ev.data.length cd) from rfl)
    have e7 := (hbE.cell 7).trans (show (ev.cells (.slice D ev.data.length cd))[7]? = some (.int .i64 ev.num) from rfl)
    have e8 := (hbE.cell 8).trans (show (ev.cells (.slice D ev.data.length cd))[8]? = some (.int .i64 ev.cut) from rfl)
    have e9 := (hbE.cell 9).trans (show (ev.cells (.slice D ev.data.length cd))[9]? = some (.bool ev.on) from rfl)
    have r0 := (bzr.cell 0).trans (show ((ev0 0).cells (.slice none 0 0))[0]? = some (.int .i64 0) from rfl)
    have r1 := (bzr.cell 1).trans (show ((ev0 0).cells (.slice none 0 0))[1]? = some (.int .i64 0) from rfl)
    have r2 := (bzr.cell 2).trans (show ((ev0 0).cells (.slice none 0 0))[2]? = some (.int .i64 0) from rfl)
    have r3 := (bzr.cell 3).trans (show ((ev0 0).cells (.slice none 0 0))[3]? = some (.int .i64 0) from rfl)
    have r4 := (bzr.cell 4).trans (show ((ev0 0).cells (.slice none 0 0))[4]? = some (.string (ba [])) from rfl)
    have r5 := (bzr.cell 5).trans (show ((ev0 0).cells (.slice none 0 0))[5]? = some (.string (ba [])) from rfl)
    have r6 := (bzr.cell 6).trans (show ((ev0 0).cells (.slice none 0 0))[6]? = some (.slice none 0 0) from rfl)
    have r7 := (bzr.cell 7).trans (show ((ev0 0).cells (.slice none 0 0))[7]? = some (.int .i64 0) from rfl)
    have r8 := (bzr.cell 8).trans (show ((ev0 0).cells (.slice none 0 0))[8]? = some (.int .i64 0) from rfl)
    have r9 := (bzr.cell 9).trans (show ((ev0 0).cells (.slice none 0 0))[9]? = some (.bool false) from rfl)
    have HKZ := Lib.hid kz
    have HBZ := Lib.hid bzr
    clear kz bzr hbE
    go_wp2_with fail
    have hbz := blk_sets HBZ.out (evList ev (.slice D ev.data.length cd))
    rw [evList_cells] at hbz
    refine bodyPost_ret (results_hap (cs := ev.cells (.slice D ev.data.length cd)) rfl rfl hbz) rfl ?_
    rw [HR.out]
    refine ⟨.slice D ev.data.length cd, D, cd, ?_, rfl, ?_, ?_⟩
    · exact rfl
    · exact (kept_sets (F := fun x => x = w.heap.size + 1) (Kept.refl _ wz) (w.heap.size + 1) (.inl rfl) (evList ev (.slice D ev.data.length cd))).src HRD.out (fun ad e _ => by have := HDN.out ad e; show ¬ ad.block = w.heap.size + 1; omega)
    · exact below_sets (HBW.out.trans (HKZ.out.below (B := w.heap.size) HBW.out.size (fun x h => by subst h; omega))) (w.heap.size + 1) (by omega) (evList ev (.slice D ev.data.length cd))
  · skip
    have q0 : ((ba [114, 101, 116, 97, 105, 110]).toList == [119, 114, 105, 116, 101]) = false := by rw [cmp_ba]; decide
    have q1 : ((ba [114, 101, 116, 97, 105, 110]).toList == [114, 101, 109, 111, 118, 101]) = false := by rw [cmp_ba]; decide
    have q2 : ((ba [114, 101, 116, 97, 105, 110]).toList == [109, 111, 118, 101]) = false := by rw [cmp_ba]; decide
    have q3 : ((ba [114, 101, 116, 97, 105, 110]).toList == [98, 97, 99, 107, 117, 112]) = false := by rw [cmp_ba]; decide
    have q4 : ((ba [114, 101, 116, 97, 105, 110]).toList == [114, 101, 116, 97, 105, 110]) = true := by rw [cmp_ba]; decide
    obtain ⟨a0, a1, rfl⟩ := len2 (valid_len (n := 2) HV.out (by decide +kernel))
    rw [show kf [114, 101, 116, 97, 105, 110] 15 = 12 by decide +kernel] at hbk
    obtain ⟨xb, xo, rfl, hxb, _⟩ := hAr.at_ (k := 0) (by simp)
    have e0 : wr.cell? ⟨w.heap.size, 0, none⟩ = some (.string (ba [114, 101, 116, 97, 105, 110])) := (bxr.cell 0).trans rfl
    have e1 : wr.cell? ⟨w.heap.size, 1, none⟩ = some (.slice (some ⟨xb, xo, none⟩) 2 c) := (bxr.cell 1).trans rfl
    have hxe : xb ≠ eb := by have := HAL.out _ rfl (by simp); simp only at this; omega
    have hse : w.heap.size ≠ eb := by omega
    have CN0 := Lib.hid (fun W (k : Kept NoF wr W) => (show Calls Tryz.prog 47 #[.agg #[.string (ba [114, 101, 116, 97, 105, 110]), .slice (some ⟨xb, xo, none⟩) 2 c], .int .i64 0] W fun e W' => e = .returned (.int .i64 (numR a0).1) ∧ Kept NoF wr W' ∧ (∀ i, W'.frozen? ⟨eb, i, none⟩ = false) ∧ W'.cell? ⟨eb, 1, none⟩ = some (.int .i64 0) ∧ W'.cell? ⟨eb, 3, none⟩ = some (.int .i64 0)  from
      (rnumber_any (ba [114, 101, 116, 97, 105, 110]) _ c [a0, a1] W (hAr.same k) 0 (by simp) HS1.out).mono (fun e W' (h : _ ∧ _) => by
        have k2 := k.trans (Kept.of_below (F := NoF) h.2) (fun _ h => .inl h)
        have hb := k2.blk hbk (fun h => h)
        exact ⟨h.1, k2, fun i => hb.frozen i, (hb.cell 1).trans rfl, (hb.cell 3).trans rfl⟩)))
    have CN1 := Lib.hid (fun W (k : Kept NoF wr W) => (show Calls Tryz.prog 47 #[.agg #[.string (ba [114, 101, 116, 97, 105, 110]), .slice (some ⟨xb, xo, none⟩) 2 c], .int .i64 1] W fun e W' => e = .returned (.int .i64 (numR a1).1) ∧ Kept NoF wr W' ∧ (∀ i, W'.frozen? ⟨eb, i, none⟩ = false) ∧ W'.cell? ⟨eb, 1, none⟩ = some (.int .i64 0) ∧ W'.cell? ⟨eb, 3, none⟩ = some (.int .i64 0)  from
      (rnumber_any (ba [114, 101, 116, 97, 105, 110]) _ c [a0, a1] W (hAr.same k) 1 (by simp) HS1.out).mono (fun e W' (h : _ ∧ _) => by
        have k2 := k.trans (Kept.of_below (F := NoF) h.2) (fun _ h => .inl h)
        have hb := k2.blk hbk (fun h => h)
        exact ⟨h.1, k2, fun i => hb.frozen i, (hb.cell 1).trans rfl, (hb.cell 3).trans rfl⟩)))
    have SA := Lib.hid (fun W (k : Kept NoF wr W) => (⟨k.cell e0 (fun h => h), k.cell e1 (fun h => h)⟩ : (fun (w' : World) => w'.cell? ⟨w.heap.size, 0, none⟩ = some (.string (ba [114, 101, 116, 97, 105, 110])) ∧ w'.cell? ⟨w.heap.size, 1, none⟩ = some (.slice (some ⟨xb, xo, none⟩) 2 c)) W))
    have SB := Lib.hid (fun (W : World) (i : Nat) (u : Value) (h : (fun (w' : World) => w'.cell? ⟨w.heap.size, 0, none⟩ = some (.string (ba [114, 101, 116, 97, 105, 110])) ∧ w'.cell? ⟨w.heap.size, 1, none⟩ = some (.slice (some ⟨xb, xo, none⟩) 2 c)) W) => (⟨cell_set_far h.1 hse, cell_set_far h.2 hse⟩ : (fun (w' : World) => w'.cell? ⟨w.heap.size, 0, none⟩ = some (.string (ba [114, 101, 116, 97, 105, 110])) ∧ w'.cell? ⟨w.heap.size, 1, none⟩ = some (.slice (some ⟨xb, xo, none⟩) 2 c)) (W.setCell ⟨eb, i, none⟩ u)))
    have k0 := (Kept.refl NoF wr).drew
    go_upto_region 20 with fail
    refine wp_region_noPanic ?_
    refine wp_region_held_drew (S := (fun (w' : World) => w'.cell? ⟨w.heap.size, 0, none⟩ = some (.string (ba [114, 101, 116, 97, 105, 110])) ∧ w'.cell? ⟨w.heap.size, 1, none⟩ = some (.slice (some ⟨xb, xo, none⟩) 2 c))) (by kernel_rfl) ?_ (fun hHeld => ?_)
    · exact SA.out _ k0
    refine wpAnyH_take (i := 0) (v := ?_) rfl (by kernel_rfl) (by kernel_rfl) (by kernel_rfl) (fun _ _ _ h => h) (Or.inl ⟨by rfl, ?_⟩) hHeld ?_
    rotate_left
    · (intro w hSw; (try dsimp only at hSw); go_simp; try (with_reducible rfl))
    simp only [Act.put, List.getElem_toArray, List.getElem_cons_zero, List.setIfInBounds_toArray, List.set_cons_zero, List.set_cons_succ]
    refine wpAnyH_take (i := 2) (v := ?_) rfl (by kernel_rfl) (by kernel_rfl) (by kernel_rfl) (fun _ _ _ h => h) (Or.inl ⟨by rfl, ?_⟩) hHeld ?_
    rotate_left
    · (intro w hSw; (try dsimp only at hSw); go_simp; try (with_reducible rfl))
    simp only [Act.put, List.getElem_toArray, List.getElem_cons_zero, List.getElem_cons_succ, List.setIfInBounds_toArray, List.set_cons_zero, List.set_cons_succ]
    refine wpAnyH_ready (rs := [1]) (by kernel_rfl) (by simp) ?_
    refine AllReadyH.cons rfl (fun K hK => ?_) AllReadyH.nil
    go_simp
    refine (CN0.out _ k0).mono ?_
    rintro e w0 ⟨rfl, k0, z0, f1, f3⟩
    go_wp2_with fail
    refine hK.out _ _ (SA.out _ k0) (fun hHeld => ?_)
    clear hK K
    try simp only [Act.put, List.getElem_toArray, List.getElem_cons_zero, List.getElem_cons_succ, List.setIfInBounds_toArray, List.set_cons_zero, List.set_cons_succ]
    refine wpAnyH_take (i := 4) (v := ?_) rfl (by kernel_rfl) (by kernel_rfl) (by kernel_rfl) (fun _ _ _ h => h) (Or.inl ⟨by rfl, ?_⟩) hHeld ?_
    rotate_left
    · (intro w hSw; (try dsimp only at hSw); go_simp; try (with_reducible rfl))
    simp only [Act.put, List.getElem_toArray, List.getElem_cons_zero, List.getElem_cons_succ, List.setIfInBounds_toArray, List.set_cons_zero, List.set_cons_succ]
    refine wpAnyH_ready (rs := [3]) (by kernel_rfl) (by simp) ?_
    refine AllReadyH.cons rfl (fun K hK => ?_) AllReadyH.nil
    go_simp
    refine (CN1.out _ k0).mono ?_
    rintro e w1 ⟨rfl, k1, z1, f1, f3⟩
    go_wp2_with fail
    refine hK.out _ _ (SA.out _ k1) (fun hHeld => ?_)
    clear hK K
    try simp only [Act.put, List.getElem_toArray, List.getElem_cons_zero, List.getElem_cons_succ, List.setIfInBounds_toArray, List.set_cons_zero, List.set_cons_succ]
    refine wpAnyH_ready (rs := [5]) (by kernel_rfl) (by simp) ?_
    refine AllReadyH.cons rfl (fun K hK => ?_) AllReadyH.nil
    go_simp
    refine hK.out _ _ (SB.out _ _ _ hHeld) (fun hHeld => ?_)
    clear hK K
    try simp only [Act.put, List.getElem_toArray, List.getElem_cons_zero, List.getElem_cons_succ, List.setIfInBounds_toArray, List.set_cons_zero, List.set_cons_succ]
    refine wpAnyH_take (i := 6) (v := ?_) rfl (by kernel_rfl) (by kernel_rfl) (by kernel_rfl) (fun _ _ _ h => h) (Or.inl ⟨by rfl, ?_⟩) hHeld ?_
    rotate_left
    · (intro w hSw; (try dsimp only at hSw); go_simp; try (with_reducible rfl))
    simp only [Act.put, List.getElem_toArray, List.getElem_cons_zero, List.getElem_cons_succ, List.setIfInBounds_toArray, List.set_cons_zero, List.set_cons_succ]
    refine wpAnyH_ready (rs := [7]) (by kernel_rfl) (by simp) ?_
    refine AllReadyH.cons rfl (fun K hK => ?_) AllReadyH.nil
    go_simp
    refine hK.out _ _ (SB.out _ _ _ hHeld) (fun hHeld => ?_)
    clear hK K
    try simp only [Act.put, List.getElem_toArray, List.getElem_cons_zero, List.getElem_cons_succ, List.setIfInBounds_toArray, List.set_cons_zero, List.set_cons_succ]
    refine wpAnyH_done (by kernel_rfl) ?_ _
    refine NoPanic.normal ?_
    have hbE : Blk ((w1.setCell ⟨eb, 1, none⟩ (.int .i64 (numR a0).1)).setCell ⟨eb, 3, none⟩ (.int .i64 (numR a1).1)) eb 50 (({ ev0 12 with dev := nv a0, vault := nv a1 } : EvD).cells (.slice none 0 0)) := ((k1.blk hbk (fun h => h)).set_ 1 (.int .i64 (numR a0).1)).set_ 3 (.int .i64 (numR a1).1)
    have kz : Kept (fun x => x = eb) wr ((w1.setCell ⟨eb, 1, none⟩ (.int .i64 (numR a0).1)).setCell ⟨eb, 3, none⟩ (.int .i64 (numR a1).1)) := ((k1.mono (G := fun x => x = eb) (fun _ h => h.elim)).setCell (p := ⟨eb, 1, none⟩) (.inl rfl) (.int .i64 (numR a0).1)).setCell (p := ⟨eb, 3, none⟩) (.inl rfl) (.int .i64 (numR a1).1)
    have hdE : DatAt ((w1.setCell ⟨eb, 1, none⟩ (.int .i64 (numR a0).1)).setCell ⟨eb, 3, none⟩ (.int .i64 (numR a1).1)) eb (.slice none 0 0) ({ ev0 12 with dev := nv a0, vault := nv a1 } : EvD).data := DatAt.nil _ _
    generalize (w1.setCell ⟨eb, 1, none⟩ (.int .i64 (numR a0).1)).setCell ⟨eb, 3, none⟩ (.int .i64 (numR a1).1) = wz at hbE kz hdE ⊢
    have HR : Hid (evR [114, 101, 116, 97, 105, 110] [a0, a1] = (({ ev0 12 with dev := nv a0, vault := nv a1 } : EvD), 0)) := Lib.hid (HEV.out.trans rfl)
    obtain ⟨D, cd, hv, hrd, hdn⟩ := hdE
    rw [hv] at hbE
    have HRD := Lib.hid hrd
    have HDN := Lib.hid hdn
    clear hrd hdn hv
    generalize ({ ev0 12 with dev := nv a0, vault := nv a1 } : EvD) = ev at hbE HR HRD ⊢
    have bzr := kz.blk brr (by show ¬ w.heap.size + 1 = eb; omega)
    have zr : ∀ i, wz.frozen? ⟨w.heap.size + 1, i, none⟩ = false := fun i => bzr.frozen i
    have e0 := (hbE.cell 0).trans (show (ev.cells (.slice D ev.data.length cd))[0]? = some (.int .i64 ev.kind) from rfl)
    have e1 := (hbE.cell 1).trans (show (ev.cells (.slice D ev.data.length cd))[1]? = some (.int .i64 ev.dev) from rfl)
    have e2 := (hbE.cell 2).trans (show (ev.cells (.slice D ev.data.length cd))[2]? = some (.int .i64 ev.oth) from rfl)
    have e3 := (hbE.cell 3).trans (show (ev.cells (.slice D ev.data.length cd))[3]? = some (.int .i64 ev.vault) from rfl)
    have e4 := (hbE.cell 4).trans (show (ev.cells (.slice D ev.data.length cd))[4]? = some (.string (ba ev.path)) from rfl)
    have e5 := (hbE.cell 5).trans (show (ev.cells (.slice D ev.data.length cd))[5]? = some (.string (ba ev.dest)) from rfl)
    have e6 := (hbE.cell 6).trans (show (ev.cells (.slice D ev.data.length cd))[6]? = some (.slice D ev.data.length cd) from rfl)
    have e7 := (hbE.cell 7).trans (show (ev.cells (.slice D ev.data.length cd))[7]? = some (.int .i64 ev.num) from rfl)
    have e8 := (hbE.cell 8).trans (show (ev.cells (.slice D ev.data.length cd))[8]? = some (.int .i64 ev.cut) from rfl)
    have e9 := (hbE.cell 9).trans (show (ev.cells (.slice D ev.data.length cd))[9]? = some (.bool ev.on) from rfl)
    have r0 := (bzr.cell 0).trans (show ((ev0 0).cells (.slice none 0 0))[0]? = some (.int .i64 0) from rfl)
    have r1 := (bzr.cell 1).trans (show ((ev0 0).cells (.slice none 0 0))[1]? = some (.int .i64 0) from rfl)
    have r2 := (bzr.cell 2).trans (show ((ev0 0).cells (.slice none 0 0))[2]? = some (.int .i64 0) from rfl)
    have r3 := (bzr.cell 3).trans (show ((ev0 0).cells (.slice none 0 0))[3]? = some (.int .i64 0) from rfl)
    have r4 := (bzr.cell 4).trans (show ((ev0 0).cells (.slice none 0 0))[4]? = some (.string (ba [])) from rfl)
    have r5 := (bzr.cell 5).trans (show ((ev0 0).cells (.slice none 0 0))[5]? = some (.string (ba [])) from rfl)
    have r6 := (bzr.cell 6).trans (show ((ev0 0).cells (.slice none 0 0))[6]? = some (.slice none 0 0) from rfl)
    have r7 := (bzr.cell 7).trans (show ((ev0 0).cells (.slice none 0 0))[7]? = some (.int .i64 0) from rfl)
    have r8 := (bzr.cell 8).trans (show ((ev0 0).cells (.slice none 0 0))[8]? = some (.int .i64 0) from rfl)
    have r9 := (bzr.cell 9).trans (show ((ev0 0).cells (.slice none 0 0))[9]? = some (.bool false) from rfl)
    have HKZ := Lib.hid kz
    have HBZ := Lib.hid bzr
    clear kz bzr hbE
    go_wp2_with fail
    have hbz := blk_sets HBZ.out (evList ev (.slice D ev.data.length cd))
    rw [evList_cells] at hbz
    refine bodyPost_ret (results_hap (cs := ev.cells (.slice D ev.data.length cd)) rfl rfl hbz) rfl ?_
    rw [HR.out]
    refine ⟨.slice D ev.data.length cd, D, cd, ?_, rfl, ?_, ?_⟩
    · exact rfl
    · exact (kept_sets (F := fun x => x = w.heap.size + 1) (Kept.refl _ wz) (w.heap.size + 1) (.inl rfl) (evList ev (.slice D ev.data.length cd))).src HRD.out (fun ad e _ => by have := HDN.out ad e; show ¬ ad.block = w.heap.size + 1; omega)
    · exact below_sets (HBW.out.trans (HKZ.out.below (B := w.heap.size) HBW.out.size (fun x h => by subst h; omega))) (w.heap.size + 1) (by omega) (evList ev (.slice D ev.data.length cd))
  · skip
    have q0 : ((ba [115, 101, 116, 116, 108, 101]).toList == [119, 114, 105, 116, 101]) = false := by rw [cmp_ba]; decide
    have q1 : ((ba [115, 101, 116, 116, 108, 101]).toList == [114, 101, 109, 111, 118, 101]) = false := by rw [cmp_ba]; decide
    have q2 : ((ba [115, 101, 116, 116, 108, 101]).toList == [109, 111, 118, 101]) = false := by rw [cmp_ba]; decide
    have q3 : ((ba [115, 101, 116, 116, 108, 101]).toList == [98, 97, 99, 107, 117, 112]) = false := by rw [cmp_ba]; decide
    have q4 : ((ba [115, 101, 116, 116, 108, 101]).toList == [114, 101, 116, 97, 105, 110]) = false := by rw [cmp_ba]; decide
    have q5 : ((ba [115, 101, 116, 116, 108, 101]).toList == [112, 97, 115, 115]) = false := by rw [cmp_ba]; decide
    have q6 : ((ba [115, 101, 116, 116, 108, 101]).toList == [99, 108, 111, 99, 107]) = false := by rw [cmp_ba]; decide
    have q7 : ((ba [115, 101, 116, 116, 108, 101]).toList == [100, 114, 111, 112]) = false := by rw [cmp_ba]; decide
    have q8 : ((ba [115, 101, 116, 116, 108, 101]).toList == [109, 101, 101, 116]) = false := by rw [cmp_ba]; decide
    have q9 : ((ba [115, 101, 116, 116, 108, 101]).toList == [108, 111, 115, 101]) = false := by rw [cmp_ba]; decide
    have q10 : ((ba [115, 101, 116, 116, 108, 101]).toList == [115, 101, 116, 116, 108, 101]) = true := by rw [cmp_ba]; decide
    obtain ⟨a0, rfl⟩ := len1 (valid_len (n := 1) HV.out (by decide +kernel))
    rw [show kf [115, 101, 116, 116, 108, 101] 15 = 13 by decide +kernel] at hbk
    obtain ⟨xb, xo, rfl, hxb, _⟩ := hAr.at_ (k := 0) (by simp)
    have e0 : wr.cell? ⟨w.heap.size, 0, none⟩ = some (.string (ba [115, 101, 116, 116, 108, 101])) := (bxr.cell 0).trans rfl
    have e1 : wr.cell? ⟨w.heap.size, 1, none⟩ = some (.slice (some ⟨xb, xo, none⟩) 1 c) := (bxr.cell 1).trans rfl
    have hxe : xb ≠ eb := by have := HAL.out _ rfl (by simp); simp only at this; omega
    have hse : w.heap.size ≠ eb := by omega
    have CN0 := Lib.hid (fun W (k : Kept NoF wr W) => (show Calls Tryz.prog 47 #[.agg #[.string (ba [115, 101, 116, 116, 108, 101]), .slice (some ⟨xb, xo, none⟩) 1 c], .int .i64 0] W fun e W' => e = .returned (.int .i64 (numR a0).1) ∧ Kept NoF wr W' ∧ (∀ i, W'.frozen? ⟨eb, i, none⟩ = false) ∧ W'.cell? ⟨eb, 1, none⟩ = some (.int .i64 0)  from
      (rnumber_any (ba [115, 101, 116, 116, 108, 101]) _ c [a0] W (hAr.same k) 0 (by simp) HS1.out).mono (fun e W' (h : _ ∧ _) => by
        have k2 := k.trans (Kept.of_below (F := NoF) h.2) (fun _ h => .inl h)
        have hb := k2.blk hbk (fun h => h)
        exact ⟨h.1, k2, fun i => hb.frozen i, (hb.cell 1).trans rfl⟩)))
    have k0 := Kept.refl NoF wr
    go_wp2_with fail
    refine (CN0.out _ k0).mono ?_
    rintro e w0 ⟨rfl, k0, z0, f1⟩
    clear CN0
    go_upto_region 41 with fail
    have hbE : Blk (w0.setCell ⟨eb, 1, none⟩ (.int .i64 (numR a0).1)) eb 50 (({ ev0 13 with dev := nv a0 } : EvD).cells (.slice none 0 0)) := (k0.blk hbk (fun h => h)).set_ 1 (.int .i64 (numR a0).1)
    have kz : Kept (fun x => x = eb) wr (w0.setCell ⟨eb, 1, none⟩ (.int .i64 (numR a0).1)) := (k0.mono (G := fun x => x = eb) (fun _ h => h.elim)).setCell (p := ⟨eb, 1, none⟩) (.inl rfl) (.int .i64 (numR a0).1)
    have hdE : DatAt (w0.setCell ⟨eb, 1, none⟩ (.int .i64 (numR a0).1)) eb (.slice none 0 0) ({ ev0 13 with dev := nv a0 } : EvD).data := DatAt.nil _ _
    generalize w0.setCell ⟨eb, 1, none⟩ (.int .i64 (numR a0).1) = wz at hbE kz hdE ⊢
    have HR : Hid (evR [115, 101, 116, 116, 108, 101] [a0] = (({ ev0 13 with dev := nv a0 } : EvD), 0)) := Lib.hid (HEV.out.trans rfl)
    obtain ⟨D, cd, hv, hrd, hdn⟩ := hdE
    rw [hv] at hbE
    have HRD := Lib.hid hrd
    have HDN := Lib.hid hdn
    clear hrd hdn hv
    generalize ({ ev0 13 with dev := nv a0 } : EvD) = ev at hbE HR HRD ⊢
    have bzr := kz.blk brr (by show ¬ w.heap.size + 1 = eb; omega)
    have zr : ∀ i, wz.frozen? ⟨w.heap.size + 1, i, none⟩ = false := fun i => bzr.frozen i
    have e0 := (hbE.cell 0).trans (show (ev.cells (.slice D ev.data.length cd))[0]? = some (.int .i64 ev.kind) from rfl)
    have e1 := (hbE.cell 1).trans (show (ev.cells (.slice D ev.data.length cd))[1]? = some (.int .i64 ev.dev) from rfl)
    have e2 := (hbE.cell 2).trans (show (ev.cells (.slice D ev.data.length cd))[2]? = some (.int .i64 ev.oth) from rfl)
    have e3 := (hbE.cell 3).trans (show (ev.cells (.slice D ev.data.length cd))[3]? = some (.int .i64 ev.vault) from rfl)
    have e4 := (hbE.cell 4).trans (show (ev.cells (.slice D ev.data.length cd))[4]? = some (.string (ba ev.path)) from rfl)
    have e5 := (hbE.cell 5).trans (show (ev.cells (.slice D ev.data.length cd))[5]? = some (.string (ba ev.dest)) from rfl)
    have e6 := (hbE.cell 6).trans (show (ev.cells (.slice D ev.data.length cd))[6]? = some (.slice D ev.data.length cd) from rfl)
    have e7 := (hbE.cell 7).trans (show (ev.cells (.slice D ev.data.length cd))[7]? = some (.int .i64 ev.num) from rfl)
    have e8 := (hbE.cell 8).trans (show (ev.cells (.slice D ev.data.length cd))[8]? = some (.int .i64 ev.cut) from rfl)
    have e9 := (hbE.cell 9).trans (show (ev.cells (.slice D ev.data.length cd))[9]? = some (.bool ev.on) from rfl)
    have r0 := (bzr.cell 0).trans (show ((ev0 0).cells (.slice none 0 0))[0]? = some (.int .i64 0) from rfl)
    have r1 := (bzr.cell 1).trans (show ((ev0 0).cells (.slice none 0 0))[1]? = some (.int .i64 0) from rfl)
    have r2 := (bzr.cell 2).trans (show ((ev0 0).cells (.slice none 0 0))[2]? = some (.int .i64 0) from rfl)
    have r3 := (bzr.cell 3).trans (show ((ev0 0).cells (.slice none 0 0))[3]? = some (.int .i64 0) from rfl)
    have r4 := (bzr.cell 4).trans (show ((ev0 0).cells (.slice none 0 0))[4]? = some (.string (ba [])) from rfl)
    have r5 := (bzr.cell 5).trans (show ((ev0 0).cells (.slice none 0 0))[5]? = some (.string (ba [])) from rfl)
    have r6 := (bzr.cell 6).trans (show ((ev0 0).cells (.slice none 0 0))[6]? = some (.slice none 0 0) from rfl)
    have r7 := (bzr.cell 7).trans (show ((ev0 0).cells (.slice none 0 0))[7]? = some (.int .i64 0) from rfl)
    have r8 := (bzr.cell 8).trans (show ((ev0 0).cells (.slice none 0 0))[8]? = some (.int .i64 0) from rfl)
    have r9 := (bzr.cell 9).trans (show ((ev0 0).cells (.slice none 0 0))[9]? = some (.bool false) from rfl)
    have HKZ := Lib.hid kz
    have HBZ := Lib.hid bzr
    clear kz bzr hbE
    go_wp2_with fail
    have hbz := blk_sets HBZ.out (evList ev (.slice D ev.data.length cd))
    rw [evList_cells] at hbz
    refine bodyPost_ret (results_hap (cs := ev.cells (.slice D ev.data.length cd)) rfl rfl hbz) rfl ?_
    rw [HR.out]
    refine ⟨.slice D ev.data.length cd, D, cd, ?_, rfl, ?_, ?_⟩
    · exact rfl
    · exact (kept_sets (F := fun x => x = w.heap.size + 1) (Kept.refl _ wz) (w.heap.size + 1) (.inl rfl) (evList ev (.slice D ev.data.length cd))).src HRD.out (fun ad e _ => by have := HDN.out ad e; show ¬ ad.block = w.heap.size + 1; omega)
    · exact below_sets (HBW.out.trans (HKZ.out.below (B := w.heap.size) HBW.out.size (fun x h => by subst h; omega))) (w.heap.size + 1) (by omega) (evList ev (.slice D ev.data.length cd))
  · skip
    have q0 : ((ba [114, 101, 115, 116, 111, 114, 101]).toList == [119, 114, 105, 116, 101]) = false := by rw [cmp_ba]; decide
    have q1 : ((ba [114, 101, 115, 116, 111, 114, 101]).toList == [114, 101, 109, 111, 118, 101]) = false := by rw [cmp_ba]; decide
    have q2 : ((ba [114, 101, 115, 116, 111, 114, 101]).toList == [109, 111, 118, 101]) = false := by rw [cmp_ba]; decide
    have q3 : ((ba [114, 101, 115, 116, 111, 114, 101]).toList == [98, 97, 99, 107, 117, 112]) = false := by rw [cmp_ba]; decide
    have q4 : ((ba [114, 101, 115, 116, 111, 114, 101]).toList == [114, 101, 116, 97, 105, 110]) = false := by rw [cmp_ba]; decide
    have q5 : ((ba [114, 101, 115, 116, 111, 114, 101]).toList == [112, 97, 115, 115]) = false := by rw [cmp_ba]; decide
    have q6 : ((ba [114, 101, 115, 116, 111, 114, 101]).toList == [99, 108, 111, 99, 107]) = false := by rw [cmp_ba]; decide
    have q7 : ((ba [114, 101, 115, 116, 111, 114, 101]).toList == [100, 114, 111, 112]) = false := by rw [cmp_ba]; decide
    have q8 : ((ba [114, 101, 115, 116, 111, 114, 101]).toList == [109, 101, 101, 116]) = false := by rw [cmp_ba]; decide
    have q9 : ((ba [114, 101, 115, 116, 111, 114, 101]).toList == [108, 111, 115, 101]) = false := by rw [cmp_ba]; decide
    have q10 : ((ba [114, 101, 115, 116, 111, 114, 101]).toList == [115, 101, 116, 116, 108, 101]) = false := by rw [cmp_ba]; decide
    have q11 : ((ba [114, 101, 115, 116, 111, 114, 101]).toList == [102, 97, 105, 108]) = false := by rw [cmp_ba]; decide
    have q12 : ((ba [114, 101, 115, 116, 111, 114, 101]).toList == [104, 111, 108, 100]) = false := by rw [cmp_ba]; decide
    have q13 : ((ba [114, 101, 115, 116, 111, 114, 101]).toList == [114, 101, 115, 116, 111, 114, 101]) = true := by rw [cmp_ba]; decide
    obtain ⟨a0, a1, a2, a3, rfl⟩ := len4 (valid_len (n := 4) HV.out (by decide +kernel))
    rw [show kf [114, 101, 115, 116, 111, 114, 101] 15 = 14 by decide +kernel] at hbk
    obtain ⟨xb, xo, rfl, hxb, _⟩ := hAr.at_ (k := 0) (by simp)
    have cx3 : wr.cell? ⟨xb, xo + 3, none⟩ = some (.string (ba a3)) := by
      obtain ⟨xb', xo', e, _, h⟩ := hAr.at_ (k := 3) (by simp)
      injection e with e
      injection e with e1 e2
      rw [e1, e2]
      exact h
    have e0 : wr.cell? ⟨w.heap.size, 0, none⟩ = some (.string (ba [114, 101, 115, 116, 111, 114, 101])) := (bxr.cell 0).trans rfl
    have e1 : wr.cell? ⟨w.heap.size, 1, none⟩ = some (.slice (some ⟨xb, xo, none⟩) 4 c) := (bxr.cell 1).trans rfl
    have hxe : xb ≠ eb := by have := HAL.out _ rfl (by simp); simp only at this; omega
    have hse : w.heap.size ≠ eb := by omega
    have CN0 := Lib.hid (fun W (k : Kept NoF wr W) => (show Calls Tryz.prog 47 #[.agg #[.string (ba [114, 101, 115, 116, 111, 114, 101]), .slice (some ⟨xb, xo, none⟩) 4 c], .int .i64 0] W fun e W' => e = .returned (.int .i64 (numR a0).1) ∧ Kept NoF wr W' ∧ (∀ i, W'.frozen? ⟨eb, i, none⟩ = false) ∧ W'.cell? ⟨eb, 3, none⟩ = some (.int .i64 0) ∧ W'.cell? ⟨eb, 1, none⟩ = some (.int .i64 0) ∧ W'.cell? ⟨eb, 7, none⟩ = some (.int .i64 0) ∧ W'.cell? ⟨eb, 4, none⟩ = some (.string (ba []))  from
      (rnumber_any (ba [114, 101, 115, 116, 111, 114, 101]) _ c [a0, a1, a2, a3] W (hAr.same k) 0 (by simp) HS1.out).mono (fun e W' (h : _ ∧ _) => by
        have k2 := k.trans (Kept.of_below (F := NoF) h.2) (fun _ h => .inl h)
        have hb := k2.blk hbk (fun h => h)
        exact ⟨h.1, k2, fun i => hb.frozen i, (hb.cell 3).trans rfl, (hb.cell 1).trans rfl, (hb.cell 7).trans rfl, (hb.cell 4).trans rfl⟩)))
    have CN1 := Lib.hid (fun W (k : Kept NoF wr W) => (show Calls Tryz.prog 47 #[.agg #[.string (ba [114, 101, 115, 116, 111, 114, 101]), .slice (some ⟨xb, xo, none⟩) 4 c], .int .i64 1] W fun e W' => e = .returned (.int .i64 (numR a1).1) ∧ Kept NoF wr W' ∧ (∀ i, W'.frozen? ⟨eb, i, none⟩ = false) ∧ W'.cell? ⟨eb, 3, none⟩ = some (.int .i64 0) ∧ W'.cell? ⟨eb, 1, none⟩ = some (.int .i64 0) ∧ W'.cell? ⟨eb, 7, none⟩ = some (.int .i64 0) ∧ W'.cell? ⟨eb, 4, none⟩ = some (.string (ba []))  from
      (rnumber_any (ba [114, 101, 115, 116, 111, 114, 101]) _ c [a0, a1, a2, a3] W (hAr.same k) 1 (by simp) HS1.out).mono (fun e W' (h : _ ∧ _) => by
        have k2 := k.trans (Kept.of_below (F := NoF) h.2) (fun _ h => .inl h)
        have hb := k2.blk hbk (fun h => h)
        exact ⟨h.1, k2, fun i => hb.frozen i, (hb.cell 3).trans rfl, (hb.cell 1).trans rfl, (hb.cell 7).trans rfl, (hb.cell 4).trans rfl⟩)))
    have CN2 := Lib.hid (fun W (k : Kept NoF wr W) => (show Calls Tryz.prog 47 #[.agg #[.string (ba [114, 101, 115, 116, 111, 114, 101]), .slice (some ⟨xb, xo, none⟩) 4 c], .int .i64 2] W fun e W' => e = .returned (.int .i64 (numR a2).1) ∧ Kept NoF wr W' ∧ (∀ i, W'.frozen? ⟨eb, i, none⟩ = false) ∧ W'.cell? ⟨eb, 3, none⟩ = some (.int .i64 0) ∧ W'.cell? ⟨eb, 1, none⟩ = some (.int .i64 0) ∧ W'.cell? ⟨eb, 7, none⟩ = some (.int .i64 0) ∧ W'.cell? ⟨eb, 4, none⟩ = some (.string (ba []))  from
      (rnumber_any (ba [114, 101, 115, 116, 111, 114, 101]) _ c [a0, a1, a2, a3] W (hAr.same k) 2 (by simp) HS1.out).mono (fun e W' (h : _ ∧ _) => by
        have k2 := k.trans (Kept.of_below (F := NoF) h.2) (fun _ h => .inl h)
        have hb := k2.blk hbk (fun h => h)
        exact ⟨h.1, k2, fun i => hb.frozen i, (hb.cell 3).trans rfl, (hb.cell 1).trans rfl, (hb.cell 7).trans rfl, (hb.cell 4).trans rfl⟩)))
    have SA := Lib.hid (fun W (k : Kept NoF wr W) => (⟨k.cell e0 (fun h => h), k.cell e1 (fun h => h), k.cell cx3 (fun h => h)⟩ : (fun (w' : World) => w'.cell? ⟨w.heap.size, 0, none⟩ = some (.string (ba [114, 101, 115, 116, 111, 114, 101])) ∧ w'.cell? ⟨w.heap.size, 1, none⟩ = some (.slice (some ⟨xb, xo, none⟩) 4 c) ∧ w'.cell? ⟨xb, xo + 3, none⟩ = some (.string (ba a3))) W))
    have SB := Lib.hid (fun (W : World) (i : Nat) (u : Value) (h : (fun (w' : World) => w'.cell? ⟨w.heap.size, 0, none⟩ = some (.string (ba [114, 101, 115, 116, 111, 114, 101])) ∧ w'.cell? ⟨w.heap.size, 1, none⟩ = some (.slice (some ⟨xb, xo, none⟩) 4 c) ∧ w'.cell? ⟨xb, xo + 3, none⟩ = some (.string (ba a3))) W) => (⟨cell_set_far h.1 hse, cell_set_far h.2.1 hse, cell_set_far h.2.2 hxe⟩ : (fun (w' : World) => w'.cell? ⟨w.heap.size, 0, none⟩ = some (.string (ba [114, 101, 115, 116, 111, 114, 101])) ∧ w'.cell? ⟨w.heap.size, 1, none⟩ = some (.slice (some ⟨xb, xo, none⟩) 4 c) ∧ w'.cell? ⟨xb, xo + 3, none⟩ = some (.string (ba a3))) (W.setCell ⟨eb, i, none⟩ u)))
    have k0 := (Kept.refl NoF wr).drew
    go_upto_region 40 with fail
    refine wp_region_noPanic ?_
    refine wp_region_held_drew (S := (fun (w' : World) => w'.cell? ⟨w.heap.size, 0, none⟩ = some (.string (ba [114, 101, 115, 116, 111, 114, 101])) ∧ w'.cell? ⟨w.heap.size, 1, none⟩ = some (.slice (some ⟨xb, xo, none⟩) 4 c) ∧ w'.cell? ⟨xb, xo + 3, none⟩ = some (.string (ba a3)))) (by kernel_rfl) ?_ (fun hHeld => ?_)
    · exact SA.out _ k0
    refine wpAnyH_take (i := 0) (v := ?_) rfl (by kernel_rfl) (by kernel_rfl) (by kernel_rfl) (fun _ _ _ h => h) (Or.inl ⟨by rfl, ?_⟩) hHeld ?_
    rotate_left
    · (intro w hSw; (try dsimp only at hSw); go_simp; try (with_reducible rfl))
    simp only [Act.put, List.getElem_toArray, List.getElem_cons_zero, List.setIfInBounds_toArray, List.set_cons_zero, List.set_cons_succ]
    refine wpAnyH_take (i := 2) (v := ?_) rfl (by kernel_rfl) (by kernel_rfl) (by kernel_rfl) (fun _ _ _ h => h) (Or.inl ⟨by rfl, ?_⟩) hHeld ?_
    rotate_left
    · (intro w hSw; (try dsimp only at hSw); go_simp; try (with_reducible rfl))
    simp only [Act.put, List.getElem_toArray, List.getElem_cons_zero, List.getElem_cons_succ, List.setIfInBounds_toArray, List.set_cons_zero, List.set_cons_succ]
    refine wpAnyH_take (i := 4) (v := ?_) rfl (by kernel_rfl) (by kernel_rfl) (by kernel_rfl) (fun _ _ _ h => h) (Or.inl ⟨by rfl, ?_⟩) hHeld ?_
    rotate_left
    · (intro w hSw; (try dsimp only at hSw); go_simp; try (with_reducible rfl))
    simp only [Act.put, List.getElem_toArray, List.getElem_cons_zero, List.getElem_cons_succ, List.setIfInBounds_toArray, List.set_cons_zero, List.set_cons_succ]
    refine wpAnyH_take (i := 6) (v := ?_) rfl (by kernel_rfl) (by kernel_rfl) (by kernel_rfl) (fun _ _ _ h => h) (Or.inl ⟨by rfl, ?_⟩) hHeld ?_
    rotate_left
    · (intro w hSw; (try dsimp only at hSw); go_simp; try (with_reducible rfl))
    simp only [Act.put, List.getElem_toArray, List.getElem_cons_zero, List.getElem_cons_succ, List.setIfInBounds_toArray, List.set_cons_zero, List.set_cons_succ]
    refine wpAnyH_take (i := 7) (v := ?_) rfl (by kernel_rfl) (by kernel_rfl) (by kernel_rfl) (fun _ _ _ h => h) (Or.inl ⟨by rfl, ?_⟩) hHeld ?_
    rotate_left
    · (intro w hSw; (try dsimp only at hSw); go_simp; try (with_reducible rfl))
    simp only [Act.put, List.getElem_toArray, List.getElem_cons_zero, List.getElem_cons_succ, List.setIfInBounds_toArray, List.set_cons_zero, List.set_cons_succ]
    refine wpAnyH_take (i := 8) (v := ?_) rfl (by kernel_rfl) (by kernel_rfl) (by kernel_rfl) (fun _ _ _ h => h) (Or.inl ⟨by rfl, ?_⟩) hHeld ?_
    rotate_left
    · (intro w hSw; (try dsimp only at hSw); go_simp; try (with_reducible rfl))
    simp only [Act.put, List.getElem_toArray, List.getElem_cons_zero, List.getElem_cons_succ, List.setIfInBounds_toArray, List.set_cons_zero, List.set_cons_succ]
    refine wpAnyH_take (i := 9) (v := ?_) rfl (by kernel_rfl) (by kernel_rfl) (by kernel_rfl) (fun _ _ _ h => h) (Or.inl ⟨by rfl, ?_⟩) hHeld ?_
    rotate_left
    · (intro w hSw; (try dsimp only at hSw); go_simp; try (with_reducible rfl))
    simp only [Act.put, List.getElem_toArray, List.getElem_cons_zero, List.getElem_cons_succ, List.setIfInBounds_toArray, List.set_cons_zero, List.set_cons_succ]
    refine wpAnyH_ready (rs := [1]) (by kernel_rfl) (by simp) ?_
    refine AllReadyH.cons rfl (fun K hK => ?_) AllReadyH.nil
    go_simp
    refine (CN0.out _ k0).mono ?_
    rintro e w0 ⟨rfl, k0, z0, f3, f1, f7, f4⟩
    go_wp2_with fail
    refine hK.out _ _ (SA.out _ k0) (fun hHeld => ?_)
    clear hK K
    try simp only [Act.put, List.getElem_toArray, List.getElem_cons_zero, List.getElem_cons_succ, List.setIfInBounds_toArray, List.set_cons_zero, List.set_cons_succ]
    refine wpAnyH_take (i := 10) (v := ?_) rfl (by kernel_rfl) (by kernel_rfl) (by kernel_rfl) (fun _ _ _ h => h) (Or.inl ⟨by rfl, ?_⟩) hHeld ?_
    rotate_left
    · (intro w hSw; (try dsimp only at hSw); go_simp; try (with_reducible rfl))
    simp only [Act.put, List.getElem_toArray, List.getElem_cons_zero, List.getElem_cons_succ, List.setIfInBounds_toArray, List.set_cons_zero, List.set_cons_succ]
    refine wpAnyH_ready (rs := [3]) (by kernel_rfl) (by simp) ?_
    refine AllReadyH.cons rfl (fun K hK => ?_) AllReadyH.nil
    go_simp
    refine (CN1.out _ k0).mono ?_
    rintro e w1 ⟨rfl, k1, z1, f3, f1, f7, f4⟩
    go_wp2_with fail
    refine hK.out _ _ (SA.out _ k1) (fun hHeld => ?_)
    clear hK K
    try simp only [Act.put, List.getElem_toArray, List.getElem_cons_zero, List.getElem_cons_succ, List.setIfInBounds_toArray, List.set_cons_zero, List.set_cons_succ]
    refine wpAnyH_ready (rs := [5]) (by kernel_rfl) (by simp) ?_
    refine AllReadyH.cons rfl (fun K hK => ?_) AllReadyH.nil
    go_simp
    refine (CN2.out _ k1).mono ?_
    rintro e w2 ⟨rfl, k2, z2, f3, f1, f7, f4⟩
    go_wp2_with fail
    refine hK.out _ _ (SA.out _ k2) (fun hHeld => ?_)
    clear hK K
    try simp only [Act.put, List.getElem_toArray, List.getElem_cons_zero, List.getElem_cons_succ, List.setIfInBounds_toArray, List.set_cons_zero, List.set_cons_succ]
    refine wpAnyH_ready (rs := [11]) (by kernel_rfl) (by simp) ?_
    refine AllReadyH.cons rfl (fun K hK => ?_) AllReadyH.nil
    go_simp
    refine hK.out _ _ (SB.out _ _ _ hHeld) (fun hHeld => ?_)
    clear hK K
    try simp only [Act.put, List.getElem_toArray, List.getElem_cons_zero, List.getElem_cons_succ, List.setIfInBounds_toArray, List.set_cons_zero, List.set_cons_succ]
    refine wpAnyH_take (i := 12) (v := ?_) rfl (by kernel_rfl) (by kernel_rfl) (by kernel_rfl) (fun _ _ _ h => h) (Or.inl ⟨by rfl, ?_⟩) hHeld ?_
    rotate_left
    · (intro w hSw; (try dsimp only at hSw); go_simp; try (with_reducible rfl))
    simp only [Act.put, List.getElem_toArray, List.getElem_cons_zero, List.getElem_cons_succ, List.setIfInBounds_toArray, List.set_cons_zero, List.set_cons_succ]
    refine wpAnyH_ready (rs := [13]) (by kernel_rfl) (by simp) ?_
    refine AllReadyH.cons rfl (fun K hK => ?_) AllReadyH.nil
    go_simp
    refine hK.out _ _ (SB.out _ _ _ hHeld) (fun hHeld => ?_)
    clear hK K
    try simp only [Act.put, List.getElem_toArray, List.getElem_cons_zero, List.getElem_cons_succ, List.setIfInBounds_toArray, List.set_cons_zero, List.set_cons_succ]
    refine wpAnyH_take (i := 14) (v := ?_) rfl (by kernel_rfl) (by kernel_rfl) (by kernel_rfl) (fun _ _ _ h => h) (Or.inl ⟨by rfl, ?_⟩) hHeld ?_
    rotate_left
    · (intro w hSw; (try dsimp only at hSw); go_simp; try (with_reducible rfl))
    simp only [Act.put, List.getElem_toArray, List.getElem_cons_zero, List.getElem_cons_succ, List.setIfInBounds_toArray, List.set_cons_zero, List.set_cons_succ]
    refine wpAnyH_ready (rs := [15]) (by kernel_rfl) (by simp) ?_
    refine AllReadyH.cons rfl (fun K hK => ?_) AllReadyH.nil
    go_simp
    refine hK.out _ _ (SB.out _ _ _ hHeld) (fun hHeld => ?_)
    clear hK K
    try simp only [Act.put, List.getElem_toArray, List.getElem_cons_zero, List.getElem_cons_succ, List.setIfInBounds_toArray, List.set_cons_zero, List.set_cons_succ]
    refine wpAnyH_take (i := 16) (v := ?_) rfl (by kernel_rfl) (by kernel_rfl) (by kernel_rfl) (fun _ _ _ h => h) (Or.inl ⟨by rfl, ?_⟩) hHeld ?_
    rotate_left
    · (intro w hSw; (try dsimp only at hSw); go_simp; try (with_reducible rfl))
    simp only [Act.put, List.getElem_toArray, List.getElem_cons_zero, List.getElem_cons_succ, List.setIfInBounds_toArray, List.set_cons_zero, List.set_cons_succ]
    refine wpAnyH_ready (rs := [17]) (by kernel_rfl) (by simp) ?_
    refine AllReadyH.cons rfl (fun K hK => ?_) AllReadyH.nil
    go_simp
    refine hK.out _ _ (SB.out _ _ _ hHeld) (fun hHeld => ?_)
    clear hK K
    try simp only [Act.put, List.getElem_toArray, List.getElem_cons_zero, List.getElem_cons_succ, List.setIfInBounds_toArray, List.set_cons_zero, List.set_cons_succ]
    refine wpAnyH_done (by kernel_rfl) ?_ _
    refine NoPanic.normal ?_
    have hbE : Blk ((((w2.setCell ⟨eb, 3, none⟩ (.int .i64 (numR a0).1)).setCell ⟨eb, 1, none⟩ (.int .i64 (numR a1).1)).setCell ⟨eb, 7, none⟩ (.int .i64 (numR a2).1)).setCell ⟨eb, 4, none⟩ (.string (ba a3))) eb 50 (({ ev0 14 with vault := nv a0, dev := nv a1, num := nv a2, path := a3 } : EvD).cells (.slice none 0 0)) := ((((k2.blk hbk (fun h => h)).set_ 3 (.int .i64 (numR a0).1)).set_ 1 (.int .i64 (numR a1).1)).set_ 7 (.int .i64 (numR a2).1)).set_ 4 (.string (ba a3))
    have kz : Kept (fun x => x = eb) wr ((((w2.setCell ⟨eb, 3, none⟩ (.int .i64 (numR a0).1)).setCell ⟨eb, 1, none⟩ (.int .i64 (numR a1).1)).setCell ⟨eb, 7, none⟩ (.int .i64 (numR a2).1)).setCell ⟨eb, 4, none⟩ (.string (ba a3))) := ((((k2.mono (G := fun x => x = eb) (fun _ h => h.elim)).setCell (p := ⟨eb, 3, none⟩) (.inl rfl) (.int .i64 (numR a0).1)).setCell (p := ⟨eb, 1, none⟩) (.inl rfl) (.int .i64 (numR a1).1)).setCell (p := ⟨eb, 7, none⟩) (.inl rfl) (.int .i64 (numR a2).1)).setCell (p := ⟨eb, 4, none⟩) (.inl rfl) (.string (ba a3))
    have hdE : DatAt ((((w2.setCell ⟨eb, 3, none⟩ (.int .i64 (numR a0).1)).setCell ⟨eb, 1, none⟩ (.int .i64 (numR a1).1)).setCell ⟨eb, 7, none⟩ (.int .i64 (numR a2).1)).setCell ⟨eb, 4, none⟩ (.string (ba a3))) eb (.slice none 0 0) ({ ev0 14 with vault := nv a0, dev := nv a1, num := nv a2, path := a3 } : EvD).data := DatAt.nil _ _
    generalize (((w2.setCell ⟨eb, 3, none⟩ (.int .i64 (numR a0).1)).setCell ⟨eb, 1, none⟩ (.int .i64 (numR a1).1)).setCell ⟨eb, 7, none⟩ (.int .i64 (numR a2).1)).setCell ⟨eb, 4, none⟩ (.string (ba a3)) = wz at hbE kz hdE ⊢
    have HR : Hid (evR [114, 101, 115, 116, 111, 114, 101] [a0, a1, a2, a3] = (({ ev0 14 with vault := nv a0, dev := nv a1, num := nv a2, path := a3 } : EvD), 0)) := Lib.hid (HEV.out.trans rfl)
    obtain ⟨D, cd, hv, hrd, hdn⟩ := hdE
    rw [hv] at hbE
    have HRD := Lib.hid hrd
    have HDN := Lib.hid hdn
    clear hrd hdn hv
    generalize ({ ev0 14 with vault := nv a0, dev := nv a1, num := nv a2, path := a3 } : EvD) = ev at hbE HR HRD ⊢
    have bzr := kz.blk brr (by show ¬ w.heap.size + 1 = eb; omega)
    have zr : ∀ i, wz.frozen? ⟨w.heap.size + 1, i, none⟩ = false := fun i => bzr.frozen i
    have e0 := (hbE.cell 0).trans (show (ev.cells (.slice D ev.data.length cd))[0]? = some (.int .i64 ev.kind) from rfl)
    have e1 := (hbE.cell 1).trans (show (ev.cells (.slice D ev.data.length cd))[1]? = some (.int .i64 ev.dev) from rfl)
    have e2 := (hbE.cell 2).trans (show (ev.cells (.slice D ev.data.length cd))[2]? = some (.int .i64 ev.oth) from rfl)
    have e3 := (hbE.cell 3).trans (show (ev.cells (.slice D ev.data.length cd))[3]? = some (.int .i64 ev.vault) from rfl)
    have e4 := (hbE.cell 4).trans (show (ev.cells (.slice D ev.data.length cd))[4]? = some (.string (ba ev.path)) from rfl)
    have e5 := (hbE.cell 5).trans (show (ev.cells (.slice D ev.data.length cd))[5]? = some (.string (ba ev.dest)) from rfl)
    have e6 := (hbE.cell 6).trans (show (ev.cells (.slice D ev.data.length cd))[6]? = some (.slice D ev.data.length cd) from rfl)
    have e7 := (hbE.cell 7).trans (show (ev.cells (.slice D ev.data.length cd))[7]? = some (.int .i64 ev.num) from rfl)
    have e8 := (hbE.cell 8).trans (show (ev.cells (.slice D ev.data.length cd))[8]? = some (.int .i64 ev.cut) from rfl)
    have e9 := (hbE.cell 9).trans (show (ev.cells (.slice D ev.data.length cd))[9]? = some (.bool ev.on) from rfl)
    have r0 := (bzr.cell 0).trans (show ((ev0 0).cells (.slice none 0 0))[0]? = some (.int .i64 0) from rfl)
    have r1 := (bzr.cell 1).trans (show ((ev0 0).cells (.slice none 0 0))[1]? = some (.int .i64 0) from rfl)
    have r2 := (bzr.cell 2).trans (show ((ev0 0).cells (.slice none 0 0))[2]? = some (.int .i64 0) from rfl)
    have r3 := (bzr.cell 3).trans (show ((ev0 0).cells (.slice none 0 0))[3]? = some (.int .i64 0) from rfl)
    have r4 := (bzr.cell 4).trans (show ((ev0 0).cells (.slice none 0 0))[4]? = some (.string (ba [])) from rfl)
    have r5 := (bzr.cell 5).trans (show ((ev0 0).cells (.slice none 0 0))[5]? = some (.string (ba [])) from rfl)
    have r6 := (bzr.cell 6).trans (show ((ev0 0).cells (.slice none 0 0))[6]? = some (.slice none 0 0) from rfl)
    have r7 := (bzr.cell 7).trans (show ((ev0 0).cells (.slice none 0 0))[7]? = some (.int .i64 0) from rfl)
    have r8 := (bzr.cell 8).trans (show ((ev0 0).cells (.slice none 0 0))[8]? = some (.int .i64 0) from rfl)
    have r9 := (bzr.cell 9).trans (show ((ev0 0).cells (.slice none 0 0))[9]? = some (.bool false) from rfl)
    have HKZ := Lib.hid kz
    have HBZ := Lib.hid bzr
    clear kz bzr hbE
    go_wp2_with fail
    have hbz := blk_sets HBZ.out (evList ev (.slice D ev.data.length cd))
    rw [evList_cells] at hbz
    refine bodyPost_ret (results_hap (cs := ev.cells (.slice D ev.data.length cd)) rfl rfl hbz) rfl ?_
    rw [HR.out]
    refine ⟨.slice D ev.data.length cd, D, cd, ?_, rfl, ?_, ?_⟩
    · exact rfl
    · exact (kept_sets (F := fun x => x = w.heap.size + 1) (Kept.refl _ wz) (w.heap.size + 1) (.inl rfl) (evList ev (.slice D ev.data.length cd))).src HRD.out (fun ad e _ => by have := HDN.out ad e; show ¬ ad.block = w.heap.size + 1; omega)
    · exact below_sets (HBW.out.trans (HKZ.out.below (B := w.heap.size) HBW.out.size (fun x h => by subst h; omega))) (w.heap.size + 1) (by omega) (evList ev (.slice D ev.data.length cd))

end Go.Proofs.YtfnfjfcncijapaaGreatDoor
