/- kinkeepref56: digit, Parts, Words. -/
import Derived.Test.YtfnfjfcncijapaaGreatDoorPlain
namespace Go.Proofs.YtfnfjfcncijapaaGreatDoor
open Go.RowKit Go.Shelf
attribute [local go_sem] Oper.semAt_some

theorem ba_mid (s : ByteArray) (f i : Nat) : s.extract f i = ba ((s.data.toList.drop f).take (i - f)) := by
  obtain ⟨⟨l⟩⟩ := s
  simp [ba, ByteArray.extract, ByteArray.copySlice]

/-- Parts so far: the list, where the part begins, where the loop stands. -/
def PartsRel (w : World) (c : UInt8) (l : List UInt8) (v f i : Value) (wr : World) : Prop :=
  ∃ (j k : Nat) (acc : List (List UInt8)), i = .int .i64 (j : Int) ∧ f = .int .i64 (k : Int) ∧ k ≤ j ∧ j ≤ l.length + 1 ∧ acc.length ≤ k ∧ wr.ownsRow w.heap.size 9 1 v acc.length (strs acc) ∧ Below w.heap.size w wr ∧
    (j ≤ l.length → acc ++ parts c (l.drop k) = parts c l ∧ ∀ m, k ≤ m → m < j → l[m]? ≠ some c) ∧ (j = l.length + 1 → acc = parts c l)

theorem strs_append (a b : List (List UInt8)) : strs (a ++ b) = strs a ++ strs b := by simp [strs]

theorem parts_step {c : UInt8} {l : List UInt8} {k j : Nat} {acc : List (List UInt8)} (hk : k ≤ j) (hj : j < l.length) (hc : l[j] = c) (h : acc ++ parts c (l.drop k) = parts c l ∧ ∀ m, k ≤ m → m < j → l[m]? ≠ some c) :
    (acc ++ [(l.drop k).take (j - k)]) ++ parts c (l.drop (j + 1)) = parts c l := by
  have hs := @parts_some c (l.drop k) (j - k) (by rw [List.getElem?_drop, show k + (j - k) = j by omega, List.getElem?_eq_getElem hj, hc]) (fun m hm => by rw [List.getElem?_drop]; exact h.2 _ (by omega) (by omega))
  rw [← h.1, hs, List.append_assoc, List.drop_drop, show k + (j - k + 1) = j + 1 by omega]
  rfl
theorem parts_stop {c : UInt8} {l : List UInt8} {k : Nat} {acc : List (List UInt8)} (h : acc ++ parts c (l.drop k) = parts c l ∧ ∀ m, k ≤ m → m < l.length → l[m]? ≠ some c) :
    acc ++ [(l.drop k).take (l.length - k)] = parts c l := by
  rw [← h.1, parts_none (l := l.drop k)]
  · rw [List.take_of_length_le (by simp)]
  · intro x hx e
    subst e
    obtain ⟨m, hm, e⟩ := List.mem_iff_getElem.1 hx
    rw [List.length_drop] at hm
    refine h.2 (k + m) (by omega) (by omega) ?_
    rw [← List.getElem?_drop, List.getElem?_eq_getElem (by rw [List.length_drop]; exact hm), e]

/-- A list of strings is handed out. -/
def StrsPost (l : List (List UInt8)) (w : World) (e : Ending) (w' : World) : Prop := ∃ B cb, e = .returned (.slice B l.length cb) ∧ StrsAt w' B l ∧ (∀ ad, B = some ad → w.heap.size ≤ ad.block) ∧ Below w.heap.size w w'

set_option maxHeartbeats 1000000 in
set_option maxRecDepth 100000 in
theorem rparts_any (s : ByteArray) (c : UInt8) (w : World) (hs : s.size ≤ 65536) :
    Calls Tryz.prog 31 #[.string s, .int .u8 (c.toNat : Int)] w (StrsPost (parts c s.data.toList) w) := by
  obtain ⟨i0, hi, hz0, hz1, hz2⟩ := info_parts info9
  go_enter Tryz.func31, Tryz.ntmps31
  go_wp2_with fail
  go_loopw [5, 6, 7] (PartsRel w c s.data.toList) (fun _ _ i _ => s.size + 1 - (intOf i).toNat)
  case atStart => exact ⟨0, 0, [], rfl, rfl, Nat.le_refl _, by omega, Nat.le_refl _, World.ownsRow_made w #[] 0 (Nat.le_refl _) (by simp) (by simp), (Below.refl _ _).alloc (Nat.le_refl _) _, fun _ => ⟨rfl, fun m h1 h2 => by omega⟩, fun h => by omega⟩
  case round =>
    obtain ⟨j, k, acc, rfl, rfl, hkj, hjl, hak, how, hb, hA, hZ⟩ := hrel
    rw [← size_list] at hjl hA hZ
    have HA := Lib.hid hA
    have HZ := Lib.hid hZ
    clear hA hZ
    have hwz := hb.size
    by_cases hlt : j < s.size
    · have hc : s[j].toNat < 256 := s[j].toNat_lt
      have t0 : ((j : Int) == (s.size : Int)) = false := by simp; omega
      have hg : s.data.toList[j]? = some s[j] := by rw [List.getElem?_eq_getElem (by rw [← size_list]; exact hlt)]; rfl
      by_cases he : s[j] = c
      · have t1 : ((s[j].toNat : Int) == (c.toNat : Int)) = true := by rw [he]; simp
        have hgc : s.data.toList[j]'(by rw [← size_list]; exact hlt) = c := by rw [← he]; rfl
        have HST := Lib.hid (parts_step hkj (by rw [← size_list]; exact hlt) hgc (HA.out (by omega)))
        clear he hg hgc
        go_wp2_with (at_builtin; refine wpList_append_own_at _ rfl _ _ 37 rfl w.heap.size 9 i0 (.string ⟨#[]⟩) 1 16 Tryz.underlying37 hi hz0 hz1 hz2 rfl (by decide) _ _ _ rfl (how.alloc _) ⟨wr.heap.size, 0, none⟩ 1 1 [.string (s.extract k j)] rfl rfl ?d1 ?d2 ?d3 ?d4 ?d5 ?_)
        case d1 => exact cell_one_new _ _ _
        case d2 => intro u hu; simp at hu; subst hu; rfl
        case d3 => unfold maxLen; omega
        case d4 => omega
        case d5 => simp; omega
        intro v' w1 hown' hgrow _ hat
        obtain ⟨g', cap', rfl⟩ := ownsRow_succ hown'
        have bw1 : Below w.heap.size w w1 := (hb.alloc hwz _).grown hgrow (by simp; omega) (fun k hk => (how.lt k hk).1)
        go_wp2_with fail
        go_roundw
        case rel =>
          refine ⟨j + 1, j + 1, acc ++ [(s.data.toList.drop k).take (j - k)], by go_num, by go_num, Nat.le_refl _, by rw [← size_list]; omega, by simp; omega, ?_, bw1, fun _ => ⟨HST.out, fun m h1 h2 => by omega⟩, fun h => by rw [← size_list] at h; omega⟩
          rw [ba_mid] at hown'
          rw [strs_append, List.length_append]
          exact hown'
        case measure => simp [intOf]; omega
      · have t1 : ((s[j].toNat : Int) == (c.toNat : Int)) = false := by
          simp only [beq_eq_false_iff_ne, ne_eq]; exact fun e => he (UInt8.toNat_inj.1 (by omega))
        go_wp2_with fail
        go_roundw
        case rel =>
          refine ⟨j + 1, k, acc, by go_num, rfl, by omega, by rw [← size_list]; omega, hak, how, hb, fun _ => ⟨(HA.out (by omega)).1, fun m h1 h2 => ?_⟩, fun h => by rw [← size_list] at h; omega⟩
          by_cases hm : m = j
          · rw [hm, hg]; simpa using he
          · exact (HA.out (by omega)).2 m h1 (by omega)
        case measure => simp [intOf]; omega
    · by_cases hj : j = s.size
      · subst hj
        have t0 : ((s.size : Int) == (s.size : Int)) = true := by simp
        have HST := Lib.hid (parts_stop (by rw [← size_list]; exact HA.out (by omega)))
        have h0 : (0 : Int) ≤ (k : Int) := by omega
        go_wp2_with (at_builtin; refine wpList_append_own_at _ rfl _ _ 37 rfl w.heap.size 9 i0 (.string ⟨#[]⟩) 1 16 Tryz.underlying37 hi hz0 hz1 hz2 rfl (by decide) _ _ _ rfl (how.alloc _) ⟨wr.heap.size, 0, none⟩ 1 1 [.string (s.extract k s.size)] rfl rfl ?d1 ?d2 ?d3 ?d4 ?d5 ?_)
        case d1 => exact cell_one_new _ _ _
        case d2 => intro u hu; simp at hu; subst hu; rfl
        case d3 => unfold maxLen; omega
        case d4 => omega
        case d5 => simp; omega
        intro v' w1 hown' hgrow _ hat
        obtain ⟨g', cap', rfl⟩ := ownsRow_succ hown'
        have bw1 : Below w.heap.size w w1 := (hb.alloc hwz _).grown hgrow (by simp; omega) (fun k hk => (how.lt k hk).1)
        go_wp2_with fail
        go_roundw
        case rel =>
          refine ⟨s.size + 1, s.size + 1, acc ++ [(s.data.toList.drop k).take (s.data.toList.length - k)], by go_num, by go_num, Nat.le_refl _, by rw [← size_list]; omega, by simp; omega, ?_, bw1, fun h => by rw [← size_list] at h; omega, fun _ => HST.out⟩
          rw [ba_mid, size_list] at hown'
          rw [strs_append, List.length_append]
          exact hown'
        case measure => simp [intOf]
      · obtain rfl : j = s.size + 1 := by omega
        have t1 : decide ((s.size : Int) + 1 ≤ (s.size : Int)) = false := by simp; omega
        have hacc := HZ.out rfl
        subst hacc
        obtain ⟨B, cb, rfl, _, _⟩ := own_form how
        clear HA HZ
        go_wp2_with fail
        go_ret
        exact ⟨B, cb, rfl, Reads.of_own how, fun ad e => (how.lt ad.block (by rw [e]; rfl)).1, hb⟩

/-- Words so far. -/
def WordsRel (w : World) (B : Option Addr) (ps : List (List UInt8)) (v i : Value) (wr : World) : Prop :=
  ∃ (j : Nat) (acc : List (List UInt8)), j ≤ ps.length ∧ i = .int .i64 (j : Int) ∧ acc = (ps.take j).filter (fun p => !p.isEmpty) ∧ acc.length ≤ j ∧ wr.ownsRow w.heap.size 9 1 v acc.length (strs acc) ∧ Below w.heap.size w wr ∧ StrsAt wr B ps ∧ (∀ ad, B = some ad → v.ownBlock ≠ some ad.block)
theorem filter_snoc {ps : List (List UInt8)} {j : Nat} (h : j < ps.length) : (ps.take (j + 1)).filter (fun p => !p.isEmpty) = (ps.take j).filter (fun p => !p.isEmpty) ++ (if ps[j] = [] then [] else [ps[j]]) := by
  rw [List.take_succ_eq_append_getElem h, List.filter_append]
  congr 1
  cases hp : ps[j] with
  | nil => simp
  | cons a b => simp
theorem StrsAt.grown {w w' : World} {B : Option Addr} {ps : List (List UInt8)} {row : Option Nat} (h : StrsAt w B ps) (hg : w.grownBy w' row) (hB : ∀ ad, B = some ad → row ≠ some ad.block) : StrsAt w' B ps :=
  (show Kept (fun k => row = some k) w w' from ⟨hg.os, hg.tape, hg.output, hg.size, fun k hk hn => hg.block k hk (fun e => hn e.symm)⟩).src h (fun ad e _ => hB ad e)

set_option maxHeartbeats 1000000 in
set_option maxRecDepth 100000 in
theorem rwords_any (s : ByteArray) (w : World) (hs : s.size ≤ 65536) :
    Calls Tryz.prog 32 #[.string s] w (StrsPost (wordsOf s.data.toList) w) := by
  obtain ⟨i0, hi, hz0, hz1, hz2⟩ := info_parts info9
  have how0 : (w.alloc (.cells #[] 9)).ownsRow w.heap.size 9 1 (.slice (some ⟨w.heap.size, 0, none⟩) 0 0) 0 [] := World.ownsRow_made w #[] 0 (Nat.le_refl _) (by simp) (by simp)
  have k0 : Below w.heap.size w (w.alloc (.cells #[] 9)) := (Below.refl _ _).alloc (Nat.le_refl _) _
  go_enter Tryz.func32, Tryz.ntmps32
  go_wp2_with fail
  refine (rparts_any s 32 _ hs).mono ?_
  rintro e w2 ⟨B, cb, rfl, hB, hBf, bB⟩
  have kB : Kept NoF _ w2 := Kept.of_below bB
  have how1 := kB.own how0 (fun _ _ h => h)
  have k1 := k0.trans (bB.mono (by simp))
  have hpl := parts_length 32 s.data.toList
  rw [← size_list] at hpl
  have hB0 : ∀ ad, B = some ad → (Value.slice (some ⟨w.heap.size, 0, none⟩) 0 0).ownBlock ≠ some ad.block := fun ad e h => by
    have := hBf ad e
    simp only [World.size_alloc] at this
    simp only [Value.ownBlock, Option.some.injEq] at h
    omega
  generalize hps : parts 32 s.data.toList = ps at hpl hB ⊢
  have HPS := Lib.hid hps
  clear hps
  clear how0 k0 kB bB hBf
  go_wp2_with fail
  go_loopw [3, 5] (WordsRel w B ps) (fun _ i _ => ps.length - (intOf i).toNat)
  case atStart => exact ⟨0, [], Nat.zero_le _, rfl, rfl, Nat.le_refl _, how1, k1, hB, hB0⟩
  case round =>
    clear hB how1 k1 hB0
    obtain ⟨j, acc, hj, rfl, hacc, haj, how, hb, hB, hBv⟩ := hrel
    have HACC := Lib.hid hacc
    clear hacc
    have hwz := hb.size
    by_cases hlt : j < ps.length
    · obtain ⟨xb, xo, rfl, hxb, cx⟩ := hB.at_ hlt
      have i1 : (j : Int) < (ps.length : Int) := by omega
      have hsn := filter_snoc hlt
      by_cases he : ps[j] = []
      · rw [if_pos he, List.append_nil] at hsn
        rw [he] at cx
        have HSN := Lib.hid hsn
        have e1 := ba_empty
        clear he hsn
        go_wp2_with fail
        go_roundw
        case rel => exact ⟨j + 1, acc, hlt, by go_num, by rw [HSN.out]; exact HACC.out, by omega, how, hb, hB, hBv⟩
        case measure => simp [intOf]; omega
      · rw [if_neg he] at hsn
        have HSN := Lib.hid hsn
        have e1 := ba_full he
        clear he hsn
        go_wp2_with (at_builtin; refine wpList_append_own_at _ rfl _ _ 37 rfl w.heap.size 9 i0 (.string ⟨#[]⟩) 1 16 Tryz.underlying37 hi hz0 hz1 hz2 rfl (by decide) _ _ _ rfl (how.alloc _) ⟨wr.heap.size, 0, none⟩ 1 1 [.string (ba ps[j])] rfl rfl ?d1 ?d2 ?d3 ?d4 ?d5 ?_)
        case d1 => exact cell_one_new _ _ _
        case d2 => intro u hu; simp at hu; subst hu; rfl
        case d3 => unfold maxLen; omega
        case d4 => omega
        case d5 => simp; omega
        intro v' w1 hown' hgrow _ hat
        obtain ⟨g', cap', rfl⟩ := ownsRow_succ hown'
        have bw1 : Below w.heap.size w w1 := (hb.alloc hwz _).grown hgrow (by simp; omega) (fun k hk => (how.lt k hk).1)
        go_wp2_with fail
        go_roundw
        case rel =>
          refine ⟨j + 1, acc ++ [ps[j]], hlt, by go_num, by rw [HSN.out, HACC.out], by simp; omega, ?_, bw1, ?_, ?_⟩
          · rw [strs_append, List.length_append]
            exact hown'
          · exact StrsAt.grown (((Kept.refl NoF wr).alloc _).src hB (fun _ _ _ h => h)) hgrow hBv
          · intro ad e
            injection e with e
            subst e
            rcases hat with h | h
            · rw [h]; exact hBv _ rfl
            · rw [h]; simp only [ne_eq, Option.some.injEq]; omega
        case measure => simp [intOf]; omega
    · obtain rfl : j = ps.length := by omega
      have hacc := HACC.out
      rw [List.take_length] at hacc
      have HC := Lib.hid hacc
      obtain ⟨C, cc, rfl, _, _⟩ := own_form how
      clear HACC hacc
      go_wp2_with fail
      go_ret
      rw [show wordsOf s.data.toList = acc by unfold wordsOf; rw [HPS.out, HC.out]]
      exact ⟨C, cc, rfl, Reads.of_own how, fun ad e => (how.lt ad.block (by rw [e]; rfl)).1, hb⟩

end Go.Proofs.YtfnfjfcncijapaaGreatDoor
