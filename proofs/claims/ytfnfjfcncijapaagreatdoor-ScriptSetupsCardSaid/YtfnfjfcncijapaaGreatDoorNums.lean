/- kinkeepref56.Numbers (printed by gennums.py). -/
import Derived.Test.YtfnfjfcncijapaaGreatDoorNumber
import Derived.Test.YtfnfjfcncijapaaGreatDoorRefA
namespace Go.Proofs.YtfnfjfcncijapaaGreatDoor
open Go.RowKit Go.Shelf
attribute [local go_sem] Oper.semAt_some

/-- The numbers of strings. -/
def numsOf : List (List UInt8) → Option (List Int)
  | [] => some []
  | p :: r => if (numR p).2 = true then (numsOf r).map ((numR p).1 :: ·) else none
def ints (l : List Int) : List Value := l.map (.int .i64 ·)
theorem numsOf_append : ∀ (r q : List (List UInt8)), numsOf (r ++ q) = match numsOf r with | some a => (numsOf q).map (a ++ ·) | none => none
  | [], q => by simp [numsOf]
  | w :: r, q => by
    have ih := numsOf_append r q
    simp only [List.cons_append, numsOf]
    split
    · rw [ih]
      cases numsOf r with
      | none => rfl
      | some a =>
        simp only [Option.map_some]
        rw [Option.map_map]
        congr 1
    · rfl
theorem numsOf_snoc {r : List (List UInt8)} {acc : List Int} {j : Nat} (h : j < r.length) (ha : numsOf (r.take j) = some acc) (ht : (numR r[j]).2 = true) : numsOf (r.take (j + 1)) = some (acc ++ [(numR r[j]).1]) := by
  rw [List.take_succ_eq_append_getElem h, numsOf_append, ha]
  simp [numsOf, ht]
theorem numsOf_none {r : List (List UInt8)} {acc : List Int} {j : Nat} (h : j < r.length) (ha : numsOf (r.take j) = some acc) (ht : (numR r[j]).2 = false) : numsOf r = none := by
  rw [← List.take_append_drop j r, numsOf_append, ha, List.drop_eq_getElem_cons h]
  simp [numsOf, ht]
theorem numsB_numsOf (l : List UInt8) : numsB l = (numsOf (parts 44 l)).isSome := by
  unfold numsB
  induction parts 44 l with
  | nil => rfl
  | cons p r ih =>
    simp only [List.all_cons, numsOf, isNum_numR, ih]
    cases (numR p).2 <;> simp

/-- What is handed out. -/
def NumsPost (r : Option (List Int)) (w : World) (e : Ending) (w' : World) : Prop :=
  (∃ B cb, e = .returned (.tuple #[.slice B (r.getD []).length cb, .bool r.isSome]) ∧ Reads w' w'.heap.size 1 B (r.getD []).length (ints (r.getD [])) ∧ (∀ ad, B = some ad → w.heap.size ≤ ad.block)) ∧ Below w.heap.size w w'
def NumsRel (w : World) (B : Option Addr) (ps : List (List UInt8)) (v i : Value) (wr : World) : Prop :=
  ∃ (j : Nat) (acc : List Int), j ≤ ps.length ∧ i = .int .i64 (j : Int) ∧ numsOf (ps.take j) = some acc ∧ acc.length ≤ j ∧ wr.ownsRow w.heap.size 3 1 v acc.length (ints acc) ∧ Below w.heap.size w wr ∧ StrsAt wr B ps ∧ (∀ ad, B = some ad → v.ownBlock ≠ some ad.block)
theorem info3 : (Tryz.prog.info? 3).map (fun i => (i.zero, i.size, i.bytes)) = some (some (.int .i64 0), 1, 8) := by kernel_rfl
theorem cell_new3 (W : World) (t : TypeId) (v : Value) : ∀ (j : Nat) (u : Value), [v][j]? = some u → (W.alloc (.cells #[v] t)).cell? (Addr.add ⟨W.heap.size, 0, none⟩ j) = some u := by
  intro q u hu
  rw [Addr.add_lit, (Blk.new W t _).cell, Nat.zero_add, ← Array.getElem?_toList]
  exact hu

set_option maxHeartbeats 1000000 in
set_option maxRecDepth 100000 in
theorem numbers_any (s : ByteArray) (w : World) (hs : s.size ≤ 65536) : Calls Tryz.prog 65 #[.string s] w (NumsPost (numsOf (parts 44 s.data.toList)) w) := by
  obtain ⟨i0, hi, hz0, hz1, hz2⟩ := info_parts info3
  have how0 : (w.alloc (.cells #[] 3)).ownsRow w.heap.size 3 1 (.slice (some ⟨w.heap.size, 0, none⟩) 0 0) 0 [] := World.ownsRow_made w #[] 0 (Nat.le_refl _) (by simp) (by simp)
  have k0 : Below w.heap.size w (w.alloc (.cells #[] 3)) := (Below.refl _ _).alloc (Nat.le_refl _) _
  have hpl := parts_length 44 s.data.toList
  rw [← size_list] at hpl
  have hpm : ∀ p ∈ parts 44 s.data.toList, p.length ≤ 65536 := fun p hp => by have := parts_mem_le hp; rw [← size_list] at this; omega
  have CP := rparts_any s 44 (w.alloc (.cells #[] 3)) hs
  generalize parts 44 s.data.toList = ps at hpl hpm CP ⊢
  have HCP := Lib.hid CP
  clear CP
  go_enter Tryz.func65, Tryz.ntmps65
  go_wp2_with fail
  refine HCP.out.mono ?_
  clear HCP
  rintro e w2 ⟨B, cb, rfl, hB, hBf, bB⟩
  have kB : Kept NoF _ w2 := Kept.of_below bB
  have how1 := kB.own how0 (fun _ _ h => h)
  have k1 := k0.trans (bB.mono (by simp))
  have hB0 : ∀ ad, B = some ad → (Value.slice (some ⟨w.heap.size, 0, none⟩) 0 0).ownBlock ≠ some ad.block := fun ad e h => by
    have := hBf ad e
    simp only [World.size_alloc] at this
    simp only [Value.ownBlock, Option.some.injEq] at h
    omega
  clear how0 k0 kB bB hBf
  go_wp2_with fail
  go_loopw [4, 6] (NumsRel w B ps) (fun _ i _ => ps.length - (intOf i).toNat)
  case atStart => exact ⟨0, [], Nat.zero_le _, rfl, rfl, Nat.le_refl _, how1, k1, hB, hB0⟩
  case round =>
    clear hB how1 k1 hB0
    obtain ⟨j, acc, hj, rfl, hacc, haj, how, hb, hB, hBv⟩ := hrel
    have HACC := Lib.hid hacc
    clear hacc
    have hwz := hb.size
    by_cases hlt : j < ps.length
    · obtain ⟨xb, xo, rfl, hxb, cx⟩ := hB.at_ hlt
      have i1 : (j : Int) < (ps.length : Int) := by omega
      have CN := number_any (ba ps[j]) wr (by rw [ba_size]; have := hpm _ (List.getElem_mem hlt); omega)
      rw [ba_toList] at CN
      have h1 := @numsOf_snoc ps acc j hlt HACC.out
      have h2 := @numsOf_none ps acc j hlt HACC.out
      generalize numR ps[j] = nr at CN h1 h2
      obtain ⟨n, ok⟩ := nr
      dsimp only at h1 h2
      have HCN := Lib.hid CN
      have H1 := Lib.hid h1
      have H2 := Lib.hid h2
      clear CN h1 h2 hpm
      go_wp2_with fail
      refine HCN.out.mono ?_
      clear HCN
      rintro e w3 ⟨rfl, rfl⟩
      cases ok
      · go_wp2_with fail
        go_ret2
        rw [H2.out (by trivial)]
        exact ⟨⟨none, 0, rfl, Reads.none_, fun ad h => by cases h⟩, hb⟩
      · go_wp2_with (at_builtin; refine wpList_append_own_at _ rfl _ _ 55 rfl w.heap.size 3 i0 (.int .i64 0) 1 8 Tryz.underlying55 hi hz0 hz1 hz2 rfl (by decide) _ _ _ rfl (how.alloc _) ⟨_, 0, none⟩ 1 1 [.int .i64 n] rfl rfl ?d1 ?d2 ?d3 ?d4 ?d5 ?_)
        case d1 => exact cell_new3 _ _ _
        case d2 => intro u hu; simp at hu; subst hu; rfl
        case d3 => unfold maxLen; omega
        case d4 => omega
        case d5 => simp; omega
        intro v' w1 hown' hgrow _ hat
        obtain ⟨g', cap', rfl⟩ := ownsRow_succ hown'
        have bw1 : Below w.heap.size w w1 := (hb.alloc hwz _).grown hgrow (by simp; omega) (fun k hk => (how.lt k hk).1)
        go_wp2_with fail
        go_roundw
        case rel =>
          refine ⟨j + 1, acc ++ [n], hlt, by go_num, H1.out (by trivial), by simp; omega, ?_, bw1, ?_, ?_⟩
          · rw [List.length_append]
            unfold ints at hown' ⊢
            rw [List.map_append]
            exact hown'
          · exact StrsAt.grown (((Kept.refl NoF _).alloc _).src hB (fun _ _ _ h => h)) hgrow hBv
          · intro ad e
            injection e with e
            subst e
            rcases hat with h | h
            · rw [h]; exact hBv _ rfl
            · rw [h]; simp only [ne_eq, Option.some.injEq]; omega
        case measure => simp [intOf]; omega
    · obtain rfl : j = ps.length := by omega
      have hacc := HACC.out
      rw [List.take_length] at hacc
      have HC := Lib.hid hacc
      obtain ⟨C, cc, rfl, _, _⟩ := own_form how
      clear HACC hacc
      go_wp2_with fail
      go_ret2
      rw [HC.out]
      exact ⟨⟨C, cc, rfl, Reads.of_own how, fun ad e => (how.lt ad.block (by rw [e]; rfl)).1⟩, hb⟩

end Go.Proofs.YtfnfjfcncijapaaGreatDoor
