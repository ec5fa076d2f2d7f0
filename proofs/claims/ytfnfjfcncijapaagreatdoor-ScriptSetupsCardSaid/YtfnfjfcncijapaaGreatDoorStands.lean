/- kinkeepref56.Stands (printed by genstands.py). -/
import Derived.Test.YtfnfjfcncijapaaGreatDoorRefB
import Derived.Laws.BytesArg
import Derived.Lib.SlBytesConst
namespace Go.Proofs.YtfnfjfcncijapaaGreatDoor
open Go.RowKit Go.Shelf
attribute [local go_sem] Oper.semAt_some

theorem strOfNums_bytes (xs : List UInt8) : strOfNums (xs.map fun b => (b.toNat : Int)) = ba xs := by
  unfold strOfNums ba
  congr 1
  rw [List.map_map]
  congr 1
  conv => rhs; rw [← List.map_id xs]
  apply List.map_congr_left
  intro x _
  simp

theorem conv_reads {w : World} {B n c : Nat} {A : Option Addr} {xs : List UInt8} (h : Reads w B 1 A n (bvs xs)) : (convert 43 9 (.slice A n c)).run Tryz.prog w = .ok (.string (ba xs)) w := by
  have hl : xs.length = n := by have := h.1; rw [bvs_length] at this; omega
  rw [run_convert_bytes_string w 43 9 5 _ n c Tryz.underlying43 Tryz.underlying5 Tryz.underlying9]
  cases A with
  | none =>
    have h0 : n = 0 := by
      rcases Nat.eq_zero_or_pos n with h0 | h0
      · exact h0
      · obtain ⟨ad, h, _⟩ := h.2 h0
        cases h
    subst h0
    have : xs = [] := List.eq_nil_of_length_eq_zero hl
    subst this
    simp [Conv.bytesToString]
    rfl
  | some ad =>
    have hld : (loadCells ad n).run Tryz.prog w = .ok ((xs.map fun b => (b.toNat : Int)).map (Value.int .u8)).toArray w := by
      have := run_loadCells_list (P := Tryz.prog) w ad (bvs xs) (fun j v hj => by
        have hjl : j < (bvs xs).length := (List.getElem?_eq_some_iff.1 hj).1
        rw [bvs_length] at hjl
        obtain ⟨ad', e, _, hc⟩ := h.2 (by omega)
        injection e with e
        subst e
        exact hc j v hj)
      rw [bvs_length, hl] at this
      rw [this]
      simp [bvs, bv, List.map_map, Function.comp_def]
    rw [run_bytesToString w ad n c _ hld, foldl_push_bytes, ← strOfNums_bytes]
    simp [strOfNums, ByteArray.empty, ByteArray.emptyWithCapacity]
    rfl

theorem hex_byte {y1 y2 : Int} (h1 : 0 ≤ y1) (h2 : y1 ≤ 15) (h3 : 0 ≤ y2) (h4 : y2 ≤ 15) : IntKind.u8.wrap (IntKind.i64.wrap (IntKind.i64.wrap (16 * y1) + y2)) = ((UInt8.ofNat (y1 * 16 + y2).toNat).toNat : Int) := by
  have e1 : IntKind.i64.wrap (16 * y1) = 16 * y1 := IntWalk.i64_in _ (by omega)
  have e2 : IntKind.i64.wrap (16 * y1 + y2) = 16 * y1 + y2 := IntWalk.i64_in _ (by omega)
  rw [e1, e2, IntKind.wrap_u8]
  simp only [UInt8.toNat_ofNat']
  omega

/-- The string so far. -/
def StandsRel (w : World) (l : List UInt8) (v i : Value) (wr : World) : Prop :=
  ∃ (k : Nat) (out : List UInt8), k ≤ l.length ∧ i = .int .i64 (k : Int) ∧ wr.ownsRow w.heap.size 5 1 v out.length (bvs out) ∧ Below w.heap.size w wr ∧ out.length ≤ k ∧ stands l = (stands (l.drop k)).map (out ++ ·)
/-- What the reference says of a word. -/
def standsR (l : List UInt8) : List UInt8 × Bool := ((textS l).1, (textS l).2 && !l.isEmpty)
theorem standsR_none {l : List UInt8} (hm : l ≠ [45]) (h : stands l = none) : standsR l = ([], false) := by unfold standsR textS; rw [if_neg hm, h]; rfl
theorem standsR_some {l o : List UInt8} (hm : l ≠ [45]) (h : stands l = some o) : standsR l = (o, !l.isEmpty) := by unfold standsR textS; rw [if_neg hm, h]; simp

set_option maxHeartbeats 4000000 in
set_option maxRecDepth 100000 in
theorem rstands_loop (s : ByteArray) (w : World) (hs : s.size ≤ 100000) (hm : s.data.toList ≠ [45]) :
    Calls Tryz.prog 60 #[.string s] w (TextPost (standsR s.data.toList) w) := by
  have hq : (s.toList == ([45] : List UInt8)) = false := by rw [Lib.toList_data]; simpa using hm
  have HM := Lib.hid hm
  clear hm
  obtain ⟨i0, hi, hz0, hz1, hz2⟩ := info_parts info5
  go_enter Tryz.func60, Tryz.ntmps60
  go_wp2_with fail
  go_loopw [4, 5] (StandsRel w s.data.toList) (fun _ i _ => s.size - (intOf i).toNat)
  case atStart => exact ⟨0, [], Nat.zero_le _, rfl, World.ownsRow_made w #[] 0 (Nat.le_refl _) (by simp) (by simp), (Below.refl _ _).alloc (Nat.le_refl _) _, Nat.le_refl _, by simp⟩
  case round =>
    obtain ⟨k, out, hk, rfl, how, bw, hol, hst⟩ := hrel
    rw [← size_list] at hk
    have HST := Lib.hid hst
    clear hst
    have hsz : w.heap.size ≤ wr.heap.size := bw.size
    by_cases hlt : k < s.size
    · have hc : s[k].toNat < 256 := s[k].toNat_lt
      have hd := drop_get s k hlt
      by_cases hbad : badB s[k] = true
      · have hn := standsR_none HM.out (st_bad HST.out hd hbad)
        have HN := Lib.hid hn
        have hbad' : s[k].toNat < 33 ∨ 126 < s[k].toNat := by unfold badB at hbad; simpa using hbad
        clear hn hd hbad HST
        rcases hbad' with hb' | hb'
        · have t1 : decide ((s[k].toNat : Int) < 33) = true := by simp; omega
          go_wp2_with fail
          go_ret2
          exact ⟨by rw [HN.out]; rfl, bw⟩
        · have t1 : decide ((s[k].toNat : Int) < 33) = false := by simp; omega
          have t2 : decide (126 < (s[k].toNat : Int)) = true := by simp; omega
          go_wp2_with fail
          go_ret2
          exact ⟨by rw [HN.out]; rfl, bw⟩
      · have hbad' : badB s[k] = false := by simpa using hbad
        have t1 : decide ((s[k].toNat : Int) < 33) = false := by unfold badB at hbad; simp at hbad ⊢; omega
        have t2 : decide (126 < (s[k].toNat : Int)) = false := by unfold badB at hbad; simp at hbad ⊢; omega
        by_cases h37 : s[k] = 37
        · have t3 : ((s[k].toNat : Int) != 37) = false := by rw [h37]; rfl
          rw [h37] at hd
          by_cases hsh : s.size ≤ k + 2
          · have hn := standsR_none HM.out (st_short HST.out hd (by rw [List.length_drop, ← size_list]; omega))
            have HN := Lib.hid hn
            have t4 : decide ((s.size : Int) ≤ (k : Int) + 2) = true := by simp; omega
            clear hn hd hbad hbad' h37 HST
            go_wp2_with fail
            go_ret2
            exact ⟨by rw [HN.out]; rfl, bw⟩
          · have t4 : decide ((s.size : Int) ≤ (k : Int) + 2) = false := by simp; omega
            rw [drop_get s (k + 1) (by omega), drop_get s (k + 1 + 1) (by omega)] at hd
            have HD : Hid (s.data.toList.drop k = 37 :: s[k + 1] :: s[k + 2] :: s.data.toList.drop (k + 3)) := Lib.hid hd
            have k1 : k + 1 < s.size := by omega
            have k2 : k + 2 < s.size := by omega
            clear hd hbad hbad' h37
            have x1 := hexv_range s[k + 1]
            have x2 := hexv_range s[k + 2]
            have D1 := fun W => rdigit_any s[k + 1] W
            have D2 := fun W => rdigit_any s[k + 2] W
            by_cases hneg : hexv s[k + 1] < 0 ∨ hexv s[k + 2] < 0
            · have hn := standsR_none HM.out (st_hexbad HST.out HD.out hneg)
              have HN := Lib.hid hn
              clear hn HD HST
              generalize hexv s[k + 1] = y1 at x1 hneg D1
              generalize hexv s[k + 2] = y2 at x2 hneg D2
              have HD1 := Lib.hid D1
              have HD2 := Lib.hid D2
              clear D1 D2
              by_cases hn1 : y1 < 0
              · have t5 : decide (y1 < 0) = true := by simpa using hn1
                go_wp2_with fail
                refine (HD1.out _).mono ?_
                rintro e wa ⟨rfl, rfl⟩
                go_wp2_with fail
                go_ret2
                exact ⟨by rw [HN.out]; rfl, bw⟩
              · have hn2 : y2 < 0 := by omega
                have t5 : decide (y1 < 0) = false := by simpa using hn1
                have t6 : decide (y2 < 0) = true := by simpa using hn2
                go_wp2_with fail
                refine (HD1.out _).mono ?_
                rintro e wa ⟨rfl, rfl⟩
                go_wp2_with fail
                refine (HD2.out _).mono ?_
                rintro e wa ⟨rfl, rfl⟩
                go_wp2_with fail
                go_ret2
                exact ⟨by rw [HN.out]; rfl, bw⟩
            · have hn := st_hex HST.out HD.out hneg
              have HN := Lib.hid hn
              clear hn HD HST
              have g1 : hexv s[k + 1] < 0 ∨ 0 ≤ hexv s[k + 1] := by omega
              clear g1
              have m0 : 0 ≤ hexv s[k + 1] := by omega
              have m1 : hexv s[k + 1] ≤ 15 := x1.2
              have m2 : 0 ≤ hexv s[k + 2] := by omega
              have m3 : hexv s[k + 2] ≤ 15 := x2.2
              clear x1 x2 hneg
              generalize hexv s[k + 1] = y1 at m0 m1 D1 HN
              generalize hexv s[k + 2] = y2 at m2 m3 D2 HN
              have HD1 := Lib.hid D1
              have HD2 := Lib.hid D2
              clear D1 D2
              have t5 : decide (y1 < 0) = false := by simp; omega
              have t6 : decide (y2 < 0) = false := by simp; omega
              go_wp2_with fail
              refine (HD1.out _).mono ?_
              rintro e wa ⟨rfl, rfl⟩
              go_wp2_with fail
              refine (HD2.out _).mono ?_
              rintro e wa ⟨rfl, rfl⟩
              go_upto_region 7 with fail
              have v1 : IntKind.i64.wrap ((k : Int) + 1) = (k : Int) + 1 := IntWalk.i64_in _ (by omega)
              have v2 : IntKind.i64.wrap ((k : Int) + 2) = (k : Int) + 2 := IntWalk.i64_in _ (by omega)
              have v3 : 0 ≤ (k : Int) + 1 := by omega
              have v4 : 0 ≤ (k : Int) + 2 := by omega
              have v5 : ((k : Int) + 1).toNat = k + 1 := by omega
              have v6 : ((k : Int) + 2).toNat = k + 2 := by omega
              have v7 : (k : Int) + 1 < (s.size : Int) := by omega
              have v8 : (k : Int) + 2 < (s.size : Int) := by omega
              refine wp_region_noPanic ?_
              refine wp_region_held_drew (S := (fun _ => True)) (by kernel_rfl) ?_ (fun hHeld => ?_)
              · exact trivial
              refine wpAnyH_take (i := 0) (v := ?_) rfl (by kernel_rfl) (by kernel_rfl) (by kernel_rfl) (fun _ _ _ h => h) (Or.inl ⟨by rfl, ?_⟩) hHeld ?_
              rotate_left
              · (intro w hSw; (try dsimp only at hSw); go_simp; try (with_reducible rfl))
              simp only [Act.put, List.getElem_toArray, List.getElem_cons_zero, List.setIfInBounds_toArray, List.set_cons_zero, List.set_cons_succ]
              refine wpAnyH_take (i := 1) (v := ?_) rfl (by kernel_rfl) (by kernel_rfl) (by kernel_rfl) (fun _ _ _ h => h) (Or.inl ⟨by rfl, ?_⟩) hHeld ?_
              rotate_left
              · (intro w hSw; (try dsimp only at hSw); go_simp; try (with_reducible rfl))
              simp only [Act.put, List.getElem_toArray, List.getElem_cons_zero, List.getElem_cons_succ, List.setIfInBounds_toArray, List.set_cons_zero, List.set_cons_succ]
              refine wpAnyH_take (i := 2) (v := ?_) rfl (by kernel_rfl) (by kernel_rfl) (by kernel_rfl) (fun _ _ _ h => h) (Or.inl ⟨by rfl, ?_⟩) hHeld ?_
              rotate_left
              · (intro w hSw; (try dsimp only at hSw); go_simp; try (with_reducible rfl))
              simp only [Act.put, List.getElem_toArray, List.getElem_cons_zero, List.getElem_cons_succ, List.setIfInBounds_toArray, List.set_cons_zero, List.set_cons_succ]
              refine wpAnyH_take (i := 3) (v := ?_) rfl (by kernel_rfl) (by kernel_rfl) (by kernel_rfl) (fun _ _ _ h => h) (Or.inl ⟨by rfl, ?_⟩) hHeld ?_
              rotate_left
              · (intro w hSw; (try dsimp only at hSw); go_simp; try (with_reducible rfl))
              simp only [Act.put, List.getElem_toArray, List.getElem_cons_zero, List.getElem_cons_succ, List.setIfInBounds_toArray, List.set_cons_zero, List.set_cons_succ]
              refine wpAnyH_take (i := 4) (v := ?_) rfl (by kernel_rfl) (by kernel_rfl) (by kernel_rfl) (fun _ _ _ h => h) (Or.inl ⟨by rfl, ?_⟩) hHeld ?_
              rotate_left
              · (intro w hSw; (try dsimp only at hSw); go_simp; try (with_reducible rfl))
              simp only [Act.put, List.getElem_toArray, List.getElem_cons_zero, List.getElem_cons_succ, List.setIfInBounds_toArray, List.set_cons_zero, List.set_cons_succ]
              refine wpAnyH_take (i := 7) (v := ?_) rfl (by kernel_rfl) (by kernel_rfl) (by kernel_rfl) (fun _ _ _ h => h) (Or.inl ⟨by rfl, ?_⟩) hHeld ?_
              rotate_left
              · (intro w hSw; (try dsimp only at hSw); go_simp; try (with_reducible rfl))
              simp only [Act.put, List.getElem_toArray, List.getElem_cons_zero, List.getElem_cons_succ, List.setIfInBounds_toArray, List.set_cons_zero, List.set_cons_succ]
              refine wpAnyH_take (i := 8) (v := ?_) rfl (by kernel_rfl) (by kernel_rfl) (by kernel_rfl) (fun _ _ _ h => h) (Or.inl ⟨by rfl, ?_⟩) hHeld ?_
              rotate_left
              · (intro w hSw; (try dsimp only at hSw); go_simp; try (with_reducible rfl))
              simp only [Act.put, List.getElem_toArray, List.getElem_cons_zero, List.getElem_cons_succ, List.setIfInBounds_toArray, List.set_cons_zero, List.set_cons_succ]
              refine wpAnyH_take (i := 9) (v := ?_) rfl (by kernel_rfl) (by kernel_rfl) (by kernel_rfl) (fun _ _ _ h => h) (Or.inl ⟨by rfl, ?_⟩) hHeld ?_
              rotate_left
              · (intro w hSw; (try dsimp only at hSw); go_simp; try (with_reducible rfl))
              simp only [Act.put, List.getElem_toArray, List.getElem_cons_zero, List.getElem_cons_succ, List.setIfInBounds_toArray, List.set_cons_zero, List.set_cons_succ]
              refine wpAnyH_take (i := 10) (v := ?_) rfl (by kernel_rfl) (by kernel_rfl) (by kernel_rfl) (fun _ _ _ h => h) (Or.inl ⟨by rfl, ?_⟩) hHeld ?_
              rotate_left
              · (intro w hSw; (try dsimp only at hSw); go_simp; try (with_reducible rfl))
              simp only [Act.put, List.getElem_toArray, List.getElem_cons_zero, List.getElem_cons_succ, List.setIfInBounds_toArray, List.set_cons_zero, List.set_cons_succ]
              refine wpAnyH_ready (rs := [5]) (by kernel_rfl) (by simp) ?_
              refine AllReadyH.cons rfl (fun K hK => ?_) AllReadyH.nil
              go_simp
              refine (HD1.out _).mono ?_
              rintro e wa ⟨rfl, rfl⟩
              go_wp2_with fail
              refine hK.out _ _ trivial (fun hHeld => ?_)
              clear hK K
              try simp only [Act.put, List.getElem_toArray, List.getElem_cons_zero, List.getElem_cons_succ, List.setIfInBounds_toArray, List.set_cons_zero, List.set_cons_succ]
              refine wpAnyH_take (i := 6) (v := ?_) rfl (by kernel_rfl) (by kernel_rfl) (by kernel_rfl) (fun _ _ _ h => h) (Or.inl ⟨by rfl, ?_⟩) hHeld ?_
              rotate_left
              · (intro w hSw; (try dsimp only at hSw); go_simp; try (with_reducible rfl))
              simp only [Act.put, List.getElem_toArray, List.getElem_cons_zero, List.getElem_cons_succ, List.setIfInBounds_toArray, List.set_cons_zero, List.set_cons_succ]
              refine wpAnyH_ready (rs := [11]) (by kernel_rfl) (by simp) ?_
              refine AllReadyH.cons rfl (fun K hK => ?_) AllReadyH.nil
              go_simp
              refine (HD2.out _).mono ?_
              rintro e wa ⟨rfl, rfl⟩
              go_wp2_with fail
              refine hK.out _ _ trivial (fun hHeld => ?_)
              clear hK K
              try simp only [Act.put, List.getElem_toArray, List.getElem_cons_zero, List.getElem_cons_succ, List.setIfInBounds_toArray, List.set_cons_zero, List.set_cons_succ]
              refine wpAnyH_take (i := 12) (v := ?_) rfl (by kernel_rfl) (by kernel_rfl) (by kernel_rfl) (fun _ _ _ h => h) (Or.inl ⟨by rfl, ?_⟩) hHeld ?_
              rotate_left
              · (intro w hSw; (try dsimp only at hSw); go_simp; try (with_reducible rfl))
              simp only [Act.put, List.getElem_toArray, List.getElem_cons_zero, List.getElem_cons_succ, List.setIfInBounds_toArray, List.set_cons_zero, List.set_cons_succ]
              refine wpAnyH_take (i := 13) (v := ?_) rfl (by kernel_rfl) (by kernel_rfl) (by kernel_rfl) (fun _ _ _ h => h) (Or.inl ⟨by rfl, ?_⟩) hHeld ?_
              rotate_left
              · (intro w hSw; (try dsimp only at hSw); go_simp; try (with_reducible rfl))
              simp only [Act.put, List.getElem_toArray, List.getElem_cons_zero, List.getElem_cons_succ, List.setIfInBounds_toArray, List.set_cons_zero, List.set_cons_succ]
              have hbyte : IntKind.u8.wrap (IntKind.i64.wrap (IntKind.i64.wrap (16 * y1) + y2)) = ((UInt8.ofNat (y1 * 16 + y2).toNat).toNat : Int) := hex_byte m0 m1 m2 m3
              rw [hbyte]
              clear hbyte
              generalize UInt8.ofNat (y1 * 16 + y2).toNat = cy at HN ⊢
              have how0 : (World.drew wa).ownsRow w.heap.size 5 1 _ out.length (bvs out) := how
              have bw0 : Below w.heap.size w (World.drew wa) := ⟨bw.os, bw.tape, bw.output, bw.size, bw.block⟩
              generalize World.drew wa = W0 at how0 bw0 ⊢
              clear how bw hsz
              have hsz := bw0.size
              refine wpAnyH_ready (rs := [14]) (by kernel_rfl) (by simp) ?_
              refine AllReadyH.cons rfl (fun K hK => ?_) AllReadyH.nil
              go_simp
              refine hK.out _ _ trivial (fun hHeld => ?_)
              clear hK K
              try simp only [Act.put, List.getElem_toArray, List.getElem_cons_zero, List.getElem_cons_succ, List.setIfInBounds_toArray, List.set_cons_zero, List.set_cons_succ]
              have bz := Blk.new W0 5 #[.int .u8 (cy.toNat : Int)]
              have ownz := how0.alloc (.cells #[.int .u8 (cy.toNat : Int)] 5)
              have bwz := bw0.alloc hsz (.cells #[.int .u8 (cy.toNat : Int)] 5)
              generalize W0.alloc (.cells #[.int .u8 (cy.toNat : Int)] 5) = W1 at bz ownz bwz ⊢
              refine wpAnyH_ready (rs := [15]) (by kernel_rfl) (by simp) ?_
              refine AllReadyH.cons rfl (fun K hK => ?_) AllReadyH.nil
              refine step_append_any _ rfl _ _ 43 rfl w.heap.size 5 i0 (.int .u8 0) 1 1 Tryz.underlying43 hi hz0 hz1 hz2 rfl (by omega) _ out.length (bvs out) rfl ownz W1.heap.size (some ⟨W0.heap.size, 0, none⟩) 1 1 [.int .u8 (cy.toNat : Int)] rfl ?_ ?_ ?_ ?_ bwz.size ?_
              · refine ⟨by simp, fun _ => ⟨_, rfl, bz.lt, fun j u hu => ?_⟩⟩
                rw [Addr.add_lit, bz.cell, Nat.zero_add, ← Array.getElem?_toList]
                exact hu
              · intro u hu; simp at hu; subst hu; rfl
              · unfold maxLen; omega
              · omega
              intro v' W2 own2 grw at2
              have bw2 : Below w.heap.size w W2 := bwz.grown grw bwz.size (fun k hk => (ownz.lt k hk).1)
              obtain ⟨g', cap', rfl⟩ := ownsRow_succ own2
              refine hK.out _ _ trivial (fun hHeld => ?_)
              clear hK K
              try simp only [Act.put, List.getElem_toArray, List.getElem_cons_zero, List.getElem_cons_succ, List.setIfInBounds_toArray, List.set_cons_zero, List.set_cons_succ]
              refine wpAnyH_ready (rs := [16]) (by kernel_rfl) (by simp) ?_
              refine AllReadyH.cons rfl (fun K hK => ?_) AllReadyH.nil
              go_simp
              refine hK.out _ _ trivial (fun hHeld => ?_)
              clear hK K
              try simp only [Act.put, List.getElem_toArray, List.getElem_cons_zero, List.getElem_cons_succ, List.setIfInBounds_toArray, List.set_cons_zero, List.set_cons_succ]
              refine wpAnyH_done (by kernel_rfl) ?_ _
              refine NoPanic.normal ?_
              go_wp2_with fail
              go_roundw
              case rel =>
                refine ⟨k + 3, out ++ [cy], by rw [← size_list]; omega, by go_num, ?_, bw2, by simp; omega, HN.out⟩
                rw [bvs_append, List.length_append]
                exact own2
              case measure => simp [intOf]; omega
        · have t3 : ((s[k].toNat : Int) != 37) = true := by
            simp only [bne_iff_ne, ne_eq]
            intro h
            exact h37 (UInt8.toNat_inj.1 (by show _ = 37; omega))
          have hn := st_one HST.out hd hbad' h37
          have HN := Lib.hid hn
          clear hn hd hbad hbad' h37 HST
          go_wp2_with (at_builtin; refine wpList_append_own_at _ rfl _ _ 43 rfl w.heap.size 5 i0 (.int .u8 0) 1 1 Tryz.underlying43 hi hz0 hz1 hz2 rfl (by decide) _ _ _ rfl (how.alloc _) ⟨wr.heap.size, 0, none⟩ 1 1 [.int .u8 (s[k].toNat : Int)] rfl rfl ?d1 ?d2 ?d3 ?d4 ?d5 ?_)
          case d1 => exact cell_one_new _ _ _
          case d2 => intro u hu; simp at hu; subst hu; rfl
          case d3 => unfold maxLen; omega
          case d4 => omega
          case d5 => simp; omega
          intro v' w1 hown' hgrow _ hat
          obtain ⟨g', cap', rfl⟩ := ownsRow_succ hown'
          have bw1 : Below w.heap.size w w1 := (bw.alloc hsz _).grown hgrow (by simp; omega) (fun k hk => (how.lt k hk).1)
          go_wp2_with fail
          go_roundw
          case rel =>
            refine ⟨k + 1, out ++ [s[k]], by rw [← size_list]; omega, by go_num, ?_, bw1, by simp; omega, HN.out⟩
            rw [bvs_append, List.length_append]
            exact hown'
          case measure => simp [intOf]; omega
    · have hn := standsR_some HM.out (st_end HST.out (by rw [← size_list]; omega))
      have HN := Lib.hid hn
      clear hn HST
      obtain ⟨A, ca, rfl, _, _⟩ := own_form how
      have cv := conv_reads (c := ca) (Reads.of_own how)
      go_wp2_with fail
      go_ret2
      exact ⟨by rw [HN.out, ← Lib.toList_data]; rfl, bw⟩

set_option maxHeartbeats 400000 in
theorem rstands_any (s : ByteArray) (w : World) (hs : s.size ≤ 100000) : Calls Tryz.prog 60 #[.string s] w (TextPost (standsR s.data.toList) w) := by
  by_cases hm : s.data.toList = [45]
  · have hq : s = ⟨#[45]⟩ := by rw [← ba_data s, hm]; rfl
    subst hq
    go_enter Tryz.func60, Tryz.ntmps60
    go_wp2
    go_ret2
    exact ⟨rfl, Below.refl _ _⟩
  · exact rstands_loop s w hs hm

end Go.Proofs.YtfnfjfcncijapaaGreatDoor
