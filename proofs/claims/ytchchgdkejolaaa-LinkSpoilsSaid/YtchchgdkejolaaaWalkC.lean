/- The walk of LinkSpoils (printed by genC.py). -/
import Derived.Test.YtchchgdkejolaaaWalkB
import Derived.Test.YtchchgdkejolaaaSpoilC
import Derived.Deep.RegionHeld3
namespace Go.Proofs.Ytchchgdkejolaaa
open Go.RowKit

def SL (xs ws : List UInt8) : LS := ⟨xs, [], [], ws, 1000, -1, false⟩
theorem spoils_send (xs : List UInt8) (h : xs.length ≤ 100) : (LS.fresh 1000 (-1)).send 0 xs = (SL xs xs, (xs.length : Int), 0) := by
  rw [send_all_eq (.inl rfl) rfl (by simp [LS.fresh, LS.total]; omega) (by simp [LS.fresh])]
  rfl
theorem spoils_spoil (xs ws : List UInt8) (n : Nat) (h : n < ws.length) (m : UInt8) : (SL xs ws).spoil 1 (n : Int) m = (SL xs (ws.set n (ws.getD n 0 ^^^ m)), 0) := by
  unfold LS.spoil
  have hw : (SL xs ws).wait 1 = ws := rfl
  rw [if_neg (by rintro (h | h); exact h (.inr rfl); omega), hw, if_neg (by omega)]
  rfl
theorem twice_same (ws : List UInt8) (n : Nat) (h : n < ws.length) (m : UInt8) : (ws.set n (ws.getD n 0 ^^^ m)).set n ((ws.set n (ws.getD n 0 ^^^ m)).getD n 0 ^^^ m) = ws := by
  have e : (ws.set n (ws.getD n 0 ^^^ m)).getD n 0 = ws.getD n 0 ^^^ m := by simp [List.getD, h]
  rw [e, List.set_set, UInt8.xor_assoc, UInt8.xor_self, UInt8.xor_zero]
  simp [List.getD, h]

set_option maxHeartbeats 1000000 in
set_option maxRecDepth 100000 in
theorem spoils_big (X : Option Addr) (nx cx : Nat) (n : Int) (m : Value) (t : Bool) (w : World) (h : 100 < nx ∨ nx ≤ 100 ∧ n < 0 ∨ nx ≤ 100 ∧ 0 ≤ n ∧ (nx : Int) ≤ n) :
    Calls Try.prog 8 #[.slice X nx cx, .int .i64 n, m, .bool t] w fun e w' => e = .returned (.bool true) ∧ Below w.heap.size w w' := by
  rcases h with h | ⟨h, h'⟩ | ⟨h, h', h''⟩
  · have hd : decide (100 < (nx : Int)) = true := by simp; omega
    go_enter Try.func8, Try.ntmps8
    go_wp2_with fail
    refine (new_any 1000 _ _ (by omega) (by omega) (by omega) (by omega)).mono ?_
    rintro e w1 ⟨rfl, a1, k1, s1⟩
    clear s1
    go_wp2_with fail
    refine (awake_any _).mono ?_
    rintro e w3 ⟨rfl, k3⟩
    go_wp2_with fail
    refine (awake_any _).mono ?_
    rintro e w4 ⟨rfl, k4⟩
    go_wp2_with fail
    go_ret
    exact ⟨rfl, nof_below ((k1.trans (Kept.of_below k3) (fun _ h => .inl h)).trans (Kept.of_below k4) (fun _ h => .inl h))⟩
  · have hd : decide (100 < (nx : Int)) = false := by simp; omega
    have hd2 : decide (n < 0) = true := by simp; omega
    go_enter Try.func8, Try.ntmps8
    go_wp2_with fail
    refine (new_any 1000 _ _ (by omega) (by omega) (by omega) (by omega)).mono ?_
    rintro e w1 ⟨rfl, a1, k1, s1⟩
    clear s1
    go_wp2_with fail
    refine (awake_any _).mono ?_
    rintro e w3 ⟨rfl, k3⟩
    go_wp2_with fail
    refine (awake_any _).mono ?_
    rintro e w4 ⟨rfl, k4⟩
    go_wp2_with fail
    go_ret
    exact ⟨rfl, nof_below ((k1.trans (Kept.of_below k3) (fun _ h => .inl h)).trans (Kept.of_below k4) (fun _ h => .inl h))⟩
  · have hd : decide (100 < (nx : Int)) = false := by simp; omega
    have hd2 : decide (n < 0) = false := by simp; omega
    have hd3 : decide ((nx : Int) ≤ n) = true := by simp; omega
    go_enter Try.func8, Try.ntmps8
    go_wp2_with fail
    refine (new_any 1000 _ _ (by omega) (by omega) (by omega) (by omega)).mono ?_
    rintro e w1 ⟨rfl, a1, k1, s1⟩
    clear s1
    go_wp2_with fail
    refine (awake_any _).mono ?_
    rintro e w3 ⟨rfl, k3⟩
    go_wp2_with fail
    refine (awake_any _).mono ?_
    rintro e w4 ⟨rfl, k4⟩
    go_wp2_with fail
    go_ret
    exact ⟨rfl, nof_below ((k1.trans (Kept.of_below k3) (fun _ h => .inl h)).trans (Kept.of_below k4) (fun _ h => .inl h))⟩

set_option maxHeartbeats 2000000 in
set_option maxRecDepth 100000 in
theorem spoils_true (X : Option Addr) (cx n : Nat) (xs : List UInt8) (m : UInt8) (w : World) (h : xs.length ≤ 100) (hn : n < xs.length) (hcx : xs.length ≤ cx) (hx : Reads w w.heap.size 1 X xs.length (bvs xs)) :
    Calls Try.prog 8 #[.slice X xs.length cx, .int .i64 (n : Int), .int .u8 (m.toNat : Int), .bool true] w fun e w' => e = .returned (.bool true) ∧ Below w.heap.size w w' := by
  have hd : decide (100 < (xs.length : Int)) = false := by simp; omega
  have hd2 : decide ((n : Int) < 0) = false := by simp
  have hd3 : decide ((xs.length : Int) ≤ (n : Int)) = false := by simp; omega
  go_enter Try.func8, Try.ntmps8
  go_wp2_with fail
  refine (new_any 1000 _ _ (by omega) (by omega) (by omega) (by omega)).mono ?_
  rintro e w1 ⟨rfl, a1, k1, s1⟩
  clear s1
  go_wp2_with fail
  refine (awake_any _).mono ?_
  rintro e w3 ⟨rfl, k3⟩
  have b3 : Below w.heap.size w w3 := nof_below (k1.trans (Kept.of_below k3) (fun _ h => .inl h))
  have a3 := a1.kept (Kept.of_below (F := NoF) k3) (fun _ _ h => h)
  have C4 := send_any a3 0 X cx xs.length xs rfl ((hx.below b3).more b3.size) (by
    intro ad e hp h
    obtain ⟨ad', e', hl, _⟩ := hx.2 hp
    rw [e] at e'
    injection e' with e'
    subst e'
    unfold NewF at h
    omega) hcx
  rw [spoils_send xs h] at C4
  have H4 := Lib.hid C4
  clear C4
  go_wp2_with fail
  refine H4.out.mono ?_
  clear H4
  rintro e w4 ⟨rfl, a4, k4⟩
  have hF : ∀ k, More (NewF w) w3 w4 k → w.heap.size ≤ k := by
    have := b3.size
    rintro k (h | h)
    · unfold NewF at h; omega
    · omega
  generalize More (NewF w) w3 w4 = F at a4 hF
  have b4 : Below w.heap.size w w4 := b3.trans (k4.below b3.size (fun k hk => by unfold NewF at hk; omega))
  have C5 := spoil_link a4 1 (n : Int) m
  rw [spoils_spoil xs xs n hn m] at C5
  have H5 := Lib.hid C5
  clear C5
  go_wp2_with fail
  refine H5.out.mono ?_
  clear H5
  rintro e w5 ⟨rfl, a5, k5⟩
  have b5 : Below w.heap.size w w5 := b4.trans (k5.below b4.size hF)
  have C6 := spoil_link a5 1 (n : Int) m
  rw [spoils_spoil xs _ n (by simpa using hn) m, twice_same xs n hn m] at C6
  have H6 := Lib.hid C6
  clear C6
  go_wp2_with fail
  refine H6.out.mono ?_
  clear H6
  rintro e w6 ⟨rfl, a6, k6⟩
  have b6 : Below w.heap.size w w6 := b5.trans (k6.below b5.size hF)
  have hws : ∀ i (hi : i < xs.length), xs[i]? = some xs[i] := fun i hi => List.getElem?_eq_getElem hi
  have hwl : xs.length = xs.length := rfl
  have C7 := recv_any a6 1 (.inr rfl)
  have hwt : (SL xs xs).wait 1 = xs := rfl
  have hdr : (SL xs xs).drop 1 = SL xs [] := rfl
  have hwl : xs.length = xs.length := by rfl
  have H7 := Lib.hid C7
  clear C7
  have HW := Lib.hid hwt
  have HR := Lib.hid hdr
  have HL := Lib.hid hwl
  clear hwt hdr hwl
  go_wp2_with fail
  refine H7.out.mono ?_
  clear H7
  rintro e w7 ⟨v7, rfl, n7, a7, k7⟩
  rw [HW.out] at n7
  rw [HR.out] at a7
  obtain ⟨g7, rfl, hg7, hl7, r7⟩ := n7.reads
  have b7 : Below w.heap.size w w7 := b6.trans (k7.below b6.size hF)
  have hst : (SL xs []).sent 0 = xs := rfl
  have HS := Lib.hid hst
  clear hst
  have x7 := hx.below b7
  have cvx : ∀ W, Kept NoF w7 W → (convert 22 9 (.slice X xs.length cx)).run Try.prog W = .ok (.string (ba xs)) W := fun W kW => conv_reads (kW.reads x7 b7.size (fun _ _ h => h))
  have CVX := Lib.hid cvx
  clear cvx
  have kd := (Kept.refl NoF w7).drew
  go_wp2_with fail
  refine wp_region_noPanic ?_
  refine wp_region_held_drew (S := fun w' => Kept NoF w7 w' ∧ (convert 22 9 (.slice X xs.length cx)).run Try.prog w' = .ok (.string (ba xs)) w') (by kernel_rfl) ?_ (fun hHeld => ?_)
  · exact ⟨kd, CVX.out _ kd⟩
  refine wpAnyH_take (i := 0) (v := ?_) rfl (by kernel_rfl) (by kernel_rfl) (by kernel_rfl) (fun _ _ _ h => h) (Or.inl ⟨by rfl, ?_⟩) hHeld ?_
  rotate_left
  · (intro w hSw; (try dsimp only at hSw); go_simp; try (with_reducible rfl))
  simp only [Act.put, List.getElem_toArray, List.getElem_cons_zero, List.setIfInBounds_toArray, List.set_cons_zero, List.set_cons_succ]
  refine wpAnyH_take (i := 1) (v := ?_) rfl (by kernel_rfl) (by kernel_rfl) (by kernel_rfl) (fun _ _ _ h => h) (Or.inl ⟨by rfl, ?_⟩) hHeld ?_
  rotate_left
  · (intro w hSw; (try dsimp only at hSw); go_simp; try (with_reducible rfl))
  simp only [Act.put, List.getElem_toArray, List.getElem_cons_zero, List.getElem_cons_succ, List.setIfInBounds_toArray, List.set_cons_zero, List.set_cons_succ]
  refine wpAnyH_take (i := 2) (v := ?_) rfl (by kernel_rfl) (by kernel_rfl) (by kernel_rfl) (fun _ _ _ h => h) (Or.inl ⟨by rfl, ?_⟩) hHeld ?_
  rotate_left
  · (intro w hSw; (try dsimp only at hSw); go_simp; try (with_reducible rfl))
  simp only [Act.put, List.getElem_toArray, List.getElem_cons_zero, List.getElem_cons_succ, List.setIfInBounds_toArray, List.set_cons_zero, List.set_cons_succ]
  refine wpAnyH_take (i := 3) (v := ?_) rfl (by kernel_rfl) (by kernel_rfl) (by kernel_rfl) (fun _ _ _ h => h) (Or.inl ⟨by rfl, ?_⟩) hHeld ?_
  rotate_left
  · (intro w hSw; (try dsimp only at hSw); go_simp; try (with_reducible rfl))
  simp only [Act.put, List.getElem_toArray, List.getElem_cons_zero, List.getElem_cons_succ, List.setIfInBounds_toArray, List.set_cons_zero, List.set_cons_succ]
  refine wpAnyH_take (i := 4) (v := ?_) rfl (by kernel_rfl) (by kernel_rfl) (by kernel_rfl) (fun _ _ _ h => h) (Or.inl ⟨by rfl, ?_⟩) hHeld ?_
  rotate_left
  · (intro w hSw; (try dsimp only at hSw); go_simp; try (with_reducible rfl))
  simp only [Act.put, List.getElem_toArray, List.getElem_cons_zero, List.getElem_cons_succ, List.setIfInBounds_toArray, List.set_cons_zero, List.set_cons_succ]
  refine wpAnyH_take (i := 5) (v := ?_) rfl (by kernel_rfl) (by kernel_rfl) (by kernel_rfl) (fun _ _ _ h => h) (Or.inl ⟨by rfl, ?_⟩) hHeld ?_
  rotate_left
  · (intro w hSw; (try dsimp only at hSw); go_simp; try (with_reducible rfl))
  simp only [Act.put, List.getElem_toArray, List.getElem_cons_zero, List.getElem_cons_succ, List.setIfInBounds_toArray, List.set_cons_zero, List.set_cons_succ]
  refine wpAnyH_take (i := 6) (v := ?_) rfl (by kernel_rfl) (by kernel_rfl) (by kernel_rfl) (fun _ _ _ h => h) (Or.inl ⟨by rfl, ?_⟩) hHeld ?_
  rotate_left
  · (intro w hSw; (try dsimp only at hSw); go_simp; try (with_reducible rfl))
  simp only [Act.put, List.getElem_toArray, List.getElem_cons_zero, List.getElem_cons_succ, List.setIfInBounds_toArray, List.set_cons_zero, List.set_cons_succ]
  refine wpAnyH_take (i := 7) (v := ?_) rfl (by kernel_rfl) (by kernel_rfl) (by kernel_rfl) (fun _ _ _ h => h) (Or.inl ⟨by rfl, ?_⟩) hHeld ?_
  rotate_left
  · (intro w hSw; (try dsimp only at hSw); go_simp; try (with_reducible rfl))
  simp only [Act.put, List.getElem_toArray, List.getElem_cons_zero, List.getElem_cons_succ, List.setIfInBounds_toArray, List.set_cons_zero, List.set_cons_succ]
  refine wpAnyH_take (i := 8) (v := ?_) rfl (by kernel_rfl) (by kernel_rfl) (by kernel_rfl) (fun _ _ _ h => h) (Or.inl ⟨by rfl, ?_⟩) hHeld ?_
  rotate_left
  · (intro w hSw; (try dsimp only at hSw); go_simp; try (with_reducible rfl))
  simp only [Act.put, List.getElem_toArray, List.getElem_cons_zero, List.getElem_cons_succ, List.setIfInBounds_toArray, List.set_cons_zero, List.set_cons_succ]
  refine wpAnyH_take (i := 9) (v := ?_) rfl (by kernel_rfl) (by kernel_rfl) (by kernel_rfl) (fun _ _ _ h => h) (Or.inl ⟨by rfl, ?_⟩) hHeld ?_
  rotate_left
  · (intro w hSw; (try dsimp only at hSw); go_simp; try (with_reducible rfl))
  simp only [Act.put, List.getElem_toArray, List.getElem_cons_zero, List.getElem_cons_succ, List.setIfInBounds_toArray, List.set_cons_zero, List.set_cons_succ]
  refine wpAnyH_take (i := 10) (v := ?_) rfl (by kernel_rfl) (by kernel_rfl) (by kernel_rfl) (fun _ _ _ h => h) (Or.inl ⟨by rfl, ?_⟩) hHeld ?_
  rotate_left
  · (intro w hSw; (try dsimp only at hSw); go_simp; try (with_reducible rfl))
  simp only [Act.put, List.getElem_toArray, List.getElem_cons_zero, List.getElem_cons_succ, List.setIfInBounds_toArray, List.set_cons_zero, List.set_cons_succ]
  refine wpAnyH_take (i := 11) (v := ?_) rfl (by kernel_rfl) (by kernel_rfl) (by kernel_rfl) (fun _ _ _ h => h) (Or.inl ⟨by rfl, ?_⟩) hHeld ?_
  rotate_left
  · (intro w hSw; (try dsimp only at hSw); go_simp; try (with_reducible rfl))
  simp only [Act.put, List.getElem_toArray, List.getElem_cons_zero, List.getElem_cons_succ, List.setIfInBounds_toArray, List.set_cons_zero, List.set_cons_succ]
  refine wpAnyH_take (i := 12) (v := ?_) rfl (by kernel_rfl) (by kernel_rfl) (by kernel_rfl) (fun _ _ _ h => h) (Or.inl ⟨by rfl, ?_⟩) hHeld ?_
  rotate_left
  · (intro w hSw; (try dsimp only at hSw); go_simp; try (with_reducible rfl))
  simp only [Act.put, List.getElem_toArray, List.getElem_cons_zero, List.getElem_cons_succ, List.setIfInBounds_toArray, List.set_cons_zero, List.set_cons_succ]
  refine wpAnyH_take (i := 13) (v := ?_) rfl (by kernel_rfl) (by kernel_rfl) (by kernel_rfl) (fun _ _ _ h => h) (Or.inl ⟨by rfl, ?_⟩) hHeld ?_
  rotate_left
  · (intro w hSw; (try dsimp only at hSw); go_simp; try (with_reducible rfl))
  simp only [Act.put, List.getElem_toArray, List.getElem_cons_zero, List.getElem_cons_succ, List.setIfInBounds_toArray, List.set_cons_zero, List.set_cons_succ]
  refine wpAnyH_take (i := 14) (v := ?_) rfl (by kernel_rfl) (by kernel_rfl) (by kernel_rfl) (fun _ _ _ h => h) (Or.inl ⟨by rfl, ?_⟩) hHeld ?_
  rotate_left
  · (intro w hSw; (try dsimp only at hSw); go_simp; try (with_reducible rfl))
  simp only [Act.put, List.getElem_toArray, List.getElem_cons_zero, List.getElem_cons_succ, List.setIfInBounds_toArray, List.set_cons_zero, List.set_cons_succ]
  refine wpAnyH_take (i := 17) (v := ?_) rfl (by kernel_rfl) (by kernel_rfl) (by kernel_rfl) (fun _ _ _ h => h) (Or.inl ⟨by rfl, ?_⟩) hHeld ?_
  rotate_left
  · (intro w hSw; (try dsimp only at hSw); go_simp; try (with_reducible rfl))
  simp only [Act.put, List.getElem_toArray, List.getElem_cons_zero, List.getElem_cons_succ, List.setIfInBounds_toArray, List.set_cons_zero, List.set_cons_succ]
  refine wpAnyH_take (i := 18) (v := ?_) rfl (by kernel_rfl) (by kernel_rfl) (by kernel_rfl) (fun _ _ _ h => h) (Or.inl ⟨by rfl, ?_⟩) hHeld ?_
  rotate_left
  · (intro w hSw; (try dsimp only at hSw); go_simp; try (with_reducible rfl))
  simp only [Act.put, List.getElem_toArray, List.getElem_cons_zero, List.getElem_cons_succ, List.setIfInBounds_toArray, List.set_cons_zero, List.set_cons_succ]
  refine wpAnyH_ready (rs := [15]) (by kernel_rfl) (by simp) ?_
  refine AllReadyH.cons rfl (fun K hK => ?_) AllReadyH.nil
  go_simp
  refine (tran_any (a7.kept kd (fun _ _ h => h)) 0 (.inl rfl)).mono ?_
  rintro e w8 ⟨v8, rfl, n8, k8⟩
  rw [HS.out] at n8
  obtain ⟨g8, rfl, hg8, hl8, r8⟩ := n8.reads
  have c8 := conv_reads (c := xs.length) r8
  have kd8 := kd.trans k8 (fun _ h => .inl h)
  go_wp2_with fail
  refine hK.out _ _ ⟨kd8, CVX.out _ kd8⟩ (fun hHeld => ?_)
  clear hK K
  try simp only [Act.put, List.getElem_toArray, List.getElem_cons_zero, List.getElem_cons_succ, List.setIfInBounds_toArray, List.set_cons_zero, List.set_cons_succ]
  refine wpAnyH_ready (rs := [16]) (by kernel_rfl) (by simp) ?_
  refine AllReadyH.cons rfl (fun K hK => ?_) AllReadyH.nil
  go_simp
  refine hK.out _ _ ⟨kd8, CVX.out _ kd8⟩ (fun hHeld => ?_)
  clear hK K
  try simp only [Act.put, List.getElem_toArray, List.getElem_cons_zero, List.getElem_cons_succ, List.setIfInBounds_toArray, List.set_cons_zero, List.set_cons_succ]
  refine wpAnyH_take (i := 19) (v := ?_) rfl (by kernel_rfl) (by kernel_rfl) (by kernel_rfl) (fun _ _ _ h => h) (Or.inl ⟨by rfl, ?_⟩) hHeld ?_
  rotate_left
  · (intro w hSw; (try dsimp only at hSw); go_simp; try (with_reducible rfl))
  simp only [Act.put, List.getElem_toArray, List.getElem_cons_zero, List.getElem_cons_succ, List.setIfInBounds_toArray, List.set_cons_zero, List.set_cons_succ]
  refine wpAnyH_take (i := 20) (v := ?_) rfl (by kernel_rfl) (by kernel_rfl) (by kernel_rfl) (fun _ _ _ h => h) (Or.inl ⟨by rfl, ?_⟩) hHeld ?_
  rotate_left
  · (intro w hSw; (try dsimp only at hSw); go_simp; try (with_reducible rfl))
  simp only [Act.put, List.getElem_toArray, List.getElem_cons_zero, List.getElem_cons_succ, List.setIfInBounds_toArray, List.set_cons_zero, List.set_cons_succ]
  refine wpAnyH_done (by kernel_rfl) ?_ _
  refine NoPanic.normal ?_
  have x8 := kd8.reads x7 b7.size (fun _ _ h => h)
  have r78 := kd8.row r7 (fun h => h)
  have b8 : Below w.heap.size w w8 := b7.trans (kd8.below b7.size (fun _ h => h.elim))
  clear c8 kd8 k8 r8 x7 r7
  go_wp2_with fail
  go_loop [14] (fun i => ∃ j : Nat, j ≤ xs.length ∧ i = .int .i64 (j : Int)) (fun i => xs.length - (intOf i).toNat)
  case atStart => exact ⟨0, Nat.zero_le _, rfl⟩
  case round =>
    obtain ⟨j, hj, rfl⟩ := hrel
    by_cases hlt : j < xs.length
    · obtain ⟨ad, u, rfl, _, hu, hcell⟩ := x8.at_ hlt
      rw [bvs_get _ _ hlt] at hu
      injection hu with hu
      subst hu
      have hx1 : w8.cell? (ad.add j) = some (.int .u8 (xs[j].toNat : Int)) := hcell
      obtain ⟨ad2, u2, e2, _, hu2, hcell2⟩ := r78.at_ (k := j) (by omega)
      injection e2 with e2
      subst e2
      rw [Addr.add_lit, Nat.zero_add] at hcell2
      clear hcell
      rw [bvs_get _ _ hlt] at hu2
      injection hu2 with hu2
      subst hu2
      have hx2 : w8.cell? ⟨g7, j, none⟩ = some (.int .u8 (xs[j].toNat : Int)) := hcell2
      clear hcell2
      generalize xs[j] = b at hx1 hx2
      by_cases hjn : j = n
      · subst hjn
        go_wp2_with fail
        all_goals
          go_round
          case rel => exact ⟨j + 1, by omega, by go_num⟩
          case measure => simp [intOf]; omega
      · have hne : ((j : Int) == (n : Int)) = false := by simp; omega
        go_wp2_with fail
        all_goals
          go_round
          case rel => exact ⟨j + 1, by omega, by go_num⟩
          case measure => simp [intOf]; omega
    · go_wp2_with fail
      go_ret
      exact ⟨rfl, b8⟩

set_option maxHeartbeats 2000000 in
set_option maxRecDepth 100000 in
theorem spoils_false (X : Option Addr) (cx n : Nat) (xs : List UInt8) (m : UInt8) (w : World) (h : xs.length ≤ 100) (hn : n < xs.length) (hcx : xs.length ≤ cx) (hx : Reads w w.heap.size 1 X xs.length (bvs xs)) :
    Calls Try.prog 8 #[.slice X xs.length cx, .int .i64 (n : Int), .int .u8 (m.toNat : Int), .bool false] w fun e w' => e = .returned (.bool true) ∧ Below w.heap.size w w' := by
  have hd : decide (100 < (xs.length : Int)) = false := by simp; omega
  have hd2 : decide ((n : Int) < 0) = false := by simp
  have hd3 : decide ((xs.length : Int) ≤ (n : Int)) = false := by simp; omega
  go_enter Try.func8, Try.ntmps8
  go_wp2_with fail
  refine (new_any 1000 _ _ (by omega) (by omega) (by omega) (by omega)).mono ?_
  rintro e w1 ⟨rfl, a1, k1, s1⟩
  clear s1
  go_wp2_with fail
  refine (awake_any _).mono ?_
  rintro e w3 ⟨rfl, k3⟩
  have b3 : Below w.heap.size w w3 := nof_below (k1.trans (Kept.of_below k3) (fun _ h => .inl h))
  have a3 := a1.kept (Kept.of_below (F := NoF) k3) (fun _ _ h => h)
  have C4 := send_any a3 0 X cx xs.length xs rfl ((hx.below b3).more b3.size) (by
    intro ad e hp h
    obtain ⟨ad', e', hl, _⟩ := hx.2 hp
    rw [e] at e'
    injection e' with e'
    subst e'
    unfold NewF at h
    omega) hcx
  rw [spoils_send xs h] at C4
  have H4 := Lib.hid C4
  clear C4
  go_wp2_with fail
  refine H4.out.mono ?_
  clear H4
  rintro e w4 ⟨rfl, a4, k4⟩
  have hF : ∀ k, More (NewF w) w3 w4 k → w.heap.size ≤ k := by
    have := b3.size
    rintro k (h | h)
    · unfold NewF at h; omega
    · omega
  generalize More (NewF w) w3 w4 = F at a4 hF
  have b4 : Below w.heap.size w w4 := b3.trans (k4.below b3.size (fun k hk => by unfold NewF at hk; omega))
  have C5 := spoil_link a4 1 (n : Int) m
  rw [spoils_spoil xs xs n hn m] at C5
  have H5 := Lib.hid C5
  clear C5
  go_wp2_with fail
  refine H5.out.mono ?_
  clear H5
  rintro e w5 ⟨rfl, a5, k5⟩
  have b5 : Below w.heap.size w w5 := b4.trans (k5.below b4.size hF)
  have a6 := a5
  have b6 := b5
  have C7 := recv_any a6 1 (.inr rfl)
  have hwt : (SL xs (xs.set n (xs.getD n 0 ^^^ m))).wait 1 = (xs.set n (xs.getD n 0 ^^^ m)) := rfl
  have hdr : (SL xs (xs.set n (xs.getD n 0 ^^^ m))).drop 1 = SL xs [] := rfl
  have hwl : (xs.set n (xs.getD n 0 ^^^ m)).length = xs.length := by simp
  have H7 := Lib.hid C7
  clear C7
  have HW := Lib.hid hwt
  have HR := Lib.hid hdr
  have HL := Lib.hid hwl
  clear hwt hdr hwl
  go_wp2_with fail
  refine H7.out.mono ?_
  clear H7
  rintro e w7 ⟨v7, rfl, n7, a7, k7⟩
  rw [HW.out] at n7
  rw [HR.out] at a7
  obtain ⟨g7, rfl, hg7, hl7, r7⟩ := n7.reads
  rw [HL.out] at r7 ⊢
  have b7 : Below w.heap.size w w7 := b6.trans (k7.below b6.size hF)
  have hst : (SL xs []).sent 0 = xs := rfl
  have HS := Lib.hid hst
  clear hst
  have x7 := hx.below b7
  have cvx : ∀ W, Kept NoF w7 W → (convert 22 9 (.slice X xs.length cx)).run Try.prog W = .ok (.string (ba xs)) W := fun W kW => conv_reads (kW.reads x7 b7.size (fun _ _ h => h))
  have CVX := Lib.hid cvx
  clear cvx
  have kd := (Kept.refl NoF w7).drew
  go_wp2_with fail
  refine wp_region_noPanic ?_
  refine wp_region_held_drew (S := fun w' => Kept NoF w7 w' ∧ (convert 22 9 (.slice X xs.length cx)).run Try.prog w' = .ok (.string (ba xs)) w') (by kernel_rfl) ?_ (fun hHeld => ?_)
  · exact ⟨kd, CVX.out _ kd⟩
  refine wpAnyH_take (i := 0) (v := ?_) rfl (by kernel_rfl) (by kernel_rfl) (by kernel_rfl) (fun _ _ _ h => h) (Or.inl ⟨by rfl, ?_⟩) hHeld ?_
  rotate_left
  · (intro w hSw; (try dsimp only at hSw); go_simp; try (with_reducible rfl))
  simp only [Act.put, List.getElem_toArray, List.getElem_cons_zero, List.setIfInBounds_toArray, List.set_cons_zero, List.set_cons_succ]
  refine wpAnyH_take (i := 1) (v := ?_) rfl (by kernel_rfl) (by kernel_rfl) (by kernel_rfl) (fun _ _ _ h => h) (Or.inl ⟨by rfl, ?_⟩) hHeld ?_
  rotate_left
  · (intro w hSw; (try dsimp only at hSw); go_simp; try (with_reducible rfl))
  simp only [Act.put, List.getElem_toArray, List.getElem_cons_zero, List.getElem_cons_succ, List.setIfInBounds_toArray, List.set_cons_zero, List.set_cons_succ]
  refine wpAnyH_take (i := 2) (v := ?_) rfl (by kernel_rfl) (by kernel_rfl) (by kernel_rfl) (fun _ _ _ h => h) (Or.inl ⟨by rfl, ?_⟩) hHeld ?_
  rotate_left
  · (intro w hSw; (try dsimp only at hSw); go_simp; try (with_reducible rfl))
  simp only [Act.put, List.getElem_toArray, List.getElem_cons_zero, List.getElem_cons_succ, List.setIfInBounds_toArray, List.set_cons_zero, List.set_cons_succ]
  refine wpAnyH_take (i := 3) (v := ?_) rfl (by kernel_rfl) (by kernel_rfl) (by kernel_rfl) (fun _ _ _ h => h) (Or.inl ⟨by rfl, ?_⟩) hHeld ?_
  rotate_left
  · (intro w hSw; (try dsimp only at hSw); go_simp; try (with_reducible rfl))
  simp only [Act.put, List.getElem_toArray, List.getElem_cons_zero, List.getElem_cons_succ, List.setIfInBounds_toArray, List.set_cons_zero, List.set_cons_succ]
  refine wpAnyH_take (i := 4) (v := ?_) rfl (by kernel_rfl) (by kernel_rfl) (by kernel_rfl) (fun _ _ _ h => h) (Or.inl ⟨by rfl, ?_⟩) hHeld ?_
  rotate_left
  · (intro w hSw; (try dsimp only at hSw); go_simp; try (with_reducible rfl))
  simp only [Act.put, List.getElem_toArray, List.getElem_cons_zero, List.getElem_cons_succ, List.setIfInBounds_toArray, List.set_cons_zero, List.set_cons_succ]
  refine wpAnyH_take (i := 5) (v := ?_) rfl (by kernel_rfl) (by kernel_rfl) (by kernel_rfl) (fun _ _ _ h => h) (Or.inl ⟨by rfl, ?_⟩) hHeld ?_
  rotate_left
  · (intro w hSw; (try dsimp only at hSw); go_simp; try (with_reducible rfl))
  simp only [Act.put, List.getElem_toArray, List.getElem_cons_zero, List.getElem_cons_succ, List.setIfInBounds_toArray, List.set_cons_zero, List.set_cons_succ]
  refine wpAnyH_take (i := 6) (v := ?_) rfl (by kernel_rfl) (by kernel_rfl) (by kernel_rfl) (fun _ _ _ h => h) (Or.inl ⟨by rfl, ?_⟩) hHeld ?_
  rotate_left
  · (intro w hSw; (try dsimp only at hSw); go_simp; try (with_reducible rfl))
  simp only [Act.put, List.getElem_toArray, List.getElem_cons_zero, List.getElem_cons_succ, List.setIfInBounds_toArray, List.set_cons_zero, List.set_cons_succ]
  refine wpAnyH_take (i := 7) (v := ?_) rfl (by kernel_rfl) (by kernel_rfl) (by kernel_rfl) (fun _ _ _ h => h) (Or.inl ⟨by rfl, ?_⟩) hHeld ?_
  rotate_left
  · (intro w hSw; (try dsimp only at hSw); go_simp; try (with_reducible rfl))
  simp only [Act.put, List.getElem_toArray, List.getElem_cons_zero, List.getElem_cons_succ, List.setIfInBounds_toArray, List.set_cons_zero, List.set_cons_succ]
  refine wpAnyH_take (i := 8) (v := ?_) rfl (by kernel_rfl) (by kernel_rfl) (by kernel_rfl) (fun _ _ _ h => h) (Or.inl ⟨by rfl, ?_⟩) hHeld ?_
  rotate_left
  · (intro w hSw; (try dsimp only at hSw); go_simp; try (with_reducible rfl))
  simp only [Act.put, List.getElem_toArray, List.getElem_cons_zero, List.getElem_cons_succ, List.setIfInBounds_toArray, List.set_cons_zero, List.set_cons_succ]
  refine wpAnyH_take (i := 9) (v := ?_) rfl (by kernel_rfl) (by kernel_rfl) (by kernel_rfl) (fun _ _ _ h => h) (Or.inl ⟨by rfl, ?_⟩) hHeld ?_
  rotate_left
  · (intro w hSw; (try dsimp only at hSw); go_simp; try (with_reducible rfl))
  simp only [Act.put, List.getElem_toArray, List.getElem_cons_zero, List.getElem_cons_succ, List.setIfInBounds_toArray, List.set_cons_zero, List.set_cons_succ]
  refine wpAnyH_take (i := 10) (v := ?_) rfl (by kernel_rfl) (by kernel_rfl) (by kernel_rfl) (fun _ _ _ h => h) (Or.inl ⟨by rfl, ?_⟩) hHeld ?_
  rotate_left
  · (intro w hSw; (try dsimp only at hSw); go_simp; try (with_reducible rfl))
  simp only [Act.put, List.getElem_toArray, List.getElem_cons_zero, List.getElem_cons_succ, List.setIfInBounds_toArray, List.set_cons_zero, List.set_cons_succ]
  refine wpAnyH_take (i := 11) (v := ?_) rfl (by kernel_rfl) (by kernel_rfl) (by kernel_rfl) (fun _ _ _ h => h) (Or.inl ⟨by rfl, ?_⟩) hHeld ?_
  rotate_left
  · (intro w hSw; (try dsimp only at hSw); go_simp; try (with_reducible rfl))
  simp only [Act.put, List.getElem_toArray, List.getElem_cons_zero, List.getElem_cons_succ, List.setIfInBounds_toArray, List.set_cons_zero, List.set_cons_succ]
  refine wpAnyH_take (i := 12) (v := ?_) rfl (by kernel_rfl) (by kernel_rfl) (by kernel_rfl) (fun _ _ _ h => h) (Or.inl ⟨by rfl, ?_⟩) hHeld ?_
  rotate_left
  · (intro w hSw; (try dsimp only at hSw); go_simp; try (with_reducible rfl))
  simp only [Act.put, List.getElem_toArray, List.getElem_cons_zero, List.getElem_cons_succ, List.setIfInBounds_toArray, List.set_cons_zero, List.set_cons_succ]
  refine wpAnyH_take (i := 13) (v := ?_) rfl (by kernel_rfl) (by kernel_rfl) (by kernel_rfl) (fun _ _ _ h => h) (Or.inl ⟨by rfl, ?_⟩) hHeld ?_
  rotate_left
  · (intro w hSw; (try dsimp only at hSw); go_simp; try (with_reducible rfl))
  simp only [Act.put, List.getElem_toArray, List.getElem_cons_zero, List.getElem_cons_succ, List.setIfInBounds_toArray, List.set_cons_zero, List.set_cons_succ]
  refine wpAnyH_take (i := 14) (v := ?_) rfl (by kernel_rfl) (by kernel_rfl) (by kernel_rfl) (fun _ _ _ h => h) (Or.inl ⟨by rfl, ?_⟩) hHeld ?_
  rotate_left
  · (intro w hSw; (try dsimp only at hSw); go_simp; try (with_reducible rfl))
  simp only [Act.put, List.getElem_toArray, List.getElem_cons_zero, List.getElem_cons_succ, List.setIfInBounds_toArray, List.set_cons_zero, List.set_cons_succ]
  refine wpAnyH_take (i := 17) (v := ?_) rfl (by kernel_rfl) (by kernel_rfl) (by kernel_rfl) (fun _ _ _ h => h) (Or.inl ⟨by rfl, ?_⟩) hHeld ?_
  rotate_left
  · (intro w hSw; (try dsimp only at hSw); go_simp; try (with_reducible rfl))
  simp only [Act.put, List.getElem_toArray, List.getElem_cons_zero, List.getElem_cons_succ, List.setIfInBounds_toArray, List.set_cons_zero, List.set_cons_succ]
  refine wpAnyH_take (i := 18) (v := ?_) rfl (by kernel_rfl) (by kernel_rfl) (by kernel_rfl) (fun _ _ _ h => h) (Or.inl ⟨by rfl, ?_⟩) hHeld ?_
  rotate_left
  · (intro w hSw; (try dsimp only at hSw); go_simp; try (with_reducible rfl))
  simp only [Act.put, List.getElem_toArray, List.getElem_cons_zero, List.getElem_cons_succ, List.setIfInBounds_toArray, List.set_cons_zero, List.set_cons_succ]
  refine wpAnyH_ready (rs := [15]) (by kernel_rfl) (by simp) ?_
  refine AllReadyH.cons rfl (fun K hK => ?_) AllReadyH.nil
  go_simp
  refine (tran_any (a7.kept kd (fun _ _ h => h)) 0 (.inl rfl)).mono ?_
  rintro e w8 ⟨v8, rfl, n8, k8⟩
  rw [HS.out] at n8
  obtain ⟨g8, rfl, hg8, hl8, r8⟩ := n8.reads
  have c8 := conv_reads (c := xs.length) r8
  have kd8 := kd.trans k8 (fun _ h => .inl h)
  go_wp2_with fail
  refine hK.out _ _ ⟨kd8, CVX.out _ kd8⟩ (fun hHeld => ?_)
  clear hK K
  try simp only [Act.put, List.getElem_toArray, List.getElem_cons_zero, List.getElem_cons_succ, List.setIfInBounds_toArray, List.set_cons_zero, List.set_cons_succ]
  refine wpAnyH_ready (rs := [16]) (by kernel_rfl) (by simp) ?_
  refine AllReadyH.cons rfl (fun K hK => ?_) AllReadyH.nil
  go_simp
  refine hK.out _ _ ⟨kd8, CVX.out _ kd8⟩ (fun hHeld => ?_)
  clear hK K
  try simp only [Act.put, List.getElem_toArray, List.getElem_cons_zero, List.getElem_cons_succ, List.setIfInBounds_toArray, List.set_cons_zero, List.set_cons_succ]
  refine wpAnyH_take (i := 19) (v := ?_) rfl (by kernel_rfl) (by kernel_rfl) (by kernel_rfl) (fun _ _ _ h => h) (Or.inl ⟨by rfl, ?_⟩) hHeld ?_
  rotate_left
  · (intro w hSw; (try dsimp only at hSw); go_simp; try (with_reducible rfl))
  simp only [Act.put, List.getElem_toArray, List.getElem_cons_zero, List.getElem_cons_succ, List.setIfInBounds_toArray, List.set_cons_zero, List.set_cons_succ]
  refine wpAnyH_take (i := 20) (v := ?_) rfl (by kernel_rfl) (by kernel_rfl) (by kernel_rfl) (fun _ _ _ h => h) (Or.inl ⟨by rfl, ?_⟩) hHeld ?_
  rotate_left
  · (intro w hSw; (try dsimp only at hSw); go_simp; try (with_reducible rfl))
  simp only [Act.put, List.getElem_toArray, List.getElem_cons_zero, List.getElem_cons_succ, List.setIfInBounds_toArray, List.set_cons_zero, List.set_cons_succ]
  refine wpAnyH_done (by kernel_rfl) ?_ _
  refine NoPanic.normal ?_
  have x8 := kd8.reads x7 b7.size (fun _ _ h => h)
  have r78 := kd8.row r7 (fun h => h)
  have b8 : Below w.heap.size w w8 := b7.trans (kd8.below b7.size (fun _ h => h.elim))
  clear c8 kd8 k8 r8 x7 r7
  go_wp2_with fail
  go_loop [14] (fun i => ∃ j : Nat, j ≤ xs.length ∧ i = .int .i64 (j : Int)) (fun i => xs.length - (intOf i).toNat)
  case atStart => exact ⟨0, Nat.zero_le _, rfl⟩
  case round =>
    obtain ⟨j, hj, rfl⟩ := hrel
    by_cases hlt : j < xs.length
    · obtain ⟨ad, u, rfl, _, hu, hcell⟩ := x8.at_ hlt
      rw [bvs_get _ _ hlt] at hu
      injection hu with hu
      subst hu
      have hx1 : w8.cell? (ad.add j) = some (.int .u8 (xs[j].toNat : Int)) := hcell
      obtain ⟨ad2, u2, e2, _, hu2, hcell2⟩ := r78.at_ (k := j) (by omega)
      injection e2 with e2
      subst e2
      rw [Addr.add_lit, Nat.zero_add] at hcell2
      clear hcell
      have hl2 : j < (xs.set n (xs.getD n 0 ^^^ m)).length := by simpa using hlt
      rw [bvs_get _ _ hl2] at hu2
      injection hu2 with hu2
      subst hu2
      by_cases hjn : j = n
      · subst hjn
        have e : (xs.set j (xs.getD j 0 ^^^ m))[j] = xs[j] ^^^ m := by simp [List.getD, hlt]
        rw [e] at hcell2
        have hx2 : w8.cell? ⟨g7, j, none⟩ = some (.int .u8 ((xs[j] ^^^ m).toNat : Int)) := hcell2
        have hxor := xor_bv xs[j] m
        clear hcell2
        generalize xs[j] = b at hx1 hx2 hxor
        go_wp2_with fail
        all_goals
          go_round
          case rel => exact ⟨j + 1, by omega, by go_num⟩
          case measure => simp [intOf]; omega
      · have e : (xs.set n (xs.getD n 0 ^^^ m))[j] = xs[j] := by rw [List.getElem_set_ne (by omega)]
        rw [e] at hcell2
        have hx2 : w8.cell? ⟨g7, j, none⟩ = some (.int .u8 (xs[j].toNat : Int)) := hcell2
        clear hcell2
        have hne : ((j : Int) == (n : Int)) = false := by simp; omega
        generalize xs[j] = b at hx1 hx2
        go_wp2_with fail
        all_goals
          go_round
          case rel => exact ⟨j + 1, by omega, by go_num⟩
          case measure => simp [intOf]; omega
    · go_wp2_with fail
      go_ret
      exact ⟨rfl, b8⟩

end Go.Proofs.Ytchchgdkejolaaa
