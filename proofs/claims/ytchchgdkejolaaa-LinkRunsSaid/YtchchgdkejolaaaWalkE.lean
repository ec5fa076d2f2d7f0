/- The walk of LinkSides. -/
import Derived.Test.YtchchgdkejolaaaWalkD
import Derived.Test.YtchchgdkejolaaaHeld
namespace Go.Proofs.Ytchchgdkejolaaa
open Go.RowKit

set_option maxHeartbeats 1000000 in
set_option maxRecDepth 100000 in
theorem sides_no (b c : Int) (ls : Value) (w : World) (h : b < 0 ∨ 1073741824 < b) :
    Calls Try.prog 7 #[.int .i64 b, .int .i64 c, ls] w fun e w' => e = .returned (.bool true) ∧ Below w.heap.size w w' := by
  go_enter Try.func7, Try.ntmps7
  go_wp2_with fail
  refine (new_no b c _ h).mono ?_
  rintro e w1 ⟨rfl, rfl⟩
  go_wp2_with fail
  refine (new_no b c _ h).mono ?_
  rintro e w1 ⟨rfl, rfl⟩
  go_wp2_with fail
  refine (awake_any _).mono ?_
  rintro e w3 ⟨rfl, k3⟩
  go_wp2_with fail
  refine (awake_any _).mono ?_
  rintro e w4 ⟨rfl, k4⟩
  go_wp2_with fail
  go_ret
  exact ⟨rfl, k3.trans (k4.mono k3.size)⟩

set_option maxHeartbeats 1000000 in
set_option maxRecDepth 100000 in
theorem sides_many (b c : Int) (A : Option Addr) (cap : Nat) (ops : List OpD) (w : World) (h0 : 0 ≤ b) (h1 : b ≤ 1073741824) (l0 : -9223372036854775808 ≤ c) (l1 : c ≤ 9223372036854775807)
    (hops : OpsAt w A ops) (hf : fewB ops = false) :
    Calls Try.prog 7 #[.int .i64 b, .int .i64 c, .slice A ops.length cap] w fun e w' => e = .returned (.bool true) ∧ Below w.heap.size w w' := by
  have HF := Lib.hid hf
  clear hf
  go_enter Try.func7, Try.ntmps7
  go_wp2_with fail
  refine (new_any b c _ h0 h1 l0 l1).mono ?_
  rintro e w1 ⟨rfl, a1, k1, s1⟩
  clear s1
  go_wp2_with fail
  refine (new_any b c _ h0 h1 l0 l1).mono ?_
  rintro e w2 ⟨rfl, a2, k2, s2⟩
  clear s2
  go_wp2_with fail
  refine (awake_any _).mono ?_
  rintro e w3 ⟨rfl, k3⟩
  have b3 : Below w.heap.size w w3 := nof_below ((k1.trans k2 (fun _ h => .inl h)).trans (Kept.of_below k3) (fun _ h => .inl h))
  have C := few_any A cap ops w3 (hops.below b3)
  rw [HF.out] at C
  have H := Lib.hid C
  clear C
  go_wp2_with fail
  refine H.out.mono ?_
  rintro e w4 ⟨rfl, rfl⟩
  go_wp2_with fail
  refine (awake_any _).mono ?_
  rintro e w5 ⟨rfl, k5⟩
  go_wp2_with fail
  go_ret
  exact ⟨rfl, b3.trans (k5.mono b3.size)⟩

theorem left_kept {F : Nat → Prop} {p : Nat} {L : LS} {w : World} (h : LinkAt w F p L) :
    Calls Try.prog 14 #[.pointer (some ⟨p, 0, none⟩)] w fun e w' => e = .returned (.int .i64 (L.budget - L.total)) ∧ Kept NoF w w' := by
  refine (left_link h).mono ?_
  rintro e w' ⟨rfl, n, rfl⟩
  exact ⟨rfl, (Kept.refl _ _).drewN n⟩
theorem sent_kept {F : Nat → Prop} {p : Nat} {L : LS} {w : World} (h : LinkAt w F p L) (side : Int) :
    Calls Try.prog 17 #[.pointer (some ⟨p, 0, none⟩), .int .i64 side] w fun e w' => e = .returned (.int .i64 ((L.sent side).length : Int)) ∧ Kept NoF w w' := by
  refine (sent_any h side).mono ?_
  rintro e w' ⟨rfl, rfl⟩
  exact ⟨rfl, Kept.refl _ _⟩
/-- string(x) of a slice that a call made, in every later world. -/
theorem conv_new {w w' : World} {v : Value} {xs : List UInt8} (h : NewRow w w' v xs) : ∀ W, Kept NoF w' W → (convert 22 9 v).run Try.prog W = .ok (.string (ba xs)) W := by
  intro W k
  obtain ⟨g, rfl, _, _, r⟩ := h.reads
  exact conv_reads (k.row r (fun h => h))

def SidesRel (w : World) (q n : Nat) (i : Value) (wr : World) : Prop :=
  ∃ (j : Nat) (F G : Nat → Prop) (L : LS), j ≤ n ∧ i = .int .i64 (j : Int) ∧ LinkAt wr F w.heap.size L ∧ LinkAt wr G q L.swap ∧ (∀ k, F k → w.heap.size ≤ k) ∧ (∀ k, G k → w.heap.size ≤ k) ∧ (∀ k, F k → ¬ G k) ∧ Below w.heap.size w wr

/-- Behind a call on one of two links both still lie apart. -/
theorem more_apart {F G : Nat → Prop} {wr w' : World} (hd : ∀ k, F k → ¬ G k) (hG : ∀ k, G k → k < wr.heap.size) : ∀ k, More F wr w' k → ¬ G k := by
  rintro k (h | h) hg
  · exact hd k h hg
  · have := hG k hg; omega

set_option maxHeartbeats 4000000 in
set_option maxRecDepth 100000 in
theorem sides_few (b c : Int) (A : Option Addr) (cap : Nat) (ops : List OpD) (w : World) (h0 : 0 ≤ b) (h1 : b ≤ 1073741824) (l0 : -9223372036854775808 ≤ c) (l1 : c ≤ 9223372036854775807)
    (hops : OpsAt w A ops) (hf : fewB ops = true) :
    Calls Try.prog 7 #[.int .i64 b, .int .i64 c, .slice A ops.length cap] w fun e w' => e = .returned (.bool true) ∧ Below w.heap.size w w' := by
  have HF := Lib.hid hf
  clear hf
  have hlen := hops.1
  go_enter Try.func7, Try.ntmps7
  go_wp2_with fail
  refine (new_any b c _ h0 h1 l0 l1).mono ?_
  rintro e w1 ⟨rfl, a1, k1, s1⟩
  have S1 := Lib.hid s1
  clear s1
  go_wp2_with fail
  refine (new_any b c _ h0 h1 l0 l1).mono ?_
  rintro e w2 ⟨rfl, b2, k2, s2⟩
  clear s2
  go_wp2_with fail
  refine (awake_any _).mono ?_
  rintro e w3 ⟨rfl, k3⟩
  have b3 : Below w.heap.size w w3 := nof_below ((k1.trans k2 (fun _ h => .inl h)).trans (Kept.of_below k3) (fun _ h => .inl h))
  have a3 := (a1.kept k2 (fun _ _ h => h)).kept (Kept.of_below (F := NoF) k3) (fun _ _ h => h)
  have q3 := b2.kept (Kept.of_below (F := NoF) k3) (fun _ _ h => h)
  have C := few_any A cap ops w3 (hops.below b3)
  rw [HF.out] at C
  have H := Lib.hid C
  clear C
  go_wp2_with fail
  refine H.out.mono ?_
  rintro e w4 ⟨rfl, rfl⟩
  clear H
  go_wp2_with fail
  go_loopw [11] (SidesRel w w1.heap.size ops.length) (fun i _ => ops.length - (intOf i).toNat)
  case atStart =>
    exact ⟨0, _, _, _, Nat.zero_le _, rfl, a3, q3, fun k hk => by unfold NewF at hk; omega, fun k hk => by unfold NewF at hk; have := S1.out; omega, fun k h1 h2 => by unfold NewF at h1 h2; have := S1.out; omega, b3⟩
  case round =>
    obtain ⟨j, F, G, L, hj, rfl, l, m, hF, hG, hFG, bw⟩ := hrel
    by_cases hlt : j < ops.length
    · obtain ⟨b', off, X, cx, rfl, hbl, c0, c1, c2, _, _, hcx, _, hr, _⟩ := hops.at_ hlt
      have k0 : wr.cell? ⟨b', off + j * 5, none⟩ = some (.int .i64 ops[j].kind) := (bw.cell hbl).trans c0
      have k1 : wr.cell? ⟨b', off + j * 5 + 1, none⟩ = some (.int .i64 ops[j].side) := (bw.cell hbl).trans c1
      have k2 : wr.cell? ⟨b', off + j * 5 + 2, none⟩ = some (.slice X ops[j].xs.length cx) := (bw.cell hbl).trans c2
      have hk := and_one_i64 ops[j].side
      generalize ops[j].side = sd at k1 hk c1
      generalize ops[j].kind = kd at k0 c0
      go_wp2_with fail
      generalize bits BinOp.and IntKind.i64 sd 1 = k at hk ⊢
      have hk' : IsSide k := hk
      have K0 : 0 ≤ k ∧ k ≤ 1 := by omega
      clear hk
      have hsrc : ∀ ad, X = some ad → 0 < ops[j].xs.length → ad.block < w.heap.size := by
        intro ad e hp
        obtain ⟨ad', e', hlt', _⟩ := hr.2 hp
        rw [e] at e'
        injection e' with e'
        subst e'
        exact hlt'
      have C := send_any l k X cx _ ops[j].xs rfl ((hr.below bw).more bw.size) (fun ad e hp hf => by have := hsrc ad e hp; have := hF _ hf; omega) hcx
      refine C.mono ?_
      clear C
      rintro e w5 ⟨rfl, l5, k5⟩
      have m5 := m.kept k5 (fun x h1 h2 => hFG x h2 h1)
      have bw5 : Below w.heap.size w w5 := bw.trans (k5.below bw.size hF)
      have hF5 := more_ge (w' := w5) hF bw.size
      have hFG5 := more_apart (w' := w5) hFG m.lt
      generalize More F wr w5 = F5 at l5 hF5 hFG5
      have C := send_any m5 (1 - k) X cx _ ops[j].xs rfl ((hr.below bw5).more bw5.size) (fun ad e hp hf => by have := hsrc ad e hp; have := hG _ hf; omega) hcx
      rw [swap_send hk'] at C
      have H := Lib.hid C
      clear C
      have k2' : w5.cell? ⟨b', off + j * 5 + 2, none⟩ = some (.slice X ops[j].xs.length cx) := (bw5.cell hbl).trans c2
      generalize ops[j].xs.length = nx at k2 k2' H
      go_wp2_with fail
      refine H.out.mono ?_
      clear H
      rintro e w6 ⟨rfl, m6, k6⟩
      have l6 := l5.kept k6 hFG5
      have bw6 : Below w.heap.size w w6 := bw5.trans (k6.below bw5.size hG)
      have hG6 := more_ge (w' := w6) hG bw5.size
      have hFG6 : ∀ x, F5 x → ¬ More G w5 w6 x := fun x h1 h2 => more_apart (w' := w6) (fun y h3 h4 => hFG5 y h4 h3) l5.lt x h2 h1
      generalize More G w5 w6 = G6 at m6 hG6 hFG6
      generalize L.send k ops[j].xs = r at l5 l6 m6
      obtain ⟨L', n', f'⟩ := r
      have k0' : w6.cell? ⟨b', off + j * 5, none⟩ = some (.int .i64 kd) := (bw6.cell hbl).trans c0
      clear k0 k1 k2 k2' c0 c1 c2 hr hsrc
      by_cases hkd : kd = 2
      · subst hkd
        have H7 := Lib.hid (recv_any l6 k hk')
        go_wp2_with fail
        refine H7.out.mono ?_
        clear H7
        rintro e w7 ⟨v7, rfl, n7, l7, k7⟩
        obtain ⟨g7, rfl, hg7, hl7, r7⟩ := n7.reads
        have m7 := m6.kept k7 (fun x h1 h2 => hFG6 x h2 h1)
        have bw7 : Below w.heap.size w w7 := bw6.trans (k7.below bw6.size hF5)
        have C := recv_any m7 (1 - k) (swap_side hk')
        have hsw : (L', n', f').fst.swap.wait (1 - k) = L'.wait k := swap_wait hk'
        have hsd : (L', n', f').fst.swap.drop (1 - k) = (L'.drop k).swap := swap_drop hk'
        have H8 := Lib.hid C
        have HSW := Lib.hid hsw
        have HSD := Lib.hid hsd
        clear C hsw hsd
        go_wp2_with fail
        refine H8.out.mono ?_
        clear H8
        rintro e w8 ⟨v8, rfl, n8, m8, k8⟩
        have n8' : NewRow w7 w8 v8 (L'.wait k) := HSW.out ▸ n8
        have m8' : LinkAt w8 G6 w1.heap.size (L'.drop k).swap := HSD.out ▸ m8
        clear n8 m8
        obtain ⟨g8, rfl, hg8, hl8, r8⟩ := n8'.reads
        have l8 := l7.kept k8 hFG6
        have bw8 : Below w.heap.size w w8 := bw7.trans (k8.below bw7.size hG6)
        have r78 := k8.row r7 (fun h => by have := m6.lt _ h; omega)
        have cv7 : (convert 22 9 (.slice (some ⟨g7, 0, none⟩) (L'.wait k).length (L'.wait k).length)).run Try.prog w8 = .ok (.string (ba (L'.wait k))) w8 := conv_reads r78
        have cv8 := conv_reads (c := (L'.wait k).length) r8
        go_wp2_with fail
        go_roundw
        case rel => exact ⟨j + 1, F5, G6, _, by omega, by go_num, l8, m8', hF5, hG6, hFG6, bw8⟩
        case measure => simp [intOf]; omega
      · have hkd' : (kd == 2) = false := by simpa using hkd
        go_wp2_with fail
        go_roundw
        case rel => exact ⟨j + 1, F5, G6, _, by omega, by go_num, l6, m6, hF5, hG6, hFG6, bw6⟩
        case measure => simp [intOf]; omega
    · have hls : ∀ W, LinkAt W G w1.heap.size L.swap → Calls Try.prog 14 #[.pointer (some ⟨w1.heap.size, 0, none⟩)] W fun e w' => e = .returned (.int .i64 (L.budget - L.total)) ∧ Kept NoF W w' := fun W hW => by
        have := left_kept hW
        rw [swap_total] at this
        exact this
      have hss : ∀ W, LinkAt W G w1.heap.size L.swap → Calls Try.prog 17 #[.pointer (some ⟨w1.heap.size, 0, none⟩), .int .i64 1] W fun e w' => e = .returned (.int .i64 ((L.sent 0).length : Int)) ∧ Kept NoF W w' := fun W hW => sent_kept hW 1
      have hts : ∀ W, LinkAt W G w1.heap.size L.swap → Calls Try.prog 18 #[.pointer (some ⟨w1.heap.size, 0, none⟩), .int .i64 0] W (TransPost L 1 W) := fun W hW => tran_any hW 0 (.inl rfl)
      have HLS := Lib.hid hls
      have HSS := Lib.hid hss
      have HTS := Lib.hid hts
      clear hls hss hts
      go_wp2_with fail
      refine wp_region_noPanic ?_
      refine wp_region_held_drew (S := fun w' => Kept NoF wr w') (by kernel_rfl) ?_ (fun hHeld => ?_)
      · exact (Kept.refl NoF wr).drew
      refine wpAnyH_take (i := 0) (v := ?_) rfl (by kernel_rfl) (by kernel_rfl) (by kernel_rfl) (fun _ _ _ h => h) (Or.inl ⟨by rfl, ?_⟩) hHeld ?_
      rotate_left
      · (intro w hSw; (try dsimp only at hSw); go_simp; try (with_reducible rfl))
      simp only [Act.put, List.getElem_toArray, List.getElem_cons_zero, List.setIfInBounds_toArray, List.set_cons_zero, List.set_cons_succ]
      refine wpAnyH_take (i := 2) (v := ?_) rfl (by kernel_rfl) (by kernel_rfl) (by kernel_rfl) (fun _ _ _ h => h) (Or.inl ⟨by rfl, ?_⟩) hHeld ?_
      rotate_left
      · (intro w hSw; (try dsimp only at hSw); go_simp; try (with_reducible rfl))
      simp only [Act.put, List.getElem_toArray, List.getElem_cons_zero, List.getElem_cons_succ, List.setIfInBounds_toArray, List.set_cons_zero, List.set_cons_succ]
      refine wpAnyH_ready (rs := [1]) (by kernel_rfl) (by simp) ?_
      refine AllReadyH.cons rfl (fun K hK => ?_) AllReadyH.nil
      go_simp
      refine (left_kept (l.kept hHeld (fun _ _ h => h))).mono ?_
      rintro e wa ⟨rfl, ka⟩
      go_wp2_with fail
      refine hK.out _ _ (hHeld.trans ka (fun _ h => .inl h)) (fun hHeld => ?_)
      clear hK K
      try simp only [Act.put, List.getElem_toArray, List.getElem_cons_zero, List.getElem_cons_succ, List.setIfInBounds_toArray, List.set_cons_zero, List.set_cons_succ]
      refine wpAnyH_ready (rs := [3]) (by kernel_rfl) (by simp) ?_
      refine AllReadyH.cons rfl (fun K hK => ?_) AllReadyH.nil
      go_simp
      refine (HLS.out _ (m.kept hHeld (fun _ _ h => h))).mono ?_
      rintro e wb ⟨rfl, kb⟩
      go_wp2_with fail
      refine hK.out _ _ (hHeld.trans kb (fun _ h => .inl h)) (fun hHeld => ?_)
      clear hK K
      try simp only [Act.put, List.getElem_toArray, List.getElem_cons_zero, List.getElem_cons_succ, List.setIfInBounds_toArray, List.set_cons_zero, List.set_cons_succ]
      refine wpAnyH_take (i := 4) (v := ?_) rfl (by kernel_rfl) (by kernel_rfl) (by kernel_rfl) (fun _ _ _ h => h) (Or.inl ⟨by rfl, ?_⟩) hHeld ?_
      rotate_left
      · (intro w hSw; (try dsimp only at hSw); go_simp; try (with_reducible rfl))
      simp only [Act.put, List.getElem_toArray, List.getElem_cons_zero, List.getElem_cons_succ, List.setIfInBounds_toArray, List.set_cons_zero, List.set_cons_succ]
      refine wpAnyH_take (i := 5) (v := ?_) rfl (by kernel_rfl) (by kernel_rfl) (by kernel_rfl) (fun _ _ _ h => h) (Or.inl ⟨by rfl, ?_⟩) hHeld ?_
      rotate_left
      · (intro w hSw; (try dsimp only at hSw); go_simp; try (with_reducible rfl))
      simp only [Act.put, List.getElem_toArray, List.getElem_cons_zero, List.getElem_cons_succ, List.setIfInBounds_toArray, List.set_cons_zero, List.set_cons_succ]
      refine wpAnyH_take (i := 6) (v := ?_) rfl (by kernel_rfl) (by kernel_rfl) (by kernel_rfl) (fun _ _ _ h => h) (Or.inl ⟨by rfl, ?_⟩) hHeld ?_
      rotate_left
      · (intro w hSw; (try dsimp only at hSw); go_simp; try (with_reducible rfl))
      simp only [Act.put, List.getElem_toArray, List.getElem_cons_zero, List.getElem_cons_succ, List.setIfInBounds_toArray, List.set_cons_zero, List.set_cons_succ]
      refine wpAnyH_take (i := 8) (v := ?_) rfl (by kernel_rfl) (by kernel_rfl) (by kernel_rfl) (fun _ _ _ h => h) (Or.inl ⟨by rfl, ?_⟩) hHeld ?_
      rotate_left
      · (intro w hSw; (try dsimp only at hSw); go_simp; try (with_reducible rfl))
      simp only [Act.put, List.getElem_toArray, List.getElem_cons_zero, List.getElem_cons_succ, List.setIfInBounds_toArray, List.set_cons_zero, List.set_cons_succ]
      refine wpAnyH_ready (rs := [7]) (by kernel_rfl) (by simp) ?_
      refine AllReadyH.cons rfl (fun K hK => ?_) AllReadyH.nil
      go_simp
      refine (sent_kept (l.kept hHeld (fun _ _ h => h)) 0).mono ?_
      rintro e wc ⟨rfl, kc⟩
      go_wp2_with fail
      refine hK.out _ _ (hHeld.trans kc (fun _ h => .inl h)) (fun hHeld => ?_)
      clear hK K
      try simp only [Act.put, List.getElem_toArray, List.getElem_cons_zero, List.getElem_cons_succ, List.setIfInBounds_toArray, List.set_cons_zero, List.set_cons_succ]
      refine wpAnyH_ready (rs := [9]) (by kernel_rfl) (by simp) ?_
      refine AllReadyH.cons rfl (fun K hK => ?_) AllReadyH.nil
      go_simp
      refine (HSS.out _ (m.kept hHeld (fun _ _ h => h))).mono ?_
      rintro e wd ⟨rfl, kd⟩
      go_wp2_with fail
      refine hK.out _ _ (hHeld.trans kd (fun _ h => .inl h)) (fun hHeld => ?_)
      clear hK K
      try simp only [Act.put, List.getElem_toArray, List.getElem_cons_zero, List.getElem_cons_succ, List.setIfInBounds_toArray, List.set_cons_zero, List.set_cons_succ]
      refine wpAnyH_take (i := 10) (v := ?_) rfl (by kernel_rfl) (by kernel_rfl) (by kernel_rfl) (fun _ _ _ h => h) (Or.inl ⟨by rfl, ?_⟩) hHeld ?_
      rotate_left
      · (intro w hSw; (try dsimp only at hSw); go_simp; try (with_reducible rfl))
      simp only [Act.put, List.getElem_toArray, List.getElem_cons_zero, List.getElem_cons_succ, List.setIfInBounds_toArray, List.set_cons_zero, List.set_cons_succ]
      refine wpAnyH_take (i := 11) (v := ?_) rfl (by kernel_rfl) (by kernel_rfl) (by kernel_rfl) (fun _ _ _ h => h) (Or.inl ⟨by rfl, ?_⟩) hHeld ?_
      rotate_left
      · (intro w hSw; (try dsimp only at hSw); go_simp; try (with_reducible rfl))
      simp only [Act.put, List.getElem_toArray, List.getElem_cons_zero, List.getElem_cons_succ, List.setIfInBounds_toArray, List.set_cons_zero, List.set_cons_succ]
      refine wpAnyH_take (i := 12) (v := ?_) rfl (by kernel_rfl) (by kernel_rfl) (by kernel_rfl) (fun _ _ _ h => h) (Or.inl ⟨by rfl, ?_⟩) hHeld ?_
      rotate_left
      · (intro w hSw; (try dsimp only at hSw); go_simp; try (with_reducible rfl))
      simp only [Act.put, List.getElem_toArray, List.getElem_cons_zero, List.getElem_cons_succ, List.setIfInBounds_toArray, List.set_cons_zero, List.set_cons_succ]
      refine wpAnyH_take (i := 13) (v := ?_) rfl (by kernel_rfl) (by kernel_rfl) (by kernel_rfl) (fun _ _ _ h => h) (Or.inl ⟨by rfl, ?_⟩) hHeld ?_
      rotate_left
      · (intro w hSw; (try dsimp only at hSw); go_simp; try (with_reducible rfl))
      simp only [Act.put, List.getElem_toArray, List.getElem_cons_zero, List.getElem_cons_succ, List.setIfInBounds_toArray, List.set_cons_zero, List.set_cons_succ]
      refine wpAnyH_take (i := 16) (v := ?_) rfl (by kernel_rfl) (by kernel_rfl) (by kernel_rfl) (fun _ _ _ h => h) (Or.inl ⟨by rfl, ?_⟩) hHeld ?_
      rotate_left
      · (intro w hSw; (try dsimp only at hSw); go_simp; try (with_reducible rfl))
      simp only [Act.put, List.getElem_toArray, List.getElem_cons_zero, List.getElem_cons_succ, List.setIfInBounds_toArray, List.set_cons_zero, List.set_cons_succ]
      refine wpAnyH_ready (rs := [14]) (by kernel_rfl) (by simp) ?_
      refine AllReadyH.cons rfl (fun K hK => ?_) AllReadyH.nil
      go_simp
      refine (tran_any (l.kept hHeld (fun _ _ h => h)) 1 (.inr rfl)).mono ?_
      rintro e we ⟨v1, rfl, n1, k1⟩
      have hHe := hHeld.trans k1 (fun _ h => .inl h)
      have cve := conv_new n1
      obtain ⟨g1, rfl, hg1, hl1, r1⟩ := n1.reads
      go_wp2_with fail
      refine hK.out _ _ hHe (fun hHeld => ?_)
      clear hK K
      try simp only [Act.put, List.getElem_toArray, List.getElem_cons_zero, List.getElem_cons_succ, List.setIfInBounds_toArray, List.set_cons_zero, List.set_cons_succ]
      refine wpAnyH_now (fun w' => Kept NoF wr w' ∧ (convert 22 9 (.slice (some ⟨g1, 0, none⟩) (L.sent 1).length (L.sent 1).length)).run Try.prog w' = .ok (.string (ba (L.sent 1))) w') (fun _ h => h.1) ⟨hHe, cve we (Kept.refl _ _)⟩ (fun hHeld => ?_)
      refine wpAnyH_take (i := 15) (v := ?_) rfl (by kernel_rfl) (by kernel_rfl) (by kernel_rfl) (fun _ _ _ h => h) (Or.inl ⟨by rfl, ?_⟩) hHeld ?_
      rotate_left
      · (intro w hSw; (try dsimp only at hSw); go_simp; try (with_reducible rfl))
      simp only [Act.put, List.getElem_toArray, List.getElem_cons_zero, List.getElem_cons_succ, List.setIfInBounds_toArray, List.set_cons_zero, List.set_cons_succ]
      refine wpAnyH_ready (rs := [17]) (by kernel_rfl) (by simp) ?_
      refine AllReadyH.cons rfl (fun K hK => ?_) AllReadyH.nil
      go_simp
      refine (HTS.out _ (m.kept hHeld.1 (fun _ _ h => h))).mono ?_
      rintro e wf ⟨v2, rfl, n2, k2⟩
      have hHf := hHeld.1.trans k2 (fun _ h => .inl h)
      have cvf := conv_new n2 wf (Kept.refl _ _)
      obtain ⟨g2, rfl, hg2, hl2, r2⟩ := n2.reads
      go_wp2_with fail
      refine hK.out _ _ ⟨hHf, cve wf k2⟩ (fun hHeld => ?_)
      clear hK K
      try simp only [Act.put, List.getElem_toArray, List.getElem_cons_zero, List.getElem_cons_succ, List.setIfInBounds_toArray, List.set_cons_zero, List.set_cons_succ]
      refine wpAnyH_ready (rs := [18]) (by kernel_rfl) (by simp) ?_
      refine AllReadyH.cons rfl (fun K hK => ?_) AllReadyH.nil
      go_simp
      refine hK.out _ _ ⟨hHf, cve wf k2⟩ (fun hHeld => ?_)
      clear hK K
      try simp only [Act.put, List.getElem_toArray, List.getElem_cons_zero, List.getElem_cons_succ, List.setIfInBounds_toArray, List.set_cons_zero, List.set_cons_succ]
      refine wpAnyH_take (i := 19) (v := ?_) rfl (by kernel_rfl) (by kernel_rfl) (by kernel_rfl) (fun _ _ _ h => h) (Or.inl ⟨by rfl, ?_⟩) hHeld ?_
      rotate_left
      · (intro w hSw; (try dsimp only at hSw); go_simp; try (with_reducible rfl))
      simp only [Act.put, List.getElem_toArray, List.getElem_cons_zero, List.getElem_cons_succ, List.setIfInBounds_toArray, List.set_cons_zero, List.set_cons_succ]
      refine wpAnyH_take (i := 20) (v := ?_) rfl (by kernel_rfl) (by kernel_rfl) (by kernel_rfl) (fun _ _ _ h => h) (Or.inl ⟨by rfl, ?_⟩) hHeld ?_
      rotate_left
      · (intro w hSw; (try dsimp only at hSw); go_simp; try (with_reducible rfl))
      simp only [Act.put, List.getElem_toArray, List.getElem_cons_zero, List.getElem_cons_succ, List.setIfInBounds_toArray, List.set_cons_zero, List.set_cons_succ]
      refine wpAnyH_take (i := 21) (v := ?_) rfl (by kernel_rfl) (by kernel_rfl) (by kernel_rfl) (fun _ _ _ h => h) (Or.inl ⟨by rfl, ?_⟩) hHeld ?_
      rotate_left
      · (intro w hSw; (try dsimp only at hSw); go_simp; try (with_reducible rfl))
      simp only [Act.put, List.getElem_toArray, List.getElem_cons_zero, List.getElem_cons_succ, List.setIfInBounds_toArray, List.set_cons_zero, List.set_cons_succ]
      refine wpAnyH_done (by kernel_rfl) ?_ _
      refine NoPanic.normal ?_
      go_wp2_with fail
      go_ret
      exact ⟨rfl, bw.trans (hHf.below bw.size (fun _ h => h.elim))⟩

end Go.Proofs.Ytchchgdkejolaaa
