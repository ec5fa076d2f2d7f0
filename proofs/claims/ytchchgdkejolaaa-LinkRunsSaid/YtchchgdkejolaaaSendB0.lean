/- Send from side 0, printed by gensend.py. -/
import Derived.Test.YtchchgdkejolaaaSend
namespace Go.Proofs.Ytchchgdkejolaaa
open Go.RowKit

set_option maxHeartbeats 1000000 in
set_option maxRecDepth 100000 in
theorem send0_1 {F : Nat → Prop} {p : Nat} {L : LS} {w : World} {v0 v1 v2 v3 : Value} (hok : L.ok) (r : Rep w F p L v0 v1 v2 v3) (X : Option Addr) (c : Nat) (xs : List UInt8)
   (hx : Reads w w.heap.size 1 X xs.length (bvs xs)) (hF : ∀ ad, X = some ad → 0 < xs.length → ¬ F ad.block) (hc : xs.length ≤ c)
   (hd : L.down = false) (hfull : (xs.length : Int) ≤ L.budget - ((L.s0.length : Int) + L.s1.length)) (hcut : L.cut < 0) :
    Calls Try.prog 12 #[.pointer (some ⟨p, 0, none⟩), .int .i64 0, .slice X xs.length c] w (SendPost F p (L.put0 xs false) xs.length 0 w) := by
  obtain ⟨A0, c0, rfl, _⟩ := own_form r.o0
  obtain ⟨A1, c1, rfl, _⟩ := own_form r.o1
  obtain ⟨A2, c2, rfl, _⟩ := own_form r.o2
  obtain ⟨A3, c3, rfl, _⟩ := own_form r.o3
  have k6 : w.cell? ⟨p, 6, none⟩ = some (.bool L.down) := (r.blk.cell 6).trans rfl
  rw [hd] at k6
  have HD := Lib.hid hd
  clear hd
  have b0 := hok.b0
  have b1 := hok.b1
  have b2 := hok.tot
  have l0 := hok.c0
  have l1 := hok.c1
  have l2 := hok.q0
  have l3 := hok.q1
  go_enter Try.func12, Try.ntmps12
  go_wp2_with (go_at_call 25; refine (isSide_yes 0 _ (.inl rfl)).mono ?_; rintro e w' ⟨rfl, rfl⟩)
  refine (left_any hok r).mono ?_
  rintro e w1 ⟨rfl, kw1⟩
  have r1 := r.keptN kw1
  have k5 : w1.cell? ⟨p, 5, none⟩ = some (.int .i64 L.cut) := (r1.blk.cell 5).trans rfl
  have hcd : decide (0 ≤ L.cut) = false := by simp; omega
  go_wp2_with fail
  go_quiet (fail)
  have kw2 := kw1.drewN nq
  generalize w1.drewN nq = w2 at kw2 ⊢
  go_wp2_with fail
  have r2 := r.keptN kw2
  go_quiet (fail)
  have kq := (Kept.refl NoF w2).drewN nq
  have r3 := r2.keptN kq
  have kw3 := Kept.trans (F := F) (G := NoF) (kw2.mono (fun _ h => h.elim)) kq (fun _ h => h.elim)
  generalize w2.drewN nq = w3 at kw3 r3 kq ⊢
  clear kq
  have k6c : w3.cell? ⟨p, 6, none⟩ = some (.bool L.down) := (r3.blk.cell 6).trans rfl
  clear k6
  have k0 : w3.cell? ⟨p, 0, none⟩ = some (.slice A0 L.s0.length c0) := (r3.blk.cell 0).trans rfl
  have o0 := r3.o0.drew
  have x3 := (kw3.src hx hF).drew
  obtain ⟨i0, hi0, hz0, hz1, hz2⟩ := info_parts info5
  go_wp2_with fail
  go_region_law (refine step_append_any _ rfl (.tmp 66) (.tmp 69) 22 rfl 0 5 i0 (.int .u8 0) 1 1 Try.underlying22 hi0 hz0 hz1 hz2 rfl (by omega) (.slice A0 L.s0.length c0) L.s0.length (bvs L.s0) rfl o0 _ X xs.length c (bvs xs) rfl x3 (bvs_one _) (by unfold maxLen; omega) (by omega) (Nat.zero_le _) ?_; intro v' w4 own4 grw4 at4; obtain ⟨A4, c4, rfl, _⟩ := own_form own4; have b4 := r3.blk.drew.grown grw4 (own_blk_ne o0 r3.blk.drew (by decide)).symm; have q4 : w4.cell? ⟨p, 0, none⟩ = some (.slice A0 L.s0.length c0) := (b4.cell 0).trans rfl; have z4 : w4.frozen? ⟨p, 0, none⟩ = false := b4.frozen 0)
  obtain ⟨r5, kw5⟩ := Rep.app0 (ys := xs) r3 (by simp) own4 ⟨grw4.os, grw4.tape, grw4.output, grw4.size, grw4.block⟩ at4
  clear q4 z4 b4 k0
  have hs5 := size_setCell w4 { block := p, off := 0 } (Value.slice A4 (L.s0.length + xs.length) c4)
  generalize w4.setCell { block := p, off := 0 } (Value.slice A4 (L.s0.length + xs.length) c4) = w5 at r5 kw5 hs5 ⊢
  have k3 : w5.cell? ⟨p, 3, none⟩ = some (.slice A3 L.w1.length c3) := (r5.blk.cell 3).trans rfl
  have o3 := r5.o3.drew
  have x5 := (kw5.src (kw3.src hx hF) hF).drew
  go_wp2_with fail
  go_region_law (refine step_append_any _ rfl (.tmp 77) (.tmp 80) 22 rfl 0 5 i0 (.int .u8 0) 1 1 Try.underlying22 hi0 hz0 hz1 hz2 rfl (by omega) (.slice A3 L.w1.length c3) L.w1.length (bvs L.w1) rfl o3 _ X xs.length c (bvs xs) rfl x5 (bvs_one _) (by unfold maxLen; omega) (by omega) (Nat.zero_le _) ?_; intro v' w6 own6 grw6 at6; obtain ⟨A6, c6, rfl, _⟩ := own_form own6; have b6 := r5.blk.drew.grown grw6 (own_blk_ne o3 r5.blk.drew (by decide)).symm; have q6 : w6.cell? ⟨p, 3, none⟩ = some (.slice A3 L.w1.length c3) := (b6.cell 3).trans rfl; have z6 : w6.frozen? ⟨p, 3, none⟩ = false := b6.frozen 3)
  obtain ⟨r7, kw7⟩ := Rep.app3 (ys := xs) r5 (by simp) own6 ⟨grw6.os, grw6.tape, grw6.output, grw6.size, grw6.block⟩ at6
  clear q6 z6 b6 k3
  have hs7 := size_setCell w6 { block := p, off := 3 } (Value.slice A6 (L.w1.length + xs.length) c6)
  generalize w6.setCell { block := p, off := 3 } (Value.slice A6 (L.w1.length + xs.length) c6) = w7 at r7 kw7 hs7 ⊢
  have k6d : w7.cell? ⟨p, 6, none⟩ = some (.bool L.down) := (r7.blk.cell 6).trans rfl
  rw [HD.out] at k6d
  go_wp2_with fail
  go_ret2
  exact ⟨rfl, send_fin r.lt kw3 kw5 hs5 kw7 hs7 r7 (by simp [LS.put0, HD.out])⟩

set_option maxHeartbeats 1000000 in
set_option maxRecDepth 100000 in
theorem send0_2 {F : Nat → Prop} {p : Nat} {L : LS} {w : World} {v0 v1 v2 v3 : Value} (hok : L.ok) (r : Rep w F p L v0 v1 v2 v3) (X : Option Addr) (c : Nat) (xs : List UInt8)
   (hx : Reads w w.heap.size 1 X xs.length (bvs xs)) (hF : ∀ ad, X = some ad → 0 < xs.length → ¬ F ad.block) (hc : xs.length ≤ c)
   (hd : L.down = false) (hfull : (xs.length : Int) ≤ L.budget - ((L.s0.length : Int) + L.s1.length)) (hcut : 0 ≤ L.cut) (hcut2 : (xs.length : Int) ≤ L.cut - ((L.s0.length : Int) + L.s1.length)) :
    Calls Try.prog 12 #[.pointer (some ⟨p, 0, none⟩), .int .i64 0, .slice X xs.length c] w (SendPost F p (L.put0 xs false) xs.length 0 w) := by
  obtain ⟨A0, c0, rfl, _⟩ := own_form r.o0
  obtain ⟨A1, c1, rfl, _⟩ := own_form r.o1
  obtain ⟨A2, c2, rfl, _⟩ := own_form r.o2
  obtain ⟨A3, c3, rfl, _⟩ := own_form r.o3
  have k6 : w.cell? ⟨p, 6, none⟩ = some (.bool L.down) := (r.blk.cell 6).trans rfl
  rw [hd] at k6
  have HD := Lib.hid hd
  clear hd
  have b0 := hok.b0
  have b1 := hok.b1
  have b2 := hok.tot
  have l0 := hok.c0
  have l1 := hok.c1
  have l2 := hok.q0
  have l3 := hok.q1
  go_enter Try.func12, Try.ntmps12
  go_wp2_with (go_at_call 25; refine (isSide_yes 0 _ (.inl rfl)).mono ?_; rintro e w' ⟨rfl, rfl⟩)
  refine (left_any hok r).mono ?_
  rintro e w1 ⟨rfl, kw1⟩
  have r1 := r.keptN kw1
  have k5 : w1.cell? ⟨p, 5, none⟩ = some (.int .i64 L.cut) := (r1.blk.cell 5).trans rfl
  have k0 : w1.cell? ⟨p, 0, none⟩ = some (.slice A0 L.s0.length c0) := (r1.blk.cell 0).trans rfl
  have k2 : w1.cell? ⟨p, 2, none⟩ = some (.slice A2 L.s1.length c2) := (r1.blk.cell 2).trans rfl
  go_wp2_with fail
  go_quiet ((go_at_call 26; exact Calls.quiet_of (total_walk p _ _ c0 c2 A0 A2 _ k0 k2 (by omega))))
  have kw2 := kw1.drewN nq
  generalize w1.drewN nq = w2 at kw2 ⊢
  clear k5 k0 k2
  have r2 := r.keptN kw2
  go_wp2_with fail
  go_quiet (fail)
  have kq := (Kept.refl NoF w2).drewN nq
  have r3 := r2.keptN kq
  have kw3 := Kept.trans (F := F) (G := NoF) (kw2.mono (fun _ h => h.elim)) kq (fun _ h => h.elim)
  generalize w2.drewN nq = w3 at kw3 r3 kq ⊢
  clear kq
  have k6c : w3.cell? ⟨p, 6, none⟩ = some (.bool L.down) := (r3.blk.cell 6).trans rfl
  clear k6
  have k0 : w3.cell? ⟨p, 0, none⟩ = some (.slice A0 L.s0.length c0) := (r3.blk.cell 0).trans rfl
  have o0 := r3.o0.drew
  have x3 := (kw3.src hx hF).drew
  obtain ⟨i0, hi0, hz0, hz1, hz2⟩ := info_parts info5
  go_wp2_with fail
  go_region_law (refine step_append_any _ rfl (.tmp 66) (.tmp 69) 22 rfl 0 5 i0 (.int .u8 0) 1 1 Try.underlying22 hi0 hz0 hz1 hz2 rfl (by omega) (.slice A0 L.s0.length c0) L.s0.length (bvs L.s0) rfl o0 _ X xs.length c (bvs xs) rfl x3 (bvs_one _) (by unfold maxLen; omega) (by omega) (Nat.zero_le _) ?_; intro v' w4 own4 grw4 at4; obtain ⟨A4, c4, rfl, _⟩ := own_form own4; have b4 := r3.blk.drew.grown grw4 (own_blk_ne o0 r3.blk.drew (by decide)).symm; have q4 : w4.cell? ⟨p, 0, none⟩ = some (.slice A0 L.s0.length c0) := (b4.cell 0).trans rfl; have z4 : w4.frozen? ⟨p, 0, none⟩ = false := b4.frozen 0)
  obtain ⟨r5, kw5⟩ := Rep.app0 (ys := xs) r3 (by simp) own4 ⟨grw4.os, grw4.tape, grw4.output, grw4.size, grw4.block⟩ at4
  clear q4 z4 b4 k0
  have hs5 := size_setCell w4 { block := p, off := 0 } (Value.slice A4 (L.s0.length + xs.length) c4)
  generalize w4.setCell { block := p, off := 0 } (Value.slice A4 (L.s0.length + xs.length) c4) = w5 at r5 kw5 hs5 ⊢
  have k3 : w5.cell? ⟨p, 3, none⟩ = some (.slice A3 L.w1.length c3) := (r5.blk.cell 3).trans rfl
  have o3 := r5.o3.drew
  have x5 := (kw5.src (kw3.src hx hF) hF).drew
  go_wp2_with fail
  go_region_law (refine step_append_any _ rfl (.tmp 77) (.tmp 80) 22 rfl 0 5 i0 (.int .u8 0) 1 1 Try.underlying22 hi0 hz0 hz1 hz2 rfl (by omega) (.slice A3 L.w1.length c3) L.w1.length (bvs L.w1) rfl o3 _ X xs.length c (bvs xs) rfl x5 (bvs_one _) (by unfold maxLen; omega) (by omega) (Nat.zero_le _) ?_; intro v' w6 own6 grw6 at6; obtain ⟨A6, c6, rfl, _⟩ := own_form own6; have b6 := r5.blk.drew.grown grw6 (own_blk_ne o3 r5.blk.drew (by decide)).symm; have q6 : w6.cell? ⟨p, 3, none⟩ = some (.slice A3 L.w1.length c3) := (b6.cell 3).trans rfl; have z6 : w6.frozen? ⟨p, 3, none⟩ = false := b6.frozen 3)
  obtain ⟨r7, kw7⟩ := Rep.app3 (ys := xs) r5 (by simp) own6 ⟨grw6.os, grw6.tape, grw6.output, grw6.size, grw6.block⟩ at6
  clear q6 z6 b6 k3
  have hs7 := size_setCell w6 { block := p, off := 3 } (Value.slice A6 (L.w1.length + xs.length) c6)
  generalize w6.setCell { block := p, off := 3 } (Value.slice A6 (L.w1.length + xs.length) c6) = w7 at r7 kw7 hs7 ⊢
  have k6d : w7.cell? ⟨p, 6, none⟩ = some (.bool L.down) := (r7.blk.cell 6).trans rfl
  rw [HD.out] at k6d
  go_wp2_with fail
  go_ret2
  exact ⟨rfl, send_fin r.lt kw3 kw5 hs5 kw7 hs7 r7 (by simp [LS.put0, HD.out])⟩

set_option maxHeartbeats 1000000 in
set_option maxRecDepth 100000 in
theorem send0_3 {F : Nat → Prop} {p : Nat} {L : LS} {w : World} {v0 v1 v2 v3 : Value} (hok : L.ok) (r : Rep w F p L v0 v1 v2 v3) (X : Option Addr) (c : Nat) (xs : List UInt8)
   (hx : Reads w w.heap.size 1 X xs.length (bvs xs)) (hF : ∀ ad, X = some ad → 0 < xs.length → ¬ F ad.block) (hc : xs.length ≤ c)
   (hd : L.down = false) (hfull : (xs.length : Int) ≤ L.budget - ((L.s0.length : Int) + L.s1.length)) (m : Nat) (hm : (m : Int) = L.cut - ((L.s0.length : Int) + L.s1.length)) (hcut : 0 ≤ L.cut) (hcut2 : L.cut - ((L.s0.length : Int) + L.s1.length) < (xs.length : Int)) :
    Calls Try.prog 12 #[.pointer (some ⟨p, 0, none⟩), .int .i64 0, .slice X xs.length c] w (SendPost F p (L.put0 (xs.take m) true) m 15 w) := by
  obtain ⟨A0, c0, rfl, _⟩ := own_form r.o0
  obtain ⟨A1, c1, rfl, _⟩ := own_form r.o1
  obtain ⟨A2, c2, rfl, _⟩ := own_form r.o2
  obtain ⟨A3, c3, rfl, _⟩ := own_form r.o3
  have k6 : w.cell? ⟨p, 6, none⟩ = some (.bool L.down) := (r.blk.cell 6).trans rfl
  rw [hd] at k6
  have HD := Lib.hid hd
  clear hd
  have b0 := hok.b0
  have b1 := hok.b1
  have b2 := hok.tot
  have l0 := hok.c0
  have l1 := hok.c1
  have l2 := hok.q0
  have l3 := hok.q1
  have hm0 : m ≤ xs.length := by omega
  have hmc : m ≤ c := by omega
  have HM := Lib.hid hm
  clear hm
  go_enter Try.func12, Try.ntmps12
  go_wp2_with (go_at_call 25; refine (isSide_yes 0 _ (.inl rfl)).mono ?_; rintro e w' ⟨rfl, rfl⟩)
  refine (left_any hok r).mono ?_
  rintro e w1 ⟨rfl, kw1⟩
  have r1 := r.keptN kw1
  have k5 : w1.cell? ⟨p, 5, none⟩ = some (.int .i64 L.cut) := (r1.blk.cell 5).trans rfl
  have k0 : w1.cell? ⟨p, 0, none⟩ = some (.slice A0 L.s0.length c0) := (r1.blk.cell 0).trans rfl
  have k2 : w1.cell? ⟨p, 2, none⟩ = some (.slice A2 L.s1.length c2) := (r1.blk.cell 2).trans rfl
  go_wp2_with fail
  go_quiet ((go_at_call 26; exact Calls.quiet_of (total_walk p _ _ c0 c2 A0 A2 _ k0 k2 (by omega))))
  have kw2 := kw1.drewN nq
  generalize w1.drewN nq = w2 at kw2 ⊢
  clear k5 k0 k2
  have r2 := r.keptN kw2
  have k5 : w2.cell? ⟨p, 5, none⟩ = some (.int .i64 L.cut) := (r2.blk.cell 5).trans rfl
  have k0 : w2.cell? ⟨p, 0, none⟩ = some (.slice A0 L.s0.length c0) := (r2.blk.cell 0).trans rfl
  have k2 : w2.cell? ⟨p, 2, none⟩ = some (.slice A2 L.s1.length c2) := (r2.blk.cell 2).trans rfl
  go_wp2_with fail
  go_quiet ((go_at_call 26; exact Calls.quiet_of (total_walk p _ _ c0 c2 A0 A2 _ k0 k2 (by omega))))
  have kw2b := kw2.drewN nq
  generalize w2.drewN nq = w2b at kw2b ⊢
  clear k5 k0 k2
  have r2b := r.keptN kw2b
  have k6b : w2b.cell? ⟨p, 6, none⟩ = some (.bool L.down) := (r2b.blk.cell 6).trans rfl
  have z6b : w2b.frozen? ⟨p, 6, none⟩ = false := r2b.blk.frozen 6
  go_wp2_with fail
  obtain ⟨r2c, kw2c⟩ := r2b.setDown true
  have kw2d := (kw2b.mono (G := F) (fun _ h => h.elim)).trans kw2c (fun _ h => .inl h)
  clear k6b z6b k6
  generalize w2b.setCell { block := p, off := 6 } (Value.bool true) = w2d at r2c kw2c kw2d ⊢
  rw [← HM.out]
  go_quiet (fail)
  have kq := (Kept.refl NoF w2d).drewN nq
  have r3 := r2c.keptN kq
  have kw3 := Kept.trans (F := F) (G := NoF) kw2d kq (fun _ h => h.elim)
  generalize w2d.drewN nq = w3 at kw3 r3 kq ⊢
  clear kq
  have k0 : w3.cell? ⟨p, 0, none⟩ = some (.slice A0 L.s0.length c0) := (r3.blk.cell 0).trans rfl
  have o0 := r3.o0.drew
  have x3 := bvs_take m xs ▸ ((kw3.src hx hF).take_ m hm0).drew
  obtain ⟨i0, hi0, hz0, hz1, hz2⟩ := info_parts info5
  go_wp2_with fail
  go_region_law (refine step_append_any _ rfl (.tmp 66) (.tmp 69) 22 rfl 0 5 i0 (.int .u8 0) 1 1 Try.underlying22 hi0 hz0 hz1 hz2 rfl (by omega) (.slice A0 L.s0.length c0) L.s0.length (bvs L.s0) rfl o0 _ X m c (bvs (xs.take m)) rfl x3 (bvs_one _) (by unfold maxLen; omega) (by omega) (Nat.zero_le _) ?_; intro v' w4 own4 grw4 at4; obtain ⟨A4, c4, rfl, _⟩ := own_form own4; have b4 := r3.blk.drew.grown grw4 (own_blk_ne o0 r3.blk.drew (by decide)).symm; have q4 : w4.cell? ⟨p, 0, none⟩ = some (.slice A0 L.s0.length c0) := (b4.cell 0).trans rfl; have z4 : w4.frozen? ⟨p, 0, none⟩ = false := b4.frozen 0)
  obtain ⟨r5, kw5⟩ := Rep.app0 (ys := (xs.take m)) r3 (by simp; omega) own4 ⟨grw4.os, grw4.tape, grw4.output, grw4.size, grw4.block⟩ at4
  clear q4 z4 b4 k0
  have hs5 := size_setCell w4 { block := p, off := 0 } (Value.slice A4 (L.s0.length + m) c4)
  generalize w4.setCell { block := p, off := 0 } (Value.slice A4 (L.s0.length + m) c4) = w5 at r5 kw5 hs5 ⊢
  have k3 : w5.cell? ⟨p, 3, none⟩ = some (.slice A3 L.w1.length c3) := (r5.blk.cell 3).trans rfl
  have o3 := r5.o3.drew
  have x5 := bvs_take m xs ▸ ((kw5.src (kw3.src hx hF) hF).take_ m hm0).drew
  go_wp2_with fail
  go_region_law (refine step_append_any _ rfl (.tmp 77) (.tmp 80) 22 rfl 0 5 i0 (.int .u8 0) 1 1 Try.underlying22 hi0 hz0 hz1 hz2 rfl (by omega) (.slice A3 L.w1.length c3) L.w1.length (bvs L.w1) rfl o3 _ X m c (bvs (xs.take m)) rfl x5 (bvs_one _) (by unfold maxLen; omega) (by omega) (Nat.zero_le _) ?_; intro v' w6 own6 grw6 at6; obtain ⟨A6, c6, rfl, _⟩ := own_form own6; have b6 := r5.blk.drew.grown grw6 (own_blk_ne o3 r5.blk.drew (by decide)).symm; have q6 : w6.cell? ⟨p, 3, none⟩ = some (.slice A3 L.w1.length c3) := (b6.cell 3).trans rfl; have z6 : w6.frozen? ⟨p, 3, none⟩ = false := b6.frozen 3)
  obtain ⟨r7, kw7⟩ := Rep.app3 (ys := (xs.take m)) r5 (by simp; omega) own6 ⟨grw6.os, grw6.tape, grw6.output, grw6.size, grw6.block⟩ at6
  clear q6 z6 b6 k3
  have hs7 := size_setCell w6 { block := p, off := 3 } (Value.slice A6 (L.w1.length + m) c6)
  generalize w6.setCell { block := p, off := 3 } (Value.slice A6 (L.w1.length + m) c6) = w7 at r7 kw7 hs7 ⊢
  have k6d : w7.cell? ⟨p, 6, none⟩ = some (.bool true) := (r7.blk.cell 6).trans rfl
  go_wp2_with fail
  go_ret2
  exact ⟨rfl, send_fin r.lt kw3 kw5 hs5 kw7 hs7 r7 (by simp [LS.put0])⟩

end Go.Proofs.Ytchchgdkejolaaa
