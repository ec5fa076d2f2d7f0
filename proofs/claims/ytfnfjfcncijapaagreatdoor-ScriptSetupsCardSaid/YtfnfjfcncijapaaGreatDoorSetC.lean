/- The functions that carry declarations out (printed by genClo.py). -/
import Derived.Test.YtfnfjfcncijapaaGreatDoorSetR
namespace Go.Proofs.YtfnfjfcncijapaaGreatDoor
open Go.RowKit Go.Shelf
attribute [local go_sem] Oper.semAt_some

theorem StrsAt.cell_ {w : World} {b o : Nat} {l : List (List UInt8)} {k : Nat} (h : StrsAt w (some ⟨b, o, none⟩) l) (hk : k < l.length) : w.cell? ⟨b, o + k, none⟩ = some (.string (ba l[k])) := by
  obtain ⟨b', o', e, _, hc⟩ := h.at_ hk
  cases e
  exact hc
theorem snoc_of {l : List VaultD} (h : l.isEmpty = false) : ∃ l' v, l = l' ++ [v] := by
  rcases List.eq_nil_or_concat l with rfl | ⟨a, b, e⟩
  · cases h
  · exact ⟨a, b, by rw [e, List.concat_eq_append]⟩
section
variable {w : World} {B : Nat} {d : SetD} {nm qs vs : Value} {vl : List (VaultD × Option Addr × Nat)} {l : List VaultD} {v : VaultD}
theorem vrow_form {xb : Nat} (h : RowsAt w B d nm qs vs vl) (hd : d.vaults = l ++ [v]) (hx : xb < B) : ∃ g cap, vs = .slice (some ⟨g, 0, none⟩) (l.length + 1) cap ∧ B ≤ g ∧ g ≠ xb := by
  have hlen : d.vaults.length = l.length + 1 := by rw [hd]; simp
  have h3 := h.n3
  rw [hlen] at h3
  obtain ⟨g, cap, rfl⟩ := ownsRow_succ h3
  have := (h3.lt g rfl).1
  exact ⟨g, cap, rfl, this, by omega⟩
theorem vrow_small (h : RowsAt w B d nm qs vs vl) (hd : d.vaults = l ++ [v]) : l.length + 1 ≤ 9223372036854775807 := by
  have hlen : d.vaults.length = l.length + 1 := by rw [hd]; simp
  have h3 := h.n3
  rw [hlen] at h3
  rcases h3.2 with ⟨_, h0⟩ | ⟨g, cap, cur, _, _, _, h1, h2, _⟩
  · omega
  · unfold maxLen at h2; omega
theorem wrap_len {n : Nat} (h : n + 1 ≤ 9223372036854775807) : IntKind.i64.wrap (n : Int) = (n : Int) := IntWalk.i64_in _ (by omega)
theorem vrow_cell {g n cap : Nat} (h : RowsAt w B d nm qs (.slice (some ⟨g, 0, none⟩) n cap) vl) (hd : d.vaults = l ++ [v]) (o : Nat) (ho : o < 15) : ∃ u, w.cell? ⟨g, l.length * 15 + o, none⟩ = some u := by
  have hlen : d.vaults.length = l.length + 1 := by rw [hd]; simp
  have h3 := h.n3
  have hn : n = l.length + 1 := by
    rcases h3.2 with ⟨h0, _⟩ | ⟨g', cap', cur, h0, _⟩
    · cases h0
    · injection h0 with _ h1 _; omega
  subst hn
  rw [hlen] at h3
  rw [h3.cellAt (l.length * 15 + o) (by omega)]
  have hl := h3.1
  exact ⟨_, List.getElem?_eq_getElem (by omega)⟩
theorem vrow_frozen {g n cap : Nat} (h : RowsAt w B d nm qs (.slice (some ⟨g, 0, none⟩) n cap) vl) (hd : d.vaults = l ++ [v]) (i : Nat) : w.frozen? ⟨g, i, none⟩ = false := by
  have hlen : d.vaults.length = l.length + 1 := by rw [hd]; simp
  have h3 := h.n3
  have hn : n = l.length + 1 := by
    rcases h3.2 with ⟨h0, _⟩ | ⟨g', cap', cur, h0, _⟩
    · cases h0
    · injection h0 with _ h1 _; omega
  subst hn
  rw [hlen] at h3
  exact h3.frozenAt i
end

set_option maxHeartbeats 4000000 in
set_option maxRecDepth 100000 in
theorem clo_quorum {w : World} {xb B : Nat} {d : SetD} (h : SetAt w 60 xb B d) (A : Option Addr) (cA : Nat) (a0 : List UInt8) (hA : StrsAt w A [a0]) (hAB : ∀ ad, A = some ad → ad.block < B ∧ ad.block ≠ xb) (hs : ∀ a ∈ [a0], a.length ≤ 65536) (hn0 : isNumB a0 = true) :
    Calls Tryz.prog 77 #[.pointer (some ⟨xb, 0, none⟩), .slice A 1 cA] w fun e w' => (∃ v, e = .returned v) ∧ SetAt w' 60 xb B (decl d [113, 117, 111, 114, 117, 109] [a0]) ∧ Kept (fun k => k = xb ∨ B ≤ k) w w' := by
  obtain ⟨hxB, nm, qs, vs, vl, bx, hr⟩ := h
  obtain ⟨ab, ao, rfl, hab, _⟩ := hA.at_ (k := 0) (by simp)
  obtain ⟨haB, hax⟩ := hAB _ rfl
  simp only at haB hax
  have cx0 : w.cell? ⟨ab, ao, none⟩ = some (.string (ba a0)) := hA.cell_ (k := 0) (by simp)
  have CN0 := Lib.hid (fun W : World => (show Calls Tryz.prog 46 #[.string (ba a0)] W fun e W' => e = .returned (.int .i64 (nv a0)) ∧ Kept NoF W W' from by
    have := number46_any (ba a0) W (by have := hs a0 (by simp); rw [ba_size]; omega) (by rw [ba_toList]; exact hn0)
    rw [ba_toList] at this
    exact this.mono (fun e W' h => ⟨h.1, Kept.of_below h.2⟩)))
  have HDC := Lib.hid (decl_quorum d a0)
  clear hAB hs hn0
  go_enter Tryz.func77, Tryz.ntmps77
  go_wp2_with fail
  refine (CN0.out w).mono ?_
  rintro e w1 ⟨rfl, k1⟩
  have bx1 := k1.blk bx (fun h => h)
  have hr1 := hr.same k1
  have z1 : ∀ i, w1.frozen? ⟨xb, i, none⟩ = false := fun i => bx1.frozen i
  have f31 := (bx1.cell 3).trans (show _ = some (.int .i64 d.quorum) from rfl)
  clear CN0
  go_wp2_with fail
  go_end0
  have kk := (Kept.setCell (p := ⟨xb, 3, none⟩) (Kept.refl (fun b => b = xb) w1) (.inl rfl) (.int .i64 (nv a0)))
  refine ⟨⟨_, rfl⟩, ⟨hxB, nm, qs, vs, vl, ?_, ?_⟩, ?_⟩
  · rw [HDC.out]; exact (Blk.set_ bx1 3 (.int .i64 (nv a0)))
  · rw [HDC.out]
    have hz := hr1.kept kk (fun b e => by omega)
    exact ⟨hz.n0, hz.n1, hz.n2, hz.n3, hz.n4⟩
  · exact (k1.mono (fun _ h => h.elim)).trans kk (fun x e => .inl (.inl e))

set_option maxHeartbeats 4000000 in
set_option maxRecDepth 100000 in
theorem clo_seed {w : World} {xb B : Nat} {d : SetD} (h : SetAt w 60 xb B d) (A : Option Addr) (cA : Nat) (a0 : List UInt8) (hA : StrsAt w A [a0]) (hAB : ∀ ad, A = some ad → ad.block < B ∧ ad.block ≠ xb) (_hs : ∀ a ∈ [a0], a.length ≤ 65536) :
    Calls Tryz.prog 78 #[.pointer (some ⟨xb, 0, none⟩), .slice A 1 cA] w fun e w' => (∃ v, e = .returned v) ∧ SetAt w' 60 xb B (decl d [115, 101, 101, 100] [a0]) ∧ Kept (fun k => k = xb ∨ B ≤ k) w w' := by
  obtain ⟨hxB, nm, qs, vs, vl, bx, hr⟩ := h
  obtain ⟨ab, ao, rfl, hab, _⟩ := hA.at_ (k := 0) (by simp)
  obtain ⟨haB, hax⟩ := hAB _ rfl
  simp only at haB hax
  have cx0 : w.cell? ⟨ab, ao, none⟩ = some (.string (ba a0)) := hA.cell_ (k := 0) (by simp)
  have HDC := Lib.hid (decl_seed d a0)
  clear hAB
  go_enter Tryz.func78, Tryz.ntmps78
  have k1 := Kept.refl NoF w
  have bx1 := bx
  have hr1 := hr
  have z1 : ∀ i, w.frozen? ⟨xb, i, none⟩ = false := fun i => bx1.frozen i
  have f41 := (bx1.cell 4).trans (show _ = some (.string (ba d.seed)) from rfl)
  go_wp2_with fail
  go_end0
  have kk := (Kept.setCell (p := ⟨xb, 4, none⟩) (Kept.refl (fun b => b = xb) w) (.inl rfl) (.string (ba a0)))
  refine ⟨⟨_, rfl⟩, ⟨hxB, nm, qs, vs, vl, ?_, ?_⟩, ?_⟩
  · rw [HDC.out]; exact (Blk.set_ bx1 4 (.string (ba a0)))
  · rw [HDC.out]
    have hz := hr1.kept kk (fun b e => by omega)
    exact ⟨hz.n0, hz.n1, hz.n2, hz.n3, hz.n4⟩
  · exact (k1.mono (fun _ h => h.elim)).trans kk (fun x e => .inl (.inl e))

set_option maxHeartbeats 4000000 in
set_option maxRecDepth 100000 in
theorem clo_scheme {w : World} {xb B : Nat} {d : SetD} (h : SetAt w 60 xb B d) (A : Option Addr) (cA : Nat) (a0 a1 : List UInt8) (hA : StrsAt w A [a0, a1]) (hAB : ∀ ad, A = some ad → ad.block < B ∧ ad.block ≠ xb) (hs : ∀ a ∈ [a0, a1], a.length ≤ 65536) (hn0 : isNumB a0 = true) (hn1 : isNumB a1 = true) :
    Calls Tryz.prog 79 #[.pointer (some ⟨xb, 0, none⟩), .slice A 2 cA] w fun e w' => (∃ v, e = .returned v) ∧ SetAt w' 60 xb B (decl d [115, 99, 104, 101, 109, 101] [a0, a1]) ∧ Kept (fun k => k = xb ∨ B ≤ k) w w' := by
  obtain ⟨hxB, nm, qs, vs, vl, bx, hr⟩ := h
  obtain ⟨ab, ao, rfl, hab, _⟩ := hA.at_ (k := 0) (by simp)
  obtain ⟨haB, hax⟩ := hAB _ rfl
  simp only at haB hax
  have cx0 : w.cell? ⟨ab, ao, none⟩ = some (.string (ba a0)) := hA.cell_ (k := 0) (by simp)
  have cx1 : w.cell? ⟨ab, ao + 1, none⟩ = some (.string (ba a1)) := hA.cell_ (k := 1) (by simp)
  have CN0 := Lib.hid (fun W : World => (show Calls Tryz.prog 46 #[.string (ba a0)] W fun e W' => e = .returned (.int .i64 (nv a0)) ∧ Kept NoF W W' from by
    have := number46_any (ba a0) W (by have := hs a0 (by simp); rw [ba_size]; omega) (by rw [ba_toList]; exact hn0)
    rw [ba_toList] at this
    exact this.mono (fun e W' h => ⟨h.1, Kept.of_below h.2⟩)))
  have CN1 := Lib.hid (fun W : World => (show Calls Tryz.prog 46 #[.string (ba a1)] W fun e W' => e = .returned (.int .i64 (nv a1)) ∧ Kept NoF W W' from by
    have := number46_any (ba a1) W (by have := hs a1 (by simp); rw [ba_size]; omega) (by rw [ba_toList]; exact hn1)
    rw [ba_toList] at this
    exact this.mono (fun e W' h => ⟨h.1, Kept.of_below h.2⟩)))
  have HDC := Lib.hid (decl_scheme d a0 a1)
  clear hAB hs hn0 hn1
  go_enter Tryz.func79, Tryz.ntmps79
  have SA := Lib.hid (fun W (k : Kept (fun b => b = xb) w W) => (⟨k.cell cx0 hax, k.cell cx1 hax⟩ : (fun (w' : World) => w'.cell? ⟨ab, ao, none⟩ = some (.string (ba a0)) ∧ w'.cell? ⟨ab, ao + 1, none⟩ = some (.string (ba a1))) W))
  have k0 := (Kept.refl NoF w).drew
  have bx0 := k0.blk bx (fun h => h)
  have hr0 := hr.same k0
  have kx0 := k0.mono (G := fun b => b = xb) (fun _ h => h.elim)
  refine wp_region_noPanic ?_
  refine wp_region_held_drew (S := (fun (w' : World) => w'.cell? ⟨ab, ao, none⟩ = some (.string (ba a0)) ∧ w'.cell? ⟨ab, ao + 1, none⟩ = some (.string (ba a1)))) (by kernel_rfl) ?_ (fun hHeld => ?_)
  · exact SA.out _ kx0
  refine wpAnyH_take (i := 0) (v := ?_) rfl (by kernel_rfl) (by kernel_rfl) (by kernel_rfl) (fun _ _ _ h => h) (Or.inl ⟨by rfl, ?_⟩) hHeld ?_
  rotate_left
  · (intro w hSw; (try dsimp only at hSw); go_simp; try (with_reducible rfl))
  simp only [Act.put, List.getElem_toArray, List.getElem_cons_zero, List.setIfInBounds_toArray, List.set_cons_zero, List.set_cons_succ]
  refine wpAnyH_take (i := 1) (v := ?_) rfl (by kernel_rfl) (by kernel_rfl) (by kernel_rfl) (fun _ _ _ h => h) (Or.inl ⟨by rfl, ?_⟩) hHeld ?_
  rotate_left
  · (intro w hSw; (try dsimp only at hSw); go_simp; try (with_reducible rfl))
  simp only [Act.put, List.getElem_toArray, List.getElem_cons_zero, List.getElem_cons_succ, List.setIfInBounds_toArray, List.set_cons_zero, List.set_cons_succ]
  refine wpAnyH_take (i := 2) (v := ?_) rfl (by kernel_rfl) (by kernel_rfl) (by kernel_rfl) (fun _ _ _ h => h) (Or.inl ⟨by rfl, ?_⟩) hHeld ?_
  rotate_left
  · (intro w hSw; (try dsimp only at hSw); go_simp; try (with_reducible rfl))
  simp only [Act.put, List.getElem_toArray, List.getElem_cons_zero, List.getElem_cons_succ, List.setIfInBounds_toArray, List.set_cons_zero, List.set_cons_succ]
  refine wpAnyH_take (i := 3) (v := ?_) rfl (by kernel_rfl) (by kernel_rfl) (by kernel_rfl) (fun _ _ _ h => h) (Or.inl ⟨by rfl, ?_⟩) hHeld ?_
  rotate_left
  · (intro w hSw; (try dsimp only at hSw); go_simp; try (with_reducible rfl))
  simp only [Act.put, List.getElem_toArray, List.getElem_cons_zero, List.getElem_cons_succ, List.setIfInBounds_toArray, List.set_cons_zero, List.set_cons_succ]
  refine wpAnyH_take (i := 5) (v := ?_) rfl (by kernel_rfl) (by kernel_rfl) (by kernel_rfl) (fun _ _ _ h => h) (Or.inl ⟨by rfl, ?_⟩) hHeld ?_
  rotate_left
  · (intro w hSw; (try dsimp only at hSw); go_simp; try (with_reducible rfl))
  simp only [Act.put, List.getElem_toArray, List.getElem_cons_zero, List.getElem_cons_succ, List.setIfInBounds_toArray, List.set_cons_zero, List.set_cons_succ]
  refine wpAnyH_take (i := 6) (v := ?_) rfl (by kernel_rfl) (by kernel_rfl) (by kernel_rfl) (fun _ _ _ h => h) (Or.inl ⟨by rfl, ?_⟩) hHeld ?_
  rotate_left
  · (intro w hSw; (try dsimp only at hSw); go_simp; try (with_reducible rfl))
  simp only [Act.put, List.getElem_toArray, List.getElem_cons_zero, List.getElem_cons_succ, List.setIfInBounds_toArray, List.set_cons_zero, List.set_cons_succ]
  refine wpAnyH_take (i := 7) (v := ?_) rfl (by kernel_rfl) (by kernel_rfl) (by kernel_rfl) (fun _ _ _ h => h) (Or.inl ⟨by rfl, ?_⟩) hHeld ?_
  rotate_left
  · (intro w hSw; (try dsimp only at hSw); go_simp; try (with_reducible rfl))
  simp only [Act.put, List.getElem_toArray, List.getElem_cons_zero, List.getElem_cons_succ, List.setIfInBounds_toArray, List.set_cons_zero, List.set_cons_succ]
  refine wpAnyH_ready (rs := [4]) (by kernel_rfl) (by simp) ?_
  refine AllReadyH.cons rfl (fun K hK => ?_) AllReadyH.nil
  go_simp
  refine (CN0.out _).mono ?_
  rintro e w1 ⟨rfl, kc1⟩
  have k1 := k0.trans kc1 (fun _ h => .inl h)
  have bx1 := kc1.blk bx0 (fun h => h)
  have hr1 := hr0.same kc1
  have kx1 := k1.mono (G := fun b => b = xb) (fun _ h => h.elim)
  go_wp2_with fail
  refine hK.out _ _ (SA.out _ kx1) (fun hHeld => ?_)
  clear hK K
  try simp only [Act.put, List.getElem_toArray, List.getElem_cons_zero, List.getElem_cons_succ, List.setIfInBounds_toArray, List.set_cons_zero, List.set_cons_succ]
  refine wpAnyH_ready (rs := [8]) (by kernel_rfl) (by simp) ?_
  refine AllReadyH.cons rfl (fun K hK => ?_) AllReadyH.nil
  go_simp
  refine (CN1.out _).mono ?_
  rintro e w2 ⟨rfl, kc2⟩
  have k2 := k1.trans kc2 (fun _ h => .inl h)
  have bx2 := kc2.blk bx1 (fun h => h)
  have hr2 := hr1.same kc2
  have kx2 := k2.mono (G := fun b => b = xb) (fun _ h => h.elim)
  have z2 : ∀ i, w2.frozen? ⟨xb, i, none⟩ = false := fun i => bx2.frozen i
  have f52 := (bx2.cell 5).trans (show _ = some (.int .i64 d.bits) from rfl)
  have f62 := (bx2.cell 6).trans (show _ = some (.int .i64 d.height) from rfl)
  go_wp2_with fail
  refine hK.out _ _ (SA.out _ kx2) (fun hHeld => ?_)
  clear hK K
  try simp only [Act.put, List.getElem_toArray, List.getElem_cons_zero, List.getElem_cons_succ, List.setIfInBounds_toArray, List.set_cons_zero, List.set_cons_succ]
  refine wpAnyH_take (i := 9) (v := ?_) rfl (by kernel_rfl) (by kernel_rfl) (by kernel_rfl) (fun _ _ _ h => h) (Or.inl ⟨by rfl, ?_⟩) hHeld ?_
  rotate_left
  · (intro w hSw; (try dsimp only at hSw); go_simp; try (with_reducible rfl))
  simp only [Act.put, List.getElem_toArray, List.getElem_cons_zero, List.getElem_cons_succ, List.setIfInBounds_toArray, List.set_cons_zero, List.set_cons_succ]
  refine wpAnyH_take (i := 10) (v := ?_) rfl (by kernel_rfl) (by kernel_rfl) (by kernel_rfl) (fun _ _ _ h => h) (Or.inl ⟨by rfl, ?_⟩) hHeld ?_
  rotate_left
  · (intro w hSw; (try dsimp only at hSw); go_simp; try (with_reducible rfl))
  simp only [Act.put, List.getElem_toArray, List.getElem_cons_zero, List.getElem_cons_succ, List.setIfInBounds_toArray, List.set_cons_zero, List.set_cons_succ]
  refine wpAnyH_take (i := 11) (v := ?_) rfl (by kernel_rfl) (by kernel_rfl) (by kernel_rfl) (fun _ _ _ h => h) (Or.inl ⟨by rfl, ?_⟩) hHeld ?_
  rotate_left
  · (intro w hSw; (try dsimp only at hSw); go_simp; try (with_reducible rfl))
  simp only [Act.put, List.getElem_toArray, List.getElem_cons_zero, List.getElem_cons_succ, List.setIfInBounds_toArray, List.set_cons_zero, List.set_cons_succ]
  refine wpAnyH_ready (rs := [12]) (by kernel_rfl) (by simp) ?_
  refine AllReadyH.cons rfl (fun K hK => ?_) AllReadyH.nil
  go_simp
  refine hK.out _ _ (SA.out _ (Kept.setCell (p := ⟨xb, 6, none⟩) (Kept.setCell (p := ⟨xb, 5, none⟩) kx2 (.inl rfl) (.int .i64 (nv a0))) (.inl rfl) (.int .i64 (nv a1)))) (fun hHeld => ?_)
  clear hK K
  try simp only [Act.put, List.getElem_toArray, List.getElem_cons_zero, List.getElem_cons_succ, List.setIfInBounds_toArray, List.set_cons_zero, List.set_cons_succ]
  refine wpAnyH_done (by kernel_rfl) ?_ _
  refine NoPanic.normal ?_
  go_wp2_with fail
  go_end0
  have kk := (Kept.setCell (p := ⟨xb, 6, none⟩) (Kept.setCell (p := ⟨xb, 5, none⟩) (Kept.refl (fun b => b = xb) w2) (.inl rfl) (.int .i64 (nv a0))) (.inl rfl) (.int .i64 (nv a1)))
  refine ⟨⟨_, rfl⟩, ⟨hxB, nm, qs, vs, vl, ?_, ?_⟩, ?_⟩
  · rw [HDC.out]; exact (Blk.set_ (Blk.set_ bx2 5 (.int .i64 (nv a0))) 6 (.int .i64 (nv a1)))
  · rw [HDC.out]
    have hz := hr2.kept kk (fun b e => by omega)
    exact ⟨hz.n0, hz.n1, hz.n2, hz.n3, hz.n4⟩
  · exact (k2.mono (fun _ h => h.elim)).trans kk (fun x e => .inl (.inl e))

set_option maxHeartbeats 4000000 in
set_option maxRecDepth 100000 in
theorem clo_disk {w : World} {xb B : Nat} {d : SetD} (h : SetAt w 60 xb B d) (A : Option Addr) (cA : Nat) (a0 a1 : List UInt8) (hA : StrsAt w A [a0, a1]) (hAB : ∀ ad, A = some ad → ad.block < B ∧ ad.block ≠ xb) (hs : ∀ a ∈ [a0, a1], a.length ≤ 65536) (hn0 : isNumB a0 = true) (hn1 : isNumB a1 = true) :
    Calls Tryz.prog 80 #[.pointer (some ⟨xb, 0, none⟩), .slice A 2 cA] w fun e w' => (∃ v, e = .returned v) ∧ SetAt w' 60 xb B (decl d [100, 105, 115, 107] [a0, a1]) ∧ Kept (fun k => k = xb ∨ B ≤ k) w w' := by
  obtain ⟨hxB, nm, qs, vs, vl, bx, hr⟩ := h
  obtain ⟨ab, ao, rfl, hab, _⟩ := hA.at_ (k := 0) (by simp)
  obtain ⟨haB, hax⟩ := hAB _ rfl
  simp only at haB hax
  have cx0 : w.cell? ⟨ab, ao, none⟩ = some (.string (ba a0)) := hA.cell_ (k := 0) (by simp)
  have cx1 : w.cell? ⟨ab, ao + 1, none⟩ = some (.string (ba a1)) := hA.cell_ (k := 1) (by simp)
  have CN0 := Lib.hid (fun W : World => (show Calls Tryz.prog 46 #[.string (ba a0)] W fun e W' => e = .returned (.int .i64 (nv a0)) ∧ Kept NoF W W' from by
    have := number46_any (ba a0) W (by have := hs a0 (by simp); rw [ba_size]; omega) (by rw [ba_toList]; exact hn0)
    rw [ba_toList] at this
    exact this.mono (fun e W' h => ⟨h.1, Kept.of_below h.2⟩)))
  have CN1 := Lib.hid (fun W : World => (show Calls Tryz.prog 46 #[.string (ba a1)] W fun e W' => e = .returned (.int .i64 (nv a1)) ∧ Kept NoF W W' from by
    have := number46_any (ba a1) W (by have := hs a1 (by simp); rw [ba_size]; omega) (by rw [ba_toList]; exact hn1)
    rw [ba_toList] at this
    exact this.mono (fun e W' h => ⟨h.1, Kept.of_below h.2⟩)))
  have HDC := Lib.hid (decl_disk d a0 a1)
  clear hAB hs hn0 hn1
  go_enter Tryz.func80, Tryz.ntmps80
  have SA := Lib.hid (fun W (k : Kept (fun b => b = xb) w W) => (⟨k.cell cx0 hax, k.cell cx1 hax⟩ : (fun (w' : World) => w'.cell? ⟨ab, ao, none⟩ = some (.string (ba a0)) ∧ w'.cell? ⟨ab, ao + 1, none⟩ = some (.string (ba a1))) W))
  have k0 := (Kept.refl NoF w).drew
  have bx0 := k0.blk bx (fun h => h)
  have hr0 := hr.same k0
  have kx0 := k0.mono (G := fun b => b = xb) (fun _ h => h.elim)
  refine wp_region_noPanic ?_
  refine wp_region_held_drew (S := (fun (w' : World) => w'.cell? ⟨ab, ao, none⟩ = some (.string (ba a0)) ∧ w'.cell? ⟨ab, ao + 1, none⟩ = some (.string (ba a1)))) (by kernel_rfl) ?_ (fun hHeld => ?_)
  · exact SA.out _ kx0
  refine wpAnyH_take (i := 0) (v := ?_) rfl (by kernel_rfl) (by kernel_rfl) (by kernel_rfl) (fun _ _ _ h => h) (Or.inl ⟨by rfl, ?_⟩) hHeld ?_
  rotate_left
  · (intro w hSw; (try dsimp only at hSw); go_simp; try (with_reducible rfl))
  simp only [Act.put, List.getElem_toArray, List.getElem_cons_zero, List.setIfInBounds_toArray, List.set_cons_zero, List.set_cons_succ]
  refine wpAnyH_take (i := 1) (v := ?_) rfl (by kernel_rfl) (by kernel_rfl) (by kernel_rfl) (fun _ _ _ h => h) (Or.inl ⟨by rfl, ?_⟩) hHeld ?_
  rotate_left
  · (intro w hSw; (try dsimp only at hSw); go_simp; try (with_reducible rfl))
  simp only [Act.put, List.getElem_toArray, List.getElem_cons_zero, List.getElem_cons_succ, List.setIfInBounds_toArray, List.set_cons_zero, List.set_cons_succ]
  refine wpAnyH_take (i := 2) (v := ?_) rfl (by kernel_rfl) (by kernel_rfl) (by kernel_rfl) (fun _ _ _ h => h) (Or.inl ⟨by rfl, ?_⟩) hHeld ?_
  rotate_left
  · (intro w hSw; (try dsimp only at hSw); go_simp; try (with_reducible rfl))
  simp only [Act.put, List.getElem_toArray, List.getElem_cons_zero, List.getElem_cons_succ, List.setIfInBounds_toArray, List.set_cons_zero, List.set_cons_succ]
  refine wpAnyH_take (i := 3) (v := ?_) rfl (by kernel_rfl) (by kernel_rfl) (by kernel_rfl) (fun _ _ _ h => h) (Or.inl ⟨by rfl, ?_⟩) hHeld ?_
  rotate_left
  · (intro w hSw; (try dsimp only at hSw); go_simp; try (with_reducible rfl))
  simp only [Act.put, List.getElem_toArray, List.getElem_cons_zero, List.getElem_cons_succ, List.setIfInBounds_toArray, List.set_cons_zero, List.set_cons_succ]
  refine wpAnyH_take (i := 4) (v := ?_) rfl (by kernel_rfl) (by kernel_rfl) (by kernel_rfl) (fun _ _ _ h => h) (Or.inl ⟨by rfl, ?_⟩) hHeld ?_
  rotate_left
  · (intro w hSw; (try dsimp only at hSw); go_simp; try (with_reducible rfl))
  simp only [Act.put, List.getElem_toArray, List.getElem_cons_zero, List.getElem_cons_succ, List.setIfInBounds_toArray, List.set_cons_zero, List.set_cons_succ]
  refine wpAnyH_take (i := 6) (v := ?_) rfl (by kernel_rfl) (by kernel_rfl) (by kernel_rfl) (fun _ _ _ h => h) (Or.inl ⟨by rfl, ?_⟩) hHeld ?_
  rotate_left
  · (intro w hSw; (try dsimp only at hSw); go_simp; try (with_reducible rfl))
  simp only [Act.put, List.getElem_toArray, List.getElem_cons_zero, List.getElem_cons_succ, List.setIfInBounds_toArray, List.set_cons_zero, List.set_cons_succ]
  refine wpAnyH_take (i := 7) (v := ?_) rfl (by kernel_rfl) (by kernel_rfl) (by kernel_rfl) (fun _ _ _ h => h) (Or.inl ⟨by rfl, ?_⟩) hHeld ?_
  rotate_left
  · (intro w hSw; (try dsimp only at hSw); go_simp; try (with_reducible rfl))
  simp only [Act.put, List.getElem_toArray, List.getElem_cons_zero, List.getElem_cons_succ, List.setIfInBounds_toArray, List.set_cons_zero, List.set_cons_succ]
  refine wpAnyH_take (i := 8) (v := ?_) rfl (by kernel_rfl) (by kernel_rfl) (by kernel_rfl) (fun _ _ _ h => h) (Or.inl ⟨by rfl, ?_⟩) hHeld ?_
  rotate_left
  · (intro w hSw; (try dsimp only at hSw); go_simp; try (with_reducible rfl))
  simp only [Act.put, List.getElem_toArray, List.getElem_cons_zero, List.getElem_cons_succ, List.setIfInBounds_toArray, List.set_cons_zero, List.set_cons_succ]
  refine wpAnyH_ready (rs := [5]) (by kernel_rfl) (by simp) ?_
  refine AllReadyH.cons rfl (fun K hK => ?_) AllReadyH.nil
  go_simp
  refine (CN0.out _).mono ?_
  rintro e w1 ⟨rfl, kc1⟩
  have k1 := k0.trans kc1 (fun _ h => .inl h)
  have bx1 := kc1.blk bx0 (fun h => h)
  have hr1 := hr0.same kc1
  have kx1 := k1.mono (G := fun b => b = xb) (fun _ h => h.elim)
  go_wp2_with fail
  refine hK.out _ _ (SA.out _ kx1) (fun hHeld => ?_)
  clear hK K
  try simp only [Act.put, List.getElem_toArray, List.getElem_cons_zero, List.getElem_cons_succ, List.setIfInBounds_toArray, List.set_cons_zero, List.set_cons_succ]
  refine wpAnyH_ready (rs := [9]) (by kernel_rfl) (by simp) ?_
  refine AllReadyH.cons rfl (fun K hK => ?_) AllReadyH.nil
  go_simp
  refine (CN1.out _).mono ?_
  rintro e w2 ⟨rfl, kc2⟩
  have k2 := k1.trans kc2 (fun _ h => .inl h)
  have bx2 := kc2.blk bx1 (fun h => h)
  have hr2 := hr1.same kc2
  have kx2 := k2.mono (G := fun b => b = xb) (fun _ h => h.elim)
  have z2 : ∀ i, w2.frozen? ⟨xb, i, none⟩ = false := fun i => bx2.frozen i
  have f72 := (bx2.cell 7).trans (show _ = some (.int .i64 d.sectors) from rfl)
  have f82 := (bx2.cell 8).trans (show _ = some (.int .i64 d.size) from rfl)
  go_wp2_with fail
  refine hK.out _ _ (SA.out _ kx2) (fun hHeld => ?_)
  clear hK K
  try simp only [Act.put, List.getElem_toArray, List.getElem_cons_zero, List.getElem_cons_succ, List.setIfInBounds_toArray, List.set_cons_zero, List.set_cons_succ]
  refine wpAnyH_take (i := 10) (v := ?_) rfl (by kernel_rfl) (by kernel_rfl) (by kernel_rfl) (fun _ _ _ h => h) (Or.inl ⟨by rfl, ?_⟩) hHeld ?_
  rotate_left
  · (intro w hSw; (try dsimp only at hSw); go_simp; try (with_reducible rfl))
  simp only [Act.put, List.getElem_toArray, List.getElem_cons_zero, List.getElem_cons_succ, List.setIfInBounds_toArray, List.set_cons_zero, List.set_cons_succ]
  refine wpAnyH_take (i := 11) (v := ?_) rfl (by kernel_rfl) (by kernel_rfl) (by kernel_rfl) (fun _ _ _ h => h) (Or.inl ⟨by rfl, ?_⟩) hHeld ?_
  rotate_left
  · (intro w hSw; (try dsimp only at hSw); go_simp; try (with_reducible rfl))
  simp only [Act.put, List.getElem_toArray, List.getElem_cons_zero, List.getElem_cons_succ, List.setIfInBounds_toArray, List.set_cons_zero, List.set_cons_succ]
  refine wpAnyH_ready (rs := [12]) (by kernel_rfl) (by simp) ?_
  refine AllReadyH.cons rfl (fun K hK => ?_) AllReadyH.nil
  go_simp
  refine hK.out _ _ (SA.out _ (Kept.setCell (p := ⟨xb, 7, none⟩) kx2 (.inl rfl) (.int .i64 (nv a0)))) (fun hHeld => ?_)
  clear hK K
  try simp only [Act.put, List.getElem_toArray, List.getElem_cons_zero, List.getElem_cons_succ, List.setIfInBounds_toArray, List.set_cons_zero, List.set_cons_succ]
  refine wpAnyH_take (i := 13) (v := ?_) rfl (by kernel_rfl) (by kernel_rfl) (by kernel_rfl) (fun _ _ _ h => h) (Or.inl ⟨by rfl, ?_⟩) hHeld ?_
  rotate_left
  · (intro w hSw; (try dsimp only at hSw); go_simp; try (with_reducible rfl))
  simp only [Act.put, List.getElem_toArray, List.getElem_cons_zero, List.getElem_cons_succ, List.setIfInBounds_toArray, List.set_cons_zero, List.set_cons_succ]
  refine wpAnyH_take (i := 14) (v := ?_) rfl (by kernel_rfl) (by kernel_rfl) (by kernel_rfl) (fun _ _ _ h => h) (Or.inl ⟨by rfl, ?_⟩) hHeld ?_
  rotate_left
  · (intro w hSw; (try dsimp only at hSw); go_simp; try (with_reducible rfl))
  simp only [Act.put, List.getElem_toArray, List.getElem_cons_zero, List.getElem_cons_succ, List.setIfInBounds_toArray, List.set_cons_zero, List.set_cons_succ]
  refine wpAnyH_ready (rs := [15]) (by kernel_rfl) (by simp) ?_
  refine AllReadyH.cons rfl (fun K hK => ?_) AllReadyH.nil
  go_simp
  refine hK.out _ _ (SA.out _ (Kept.setCell (p := ⟨xb, 8, none⟩) (Kept.setCell (p := ⟨xb, 7, none⟩) kx2 (.inl rfl) (.int .i64 (nv a0))) (.inl rfl) (.int .i64 (nv a1)))) (fun hHeld => ?_)
  clear hK K
  try simp only [Act.put, List.getElem_toArray, List.getElem_cons_zero, List.getElem_cons_succ, List.setIfInBounds_toArray, List.set_cons_zero, List.set_cons_succ]
  refine wpAnyH_done (by kernel_rfl) ?_ _
  refine NoPanic.normal ?_
  go_wp2_with fail
  go_end0
  have kk := (Kept.setCell (p := ⟨xb, 8, none⟩) (Kept.setCell (p := ⟨xb, 7, none⟩) (Kept.refl (fun b => b = xb) w2) (.inl rfl) (.int .i64 (nv a0))) (.inl rfl) (.int .i64 (nv a1)))
  refine ⟨⟨_, rfl⟩, ⟨hxB, nm, qs, vs, vl, ?_, ?_⟩, ?_⟩
  · rw [HDC.out]; exact (Blk.set_ (Blk.set_ bx2 7 (.int .i64 (nv a0))) 8 (.int .i64 (nv a1)))
  · rw [HDC.out]
    have hz := hr2.kept kk (fun b e => by omega)
    exact ⟨hz.n0, hz.n1, hz.n2, hz.n3, hz.n4⟩
  · exact (k2.mono (fun _ h => h.elim)).trans kk (fun x e => .inl (.inl e))

set_option maxHeartbeats 4000000 in
set_option maxRecDepth 100000 in
theorem clo_days {w : World} {xb B : Nat} {d : SetD} (h : SetAt w 60 xb B d) (A : Option Addr) (cA : Nat) (a0 a1 a2 : List UInt8) (hA : StrsAt w A [a0, a1, a2]) (hAB : ∀ ad, A = some ad → ad.block < B ∧ ad.block ≠ xb) (hs : ∀ a ∈ [a0, a1, a2], a.length ≤ 65536) (hn0 : isNumB a0 = true) (hn1 : isNumB a1 = true) (hn2 : isNumB a2 = true) :
    Calls Tryz.prog 81 #[.pointer (some ⟨xb, 0, none⟩), .slice A 3 cA] w fun e w' => (∃ v, e = .returned v) ∧ SetAt w' 60 xb B (decl d [100, 97, 121, 115] [a0, a1, a2]) ∧ Kept (fun k => k = xb ∨ B ≤ k) w w' := by
  obtain ⟨hxB, nm, qs, vs, vl, bx, hr⟩ := h
  obtain ⟨ab, ao, rfl, hab, _⟩ := hA.at_ (k := 0) (by simp)
  obtain ⟨haB, hax⟩ := hAB _ rfl
  simp only at haB hax
  have cx0 : w.cell? ⟨ab, ao, none⟩ = some (.string (ba a0)) := hA.cell_ (k := 0) (by simp)
  have cx1 : w.cell? ⟨ab, ao + 1, none⟩ = some (.string (ba a1)) := hA.cell_ (k := 1) (by simp)
  have cx2 : w.cell? ⟨ab, ao + 2, none⟩ = some (.string (ba a2)) := hA.cell_ (k := 2) (by simp)
  have CN0 := Lib.hid (fun W : World => (show Calls Tryz.prog 46 #[.string (ba a0)] W fun e W' => e = .returned (.int .i64 (nv a0)) ∧ Kept NoF W W' from by
    have := number46_any (ba a0) W (by have := hs a0 (by simp); rw [ba_size]; omega) (by rw [ba_toList]; exact hn0)
    rw [ba_toList] at this
    exact this.mono (fun e W' h => ⟨h.1, Kept.of_below h.2⟩)))
  have CN1 := Lib.hid (fun W : World => (show Calls Tryz.prog 46 #[.string (ba a1)] W fun e W' => e = .returned (.int .i64 (nv a1)) ∧ Kept NoF W W' from by
    have := number46_any (ba a1) W (by have := hs a1 (by simp); rw [ba_size]; omega) (by rw [ba_toList]; exact hn1)
    rw [ba_toList] at this
    exact this.mono (fun e W' h => ⟨h.1, Kept.of_below h.2⟩)))
  have CN2 := Lib.hid (fun W : World => (show Calls Tryz.prog 46 #[.string (ba a2)] W fun e W' => e = .returned (.int .i64 (nv a2)) ∧ Kept NoF W W' from by
    have := number46_any (ba a2) W (by have := hs a2 (by simp); rw [ba_size]; omega) (by rw [ba_toList]; exact hn2)
    rw [ba_toList] at this
    exact this.mono (fun e W' h => ⟨h.1, Kept.of_below h.2⟩)))
  have HDC := Lib.hid (decl_days d a0 a1 a2)
  clear hAB hs hn0 hn1 hn2
  go_enter Tryz.func81, Tryz.ntmps81
  have SA := Lib.hid (fun W (k : Kept (fun b => b = xb) w W) => (⟨k.cell cx0 hax, k.cell cx1 hax, k.cell cx2 hax⟩ : (fun (w' : World) => w'.cell? ⟨ab, ao, none⟩ = some (.string (ba a0)) ∧ w'.cell? ⟨ab, ao + 1, none⟩ = some (.string (ba a1)) ∧ w'.cell? ⟨ab, ao + 2, none⟩ = some (.string (ba a2))) W))
  have k0 := (Kept.refl NoF w).drew
  have bx0 := k0.blk bx (fun h => h)
  have hr0 := hr.same k0
  have kx0 := k0.mono (G := fun b => b = xb) (fun _ h => h.elim)
  refine wp_region_noPanic ?_
  refine wp_region_held_drew (S := (fun (w' : World) => w'.cell? ⟨ab, ao, none⟩ = some (.string (ba a0)) ∧ w'.cell? ⟨ab, ao + 1, none⟩ = some (.string (ba a1)) ∧ w'.cell? ⟨ab, ao + 2, none⟩ = some (.string (ba a2)))) (by kernel_rfl) ?_ (fun hHeld => ?_)
  · exact SA.out _ kx0
  refine wpAnyH_take (i := 0) (v := ?_) rfl (by kernel_rfl) (by kernel_rfl) (by kernel_rfl) (fun _ _ _ h => h) (Or.inl ⟨by rfl, ?_⟩) hHeld ?_
  rotate_left
  · (intro w hSw; (try dsimp only at hSw); go_simp; try (with_reducible rfl))
  simp only [Act.put, List.getElem_toArray, List.getElem_cons_zero, List.setIfInBounds_toArray, List.set_cons_zero, List.set_cons_succ]
  refine wpAnyH_take (i := 1) (v := ?_) rfl (by kernel_rfl) (by kernel_rfl) (by kernel_rfl) (fun _ _ _ h => h) (Or.inl ⟨by rfl, ?_⟩) hHeld ?_
  rotate_left
  · (intro w hSw; (try dsimp only at hSw); go_simp; try (with_reducible rfl))
  simp only [Act.put, List.getElem_toArray, List.getElem_cons_zero, List.getElem_cons_succ, List.setIfInBounds_toArray, List.set_cons_zero, List.set_cons_succ]
  refine wpAnyH_take (i := 2) (v := ?_) rfl (by kernel_rfl) (by kernel_rfl) (by kernel_rfl) (fun _ _ _ h => h) (Or.inl ⟨by rfl, ?_⟩) hHeld ?_
  rotate_left
  · (intro w hSw; (try dsimp only at hSw); go_simp; try (with_reducible rfl))
  simp only [Act.put, List.getElem_toArray, List.getElem_cons_zero, List.getElem_cons_succ, List.setIfInBounds_toArray, List.set_cons_zero, List.set_cons_succ]
  refine wpAnyH_take (i := 3) (v := ?_) rfl (by kernel_rfl) (by kernel_rfl) (by kernel_rfl) (fun _ _ _ h => h) (Or.inl ⟨by rfl, ?_⟩) hHeld ?_
  rotate_left
  · (intro w hSw; (try dsimp only at hSw); go_simp; try (with_reducible rfl))
  simp only [Act.put, List.getElem_toArray, List.getElem_cons_zero, List.getElem_cons_succ, List.setIfInBounds_toArray, List.set_cons_zero, List.set_cons_succ]
  refine wpAnyH_take (i := 4) (v := ?_) rfl (by kernel_rfl) (by kernel_rfl) (by kernel_rfl) (fun _ _ _ h => h) (Or.inl ⟨by rfl, ?_⟩) hHeld ?_
  rotate_left
  · (intro w hSw; (try dsimp only at hSw); go_simp; try (with_reducible rfl))
  simp only [Act.put, List.getElem_toArray, List.getElem_cons_zero, List.getElem_cons_succ, List.setIfInBounds_toArray, List.set_cons_zero, List.set_cons_succ]
  refine wpAnyH_take (i := 5) (v := ?_) rfl (by kernel_rfl) (by kernel_rfl) (by kernel_rfl) (fun _ _ _ h => h) (Or.inl ⟨by rfl, ?_⟩) hHeld ?_
  rotate_left
  · (intro w hSw; (try dsimp only at hSw); go_simp; try (with_reducible rfl))
  simp only [Act.put, List.getElem_toArray, List.getElem_cons_zero, List.getElem_cons_succ, List.setIfInBounds_toArray, List.set_cons_zero, List.set_cons_succ]
  refine wpAnyH_take (i := 7) (v := ?_) rfl (by kernel_rfl) (by kernel_rfl) (by kernel_rfl) (fun _ _ _ h => h) (Or.inl ⟨by rfl, ?_⟩) hHeld ?_
  rotate_left
  · (intro w hSw; (try dsimp only at hSw); go_simp; try (with_reducible rfl))
  simp only [Act.put, List.getElem_toArray, List.getElem_cons_zero, List.getElem_cons_succ, List.setIfInBounds_toArray, List.set_cons_zero, List.set_cons_succ]
  refine wpAnyH_take (i := 8) (v := ?_) rfl (by kernel_rfl) (by kernel_rfl) (by kernel_rfl) (fun _ _ _ h => h) (Or.inl ⟨by rfl, ?_⟩) hHeld ?_
  rotate_left
  · (intro w hSw; (try dsimp only at hSw); go_simp; try (with_reducible rfl))
  simp only [Act.put, List.getElem_toArray, List.getElem_cons_zero, List.getElem_cons_succ, List.setIfInBounds_toArray, List.set_cons_zero, List.set_cons_succ]
  refine wpAnyH_take (i := 9) (v := ?_) rfl (by kernel_rfl) (by kernel_rfl) (by kernel_rfl) (fun _ _ _ h => h) (Or.inl ⟨by rfl, ?_⟩) hHeld ?_
  rotate_left
  · (intro w hSw; (try dsimp only at hSw); go_simp; try (with_reducible rfl))
  simp only [Act.put, List.getElem_toArray, List.getElem_cons_zero, List.getElem_cons_succ, List.setIfInBounds_toArray, List.set_cons_zero, List.set_cons_succ]
  refine wpAnyH_take (i := 11) (v := ?_) rfl (by kernel_rfl) (by kernel_rfl) (by kernel_rfl) (fun _ _ _ h => h) (Or.inl ⟨by rfl, ?_⟩) hHeld ?_
  rotate_left
  · (intro w hSw; (try dsimp only at hSw); go_simp; try (with_reducible rfl))
  simp only [Act.put, List.getElem_toArray, List.getElem_cons_zero, List.getElem_cons_succ, List.setIfInBounds_toArray, List.set_cons_zero, List.set_cons_succ]
  refine wpAnyH_take (i := 12) (v := ?_) rfl (by kernel_rfl) (by kernel_rfl) (by kernel_rfl) (fun _ _ _ h => h) (Or.inl ⟨by rfl, ?_⟩) hHeld ?_
  rotate_left
  · (intro w hSw; (try dsimp only at hSw); go_simp; try (with_reducible rfl))
  simp only [Act.put, List.getElem_toArray, List.getElem_cons_zero, List.getElem_cons_succ, List.setIfInBounds_toArray, List.set_cons_zero, List.set_cons_succ]
  refine wpAnyH_take (i := 13) (v := ?_) rfl (by kernel_rfl) (by kernel_rfl) (by kernel_rfl) (fun _ _ _ h => h) (Or.inl ⟨by rfl, ?_⟩) hHeld ?_
  rotate_left
  · (intro w hSw; (try dsimp only at hSw); go_simp; try (with_reducible rfl))
  simp only [Act.put, List.getElem_toArray, List.getElem_cons_zero, List.getElem_cons_succ, List.setIfInBounds_toArray, List.set_cons_zero, List.set_cons_succ]
  refine wpAnyH_ready (rs := [6]) (by kernel_rfl) (by simp) ?_
  refine AllReadyH.cons rfl (fun K hK => ?_) AllReadyH.nil
  go_simp
  refine (CN0.out _).mono ?_
  rintro e w1 ⟨rfl, kc1⟩
  have k1 := k0.trans kc1 (fun _ h => .inl h)
  have bx1 := kc1.blk bx0 (fun h => h)
  have hr1 := hr0.same kc1
  have kx1 := k1.mono (G := fun b => b = xb) (fun _ h => h.elim)
  go_wp2_with fail
  refine hK.out _ _ (SA.out _ kx1) (fun hHeld => ?_)
  clear hK K
  try simp only [Act.put, List.getElem_toArray, List.getElem_cons_zero, List.getElem_cons_succ, List.setIfInBounds_toArray, List.set_cons_zero, List.set_cons_succ]
  refine wpAnyH_ready (rs := [10]) (by kernel_rfl) (by simp) ?_
  refine AllReadyH.cons rfl (fun K hK => ?_) AllReadyH.nil
  go_simp
  refine (CN1.out _).mono ?_
  rintro e w2 ⟨rfl, kc2⟩
  have k2 := k1.trans kc2 (fun _ h => .inl h)
  have bx2 := kc2.blk bx1 (fun h => h)
  have hr2 := hr1.same kc2
  have kx2 := k2.mono (G := fun b => b = xb) (fun _ h => h.elim)
  go_wp2_with fail
  refine hK.out _ _ (SA.out _ kx2) (fun hHeld => ?_)
  clear hK K
  try simp only [Act.put, List.getElem_toArray, List.getElem_cons_zero, List.getElem_cons_succ, List.setIfInBounds_toArray, List.set_cons_zero, List.set_cons_succ]
  refine wpAnyH_ready (rs := [14]) (by kernel_rfl) (by simp) ?_
  refine AllReadyH.cons rfl (fun K hK => ?_) AllReadyH.nil
  go_simp
  refine (CN2.out _).mono ?_
  rintro e w3 ⟨rfl, kc3⟩
  have k3 := k2.trans kc3 (fun _ h => .inl h)
  have bx3 := kc3.blk bx2 (fun h => h)
  have hr3 := hr2.same kc3
  have kx3 := k3.mono (G := fun b => b = xb) (fun _ h => h.elim)
  have z3 : ∀ i, w3.frozen? ⟨xb, i, none⟩ = false := fun i => bx3.frozen i
  have f93 := (bx3.cell 9).trans (show _ = some (.int .i64 d.day) from rfl)
  have f103 := (bx3.cell 10).trans (show _ = some (.int .i64 d.leap) from rfl)
  have f113 := (bx3.cell 11).trans (show _ = some (.int .i64 d.agree) from rfl)
  go_wp2_with fail
  refine hK.out _ _ (SA.out _ kx3) (fun hHeld => ?_)
  clear hK K
  try simp only [Act.put, List.getElem_toArray, List.getElem_cons_zero, List.getElem_cons_succ, List.setIfInBounds_toArray, List.set_cons_zero, List.set_cons_succ]
  refine wpAnyH_take (i := 15) (v := ?_) rfl (by kernel_rfl) (by kernel_rfl) (by kernel_rfl) (fun _ _ _ h => h) (Or.inl ⟨by rfl, ?_⟩) hHeld ?_
  rotate_left
  · (intro w hSw; (try dsimp only at hSw); go_simp; try (with_reducible rfl))
  simp only [Act.put, List.getElem_toArray, List.getElem_cons_zero, List.getElem_cons_succ, List.setIfInBounds_toArray, List.set_cons_zero, List.set_cons_succ]
  refine wpAnyH_take (i := 16) (v := ?_) rfl (by kernel_rfl) (by kernel_rfl) (by kernel_rfl) (fun _ _ _ h => h) (Or.inl ⟨by rfl, ?_⟩) hHeld ?_
  rotate_left
  · (intro w hSw; (try dsimp only at hSw); go_simp; try (with_reducible rfl))
  simp only [Act.put, List.getElem_toArray, List.getElem_cons_zero, List.getElem_cons_succ, List.setIfInBounds_toArray, List.set_cons_zero, List.set_cons_succ]
  refine wpAnyH_ready (rs := [17]) (by kernel_rfl) (by simp) ?_
  refine AllReadyH.cons rfl (fun K hK => ?_) AllReadyH.nil
  go_simp
  refine hK.out _ _ (SA.out _ (Kept.setCell (p := ⟨xb, 9, none⟩) kx3 (.inl rfl) (.int .i64 (nv a0)))) (fun hHeld => ?_)
  clear hK K
  try simp only [Act.put, List.getElem_toArray, List.getElem_cons_zero, List.getElem_cons_succ, List.setIfInBounds_toArray, List.set_cons_zero, List.set_cons_succ]
  refine wpAnyH_take (i := 18) (v := ?_) rfl (by kernel_rfl) (by kernel_rfl) (by kernel_rfl) (fun _ _ _ h => h) (Or.inl ⟨by rfl, ?_⟩) hHeld ?_
  rotate_left
  · (intro w hSw; (try dsimp only at hSw); go_simp; try (with_reducible rfl))
  simp only [Act.put, List.getElem_toArray, List.getElem_cons_zero, List.getElem_cons_succ, List.setIfInBounds_toArray, List.set_cons_zero, List.set_cons_succ]
  refine wpAnyH_take (i := 19) (v := ?_) rfl (by kernel_rfl) (by kernel_rfl) (by kernel_rfl) (fun _ _ _ h => h) (Or.inl ⟨by rfl, ?_⟩) hHeld ?_
  rotate_left
  · (intro w hSw; (try dsimp only at hSw); go_simp; try (with_reducible rfl))
  simp only [Act.put, List.getElem_toArray, List.getElem_cons_zero, List.getElem_cons_succ, List.setIfInBounds_toArray, List.set_cons_zero, List.set_cons_succ]
  refine wpAnyH_ready (rs := [20]) (by kernel_rfl) (by simp) ?_
  refine AllReadyH.cons rfl (fun K hK => ?_) AllReadyH.nil
  go_simp
  refine hK.out _ _ (SA.out _ (Kept.setCell (p := ⟨xb, 10, none⟩) (Kept.setCell (p := ⟨xb, 9, none⟩) kx3 (.inl rfl) (.int .i64 (nv a0))) (.inl rfl) (.int .i64 (nv a1)))) (fun hHeld => ?_)
  clear hK K
  try simp only [Act.put, List.getElem_toArray, List.getElem_cons_zero, List.getElem_cons_succ, List.setIfInBounds_toArray, List.set_cons_zero, List.set_cons_succ]
  refine wpAnyH_take (i := 21) (v := ?_) rfl (by kernel_rfl) (by kernel_rfl) (by kernel_rfl) (fun _ _ _ h => h) (Or.inl ⟨by rfl, ?_⟩) hHeld ?_
  rotate_left
  · (intro w hSw; (try dsimp only at hSw); go_simp; try (with_reducible rfl))
  simp only [Act.put, List.getElem_toArray, List.getElem_cons_zero, List.getElem_cons_succ, List.setIfInBounds_toArray, List.set_cons_zero, List.set_cons_succ]
  refine wpAnyH_take (i := 22) (v := ?_) rfl (by kernel_rfl) (by kernel_rfl) (by kernel_rfl) (fun _ _ _ h => h) (Or.inl ⟨by rfl, ?_⟩) hHeld ?_
  rotate_left
  · (intro w hSw; (try dsimp only at hSw); go_simp; try (with_reducible rfl))
  simp only [Act.put, List.getElem_toArray, List.getElem_cons_zero, List.getElem_cons_succ, List.setIfInBounds_toArray, List.set_cons_zero, List.set_cons_succ]
  refine wpAnyH_ready (rs := [23]) (by kernel_rfl) (by simp) ?_
  refine AllReadyH.cons rfl (fun K hK => ?_) AllReadyH.nil
  go_simp
  refine hK.out _ _ (SA.out _ (Kept.setCell (p := ⟨xb, 11, none⟩) (Kept.setCell (p := ⟨xb, 10, none⟩) (Kept.setCell (p := ⟨xb, 9, none⟩) kx3 (.inl rfl) (.int .i64 (nv a0))) (.inl rfl) (.int .i64 (nv a1))) (.inl rfl) (.int .i64 (nv a2)))) (fun hHeld => ?_)
  clear hK K
  try simp only [Act.put, List.getElem_toArray, List.getElem_cons_zero, List.getElem_cons_succ, List.setIfInBounds_toArray, List.set_cons_zero, List.set_cons_succ]
  refine wpAnyH_done (by kernel_rfl) ?_ _
  refine NoPanic.normal ?_
  go_wp2_with fail
  go_end0
  have kk := (Kept.setCell (p := ⟨xb, 11, none⟩) (Kept.setCell (p := ⟨xb, 10, none⟩) (Kept.setCell (p := ⟨xb, 9, none⟩) (Kept.refl (fun b => b = xb) w3) (.inl rfl) (.int .i64 (nv a0))) (.inl rfl) (.int .i64 (nv a1))) (.inl rfl) (.int .i64 (nv a2)))
  refine ⟨⟨_, rfl⟩, ⟨hxB, nm, qs, vs, vl, ?_, ?_⟩, ?_⟩
  · rw [HDC.out]; exact (Blk.set_ (Blk.set_ (Blk.set_ bx3 9 (.int .i64 (nv a0))) 10 (.int .i64 (nv a1))) 11 (.int .i64 (nv a2)))
  · rw [HDC.out]
    have hz := hr3.kept kk (fun b e => by omega)
    exact ⟨hz.n0, hz.n1, hz.n2, hz.n3, hz.n4⟩
  · exact (k3.mono (fun _ h => h.elim)).trans kk (fun x e => .inl (.inl e))

set_option maxHeartbeats 4000000 in
set_option maxRecDepth 100000 in
theorem clo_cutting {w : World} {xb B : Nat} {d : SetD} (h : SetAt w 60 xb B d) (A : Option Addr) (cA : Nat) (a0 a1 a2 a3 : List UInt8) (hA : StrsAt w A [a0, a1, a2, a3]) (hAB : ∀ ad, A = some ad → ad.block < B ∧ ad.block ≠ xb) (hs : ∀ a ∈ [a0, a1, a2, a3], a.length ≤ 65536) (hn0 : isNumB a0 = true) (hn1 : isNumB a1 = true) (hn2 : isNumB a2 = true) (hn3 : isNumB a3 = true) (hne : d.vaults.isEmpty = false) :
    Calls Tryz.prog 75 #[.pointer (some ⟨xb, 0, none⟩), .slice A 4 cA] w fun e w' => (∃ v, e = .returned v) ∧ SetAt w' 60 xb B (decl d [99, 117, 116, 116, 105, 110, 103] [a0, a1, a2, a3]) ∧ Kept (fun k => k = xb ∨ B ≤ k) w w' := by
  obtain ⟨hxB, nm, qs, vs, vl, bx, hr⟩ := h
  obtain ⟨ab, ao, rfl, hab, _⟩ := hA.at_ (k := 0) (by simp)
  obtain ⟨haB, hax⟩ := hAB _ rfl
  simp only at haB hax
  have cx0 : w.cell? ⟨ab, ao, none⟩ = some (.string (ba a0)) := hA.cell_ (k := 0) (by simp)
  have cx1 : w.cell? ⟨ab, ao + 1, none⟩ = some (.string (ba a1)) := hA.cell_ (k := 1) (by simp)
  have cx2 : w.cell? ⟨ab, ao + 2, none⟩ = some (.string (ba a2)) := hA.cell_ (k := 2) (by simp)
  have cx3 : w.cell? ⟨ab, ao + 3, none⟩ = some (.string (ba a3)) := hA.cell_ (k := 3) (by simp)
  have CN0 := Lib.hid (fun W : World => (show Calls Tryz.prog 46 #[.string (ba a0)] W fun e W' => e = .returned (.int .i64 (nv a0)) ∧ Kept NoF W W' from by
    have := number46_any (ba a0) W (by have := hs a0 (by simp); rw [ba_size]; omega) (by rw [ba_toList]; exact hn0)
    rw [ba_toList] at this
    exact this.mono (fun e W' h => ⟨h.1, Kept.of_below h.2⟩)))
  have CN1 := Lib.hid (fun W : World => (show Calls Tryz.prog 46 #[.string (ba a1)] W fun e W' => e = .returned (.int .i64 (nv a1)) ∧ Kept NoF W W' from by
    have := number46_any (ba a1) W (by have := hs a1 (by simp); rw [ba_size]; omega) (by rw [ba_toList]; exact hn1)
    rw [ba_toList] at this
    exact this.mono (fun e W' h => ⟨h.1, Kept.of_below h.2⟩)))
  have CN2 := Lib.hid (fun W : World => (show Calls Tryz.prog 46 #[.string (ba a2)] W fun e W' => e = .returned (.int .i64 (nv a2)) ∧ Kept NoF W W' from by
    have := number46_any (ba a2) W (by have := hs a2 (by simp); rw [ba_size]; omega) (by rw [ba_toList]; exact hn2)
    rw [ba_toList] at this
    exact this.mono (fun e W' h => ⟨h.1, Kept.of_below h.2⟩)))
  have CN3 := Lib.hid (fun W : World => (show Calls Tryz.prog 46 #[.string (ba a3)] W fun e W' => e = .returned (.int .i64 (nv a3)) ∧ Kept NoF W W' from by
    have := number46_any (ba a3) W (by have := hs a3 (by simp); rw [ba_size]; omega) (by rw [ba_toList]; exact hn3)
    rw [ba_toList] at this
    exact this.mono (fun e W' h => ⟨h.1, Kept.of_below h.2⟩)))
  have HDC := Lib.hid (decl_cutting d a0 a1 a2 a3)
  clear hAB hs hn0 hn1 hn2 hn3
  obtain ⟨l, v, hl⟩ := snoc_of hne
  obtain ⟨g, cap, rfl, hgB, hgx⟩ := vrow_form hr hl hxB
  have hga : ab ≠ g := by omega
  have hi : IntKind.i64.wrap (l.length : Int) = (l.length : Int) := by have := vrow_small hr hl; exact wrap_len this
  have hi1 : (l.length : Int) < (l.length : Int) + 1 := by omega
  have SA := Lib.hid (fun W (k : Kept (fun b => b = g) w W) => (⟨k.cell ((bx.cell 2).trans rfl) (Ne.symm hgx), k.cell cx0 hga, k.cell cx1 hga, k.cell cx2 hga, k.cell cx3 hga⟩ : (fun (w' : World) => w'.cell? ⟨xb, 2, none⟩ = some (.slice (some ⟨g, 0, none⟩) (l.length + 1) cap) ∧ w'.cell? ⟨ab, ao, none⟩ = some (.string (ba a0)) ∧ w'.cell? ⟨ab, ao + 1, none⟩ = some (.string (ba a1)) ∧ w'.cell? ⟨ab, ao + 2, none⟩ = some (.string (ba a2)) ∧ w'.cell? ⟨ab, ao + 3, none⟩ = some (.string (ba a3))) W))
  have k0 := (Kept.refl NoF w).drew
  have bx0 := k0.blk bx (fun h => h)
  have hr0 := hr.same k0
  have kx0 := k0.mono (G := fun b => b = g) (fun _ h => h.elim)
  go_enter Tryz.func75, Tryz.ntmps75
  refine wp_region_noPanic ?_
  refine wp_region_held_drew (S := (fun (w' : World) => w'.cell? ⟨xb, 2, none⟩ = some (.slice (some ⟨g, 0, none⟩) (l.length + 1) cap) ∧ w'.cell? ⟨ab, ao, none⟩ = some (.string (ba a0)) ∧ w'.cell? ⟨ab, ao + 1, none⟩ = some (.string (ba a1)) ∧ w'.cell? ⟨ab, ao + 2, none⟩ = some (.string (ba a2)) ∧ w'.cell? ⟨ab, ao + 3, none⟩ = some (.string (ba a3)))) (by kernel_rfl) ?_ (fun hHeld => ?_)
  · exact SA.out _ kx0
  refine wpAnyH_take (i := 0) (v := ?_) rfl (by kernel_rfl) (by kernel_rfl) (by kernel_rfl) (fun _ _ _ h => h) (Or.inl ⟨by rfl, ?_⟩) hHeld ?_
  rotate_left
  · (intro w hSw; (try dsimp only at hSw); go_simp; try (with_reducible rfl))
  simp only [Act.put, List.getElem_toArray, List.getElem_cons_zero, List.setIfInBounds_toArray, List.set_cons_zero, List.set_cons_succ]
  refine wpAnyH_take (i := 1) (v := ?_) rfl (by kernel_rfl) (by kernel_rfl) (by kernel_rfl) (fun _ _ _ h => h) (Or.inl ⟨by rfl, ?_⟩) hHeld ?_
  rotate_left
  · (intro w hSw; (try dsimp only at hSw); go_simp; try (with_reducible rfl))
  simp only [Act.put, List.getElem_toArray, List.getElem_cons_zero, List.getElem_cons_succ, List.setIfInBounds_toArray, List.set_cons_zero, List.set_cons_succ]
  refine wpAnyH_take (i := 2) (v := ?_) rfl (by kernel_rfl) (by kernel_rfl) (by kernel_rfl) (fun _ _ _ h => h) (Or.inl ⟨by rfl, ?_⟩) hHeld ?_
  rotate_left
  · (intro w hSw; (try dsimp only at hSw); go_simp; try (with_reducible rfl))
  simp only [Act.put, List.getElem_toArray, List.getElem_cons_zero, List.getElem_cons_succ, List.setIfInBounds_toArray, List.set_cons_zero, List.set_cons_succ]
  refine wpAnyH_take (i := 3) (v := ?_) rfl (by kernel_rfl) (by kernel_rfl) (by kernel_rfl) (fun _ _ _ h => h) (Or.inl ⟨by rfl, ?_⟩) hHeld ?_
  rotate_left
  · (intro w hSw; (try dsimp only at hSw); go_simp; try (with_reducible rfl))
  simp only [Act.put, List.getElem_toArray, List.getElem_cons_zero, List.getElem_cons_succ, List.setIfInBounds_toArray, List.set_cons_zero, List.set_cons_succ]
  refine wpAnyH_take (i := 4) (v := ?_) rfl (by kernel_rfl) (by kernel_rfl) (by kernel_rfl) (fun _ _ _ h => h) (Or.inl ⟨by rfl, ?_⟩) hHeld ?_
  rotate_left
  · (intro w hSw; (try dsimp only at hSw); go_simp; try (with_reducible rfl))
  simp only [Act.put, List.getElem_toArray, List.getElem_cons_zero, List.getElem_cons_succ, List.setIfInBounds_toArray, List.set_cons_zero, List.set_cons_succ]
  refine wpAnyH_take (i := 5) (v := ?_) rfl (by kernel_rfl) (by kernel_rfl) (by kernel_rfl) (fun _ _ _ h => h) (Or.inl ⟨by rfl, ?_⟩) hHeld ?_
  rotate_left
  · (intro w hSw; (try dsimp only at hSw); go_simp; try (with_reducible rfl))
  simp only [Act.put, List.getElem_toArray, List.getElem_cons_zero, List.getElem_cons_succ, List.setIfInBounds_toArray, List.set_cons_zero, List.set_cons_succ]
  refine wpAnyH_take (i := 6) (v := ?_) rfl (by kernel_rfl) (by kernel_rfl) (by kernel_rfl) (fun _ _ _ h => h) (Or.inl ⟨by rfl, ?_⟩) hHeld ?_
  rotate_left
  · (intro w hSw; (try dsimp only at hSw); go_simp; try (with_reducible rfl))
  simp only [Act.put, List.getElem_toArray, List.getElem_cons_zero, List.getElem_cons_succ, List.setIfInBounds_toArray, List.set_cons_zero, List.set_cons_succ]
  refine wpAnyH_take (i := 7) (v := ?_) rfl (by kernel_rfl) (by kernel_rfl) (by kernel_rfl) (fun _ _ _ h => h) (Or.inl ⟨by rfl, ?_⟩) hHeld ?_
  rotate_left
  · (intro w hSw; (try dsimp only at hSw); go_simp; try (with_reducible rfl))
  simp only [Act.put, List.getElem_toArray, List.getElem_cons_zero, List.getElem_cons_succ, List.setIfInBounds_toArray, List.set_cons_zero, List.set_cons_succ]
  refine wpAnyH_take (i := 8) (v := ?_) rfl (by kernel_rfl) (by kernel_rfl) (by kernel_rfl) (fun _ _ _ h => h) (Or.inl ⟨by rfl, ?_⟩) hHeld ?_
  rotate_left
  · (intro w hSw; (try dsimp only at hSw); go_simp; try (with_reducible rfl))
  simp only [Act.put, List.getElem_toArray, List.getElem_cons_zero, List.getElem_cons_succ, List.setIfInBounds_toArray, List.set_cons_zero, List.set_cons_succ]
  refine wpAnyH_take (i := 9) (v := ?_) rfl (by kernel_rfl) (by kernel_rfl) (by kernel_rfl) (fun _ _ _ h => h) (Or.inl ⟨by rfl, ?_⟩) hHeld ?_
  rotate_left
  · (intro w hSw; (try dsimp only at hSw); go_simp; try (with_reducible rfl))
  simp only [Act.put, List.getElem_toArray, List.getElem_cons_zero, List.getElem_cons_succ, List.setIfInBounds_toArray, List.set_cons_zero, List.set_cons_succ]
  refine wpAnyH_take (i := 10) (v := ?_) rfl (by kernel_rfl) (by kernel_rfl) (by kernel_rfl) (fun _ _ _ h => h) (Or.inl ⟨by rfl, ?_⟩) hHeld ?_
  rotate_left
  · (intro w hSw; (try dsimp only at hSw); go_simp; try (with_reducible rfl))
  simp only [Act.put, List.getElem_toArray, List.getElem_cons_zero, List.getElem_cons_succ, List.setIfInBounds_toArray, List.set_cons_zero, List.set_cons_succ]
  refine wpAnyH_take (i := 11) (v := ?_) rfl (by kernel_rfl) (by kernel_rfl) (by kernel_rfl) (fun _ _ _ h => h) (Or.inl ⟨by rfl, ?_⟩) hHeld ?_
  rotate_left
  · (intro w hSw; (try dsimp only at hSw); go_simp; try (with_reducible rfl))
  simp only [Act.put, List.getElem_toArray, List.getElem_cons_zero, List.getElem_cons_succ, List.setIfInBounds_toArray, List.set_cons_zero, List.set_cons_succ]
  refine wpAnyH_take (i := 12) (v := ?_) rfl (by kernel_rfl) (by kernel_rfl) (by kernel_rfl) (fun _ _ _ h => h) (Or.inl ⟨by rfl, ?_⟩) hHeld ?_
  rotate_left
  · (intro w hSw; (try dsimp only at hSw); go_simp; try (with_reducible rfl))
  simp only [Act.put, List.getElem_toArray, List.getElem_cons_zero, List.getElem_cons_succ, List.setIfInBounds_toArray, List.set_cons_zero, List.set_cons_succ]
  refine wpAnyH_take (i := 14) (v := ?_) rfl (by kernel_rfl) (by kernel_rfl) (by kernel_rfl) (fun _ _ _ h => h) (Or.inl ⟨by rfl, ?_⟩) hHeld ?_
  rotate_left
  · (intro w hSw; (try dsimp only at hSw); go_simp; try (with_reducible rfl))
  simp only [Act.put, List.getElem_toArray, List.getElem_cons_zero, List.getElem_cons_succ, List.setIfInBounds_toArray, List.set_cons_zero, List.set_cons_succ]
  refine wpAnyH_take (i := 15) (v := ?_) rfl (by kernel_rfl) (by kernel_rfl) (by kernel_rfl) (fun _ _ _ h => h) (Or.inl ⟨by rfl, ?_⟩) hHeld ?_
  rotate_left
  · (intro w hSw; (try dsimp only at hSw); go_simp; try (with_reducible rfl))
  simp only [Act.put, List.getElem_toArray, List.getElem_cons_zero, List.getElem_cons_succ, List.setIfInBounds_toArray, List.set_cons_zero, List.set_cons_succ]
  refine wpAnyH_take (i := 16) (v := ?_) rfl (by kernel_rfl) (by kernel_rfl) (by kernel_rfl) (fun _ _ _ h => h) (Or.inl ⟨by rfl, ?_⟩) hHeld ?_
  rotate_left
  · (intro w hSw; (try dsimp only at hSw); go_simp; try (with_reducible rfl))
  simp only [Act.put, List.getElem_toArray, List.getElem_cons_zero, List.getElem_cons_succ, List.setIfInBounds_toArray, List.set_cons_zero, List.set_cons_succ]
  refine wpAnyH_take (i := 18) (v := ?_) rfl (by kernel_rfl) (by kernel_rfl) (by kernel_rfl) (fun _ _ _ h => h) (Or.inl ⟨by rfl, ?_⟩) hHeld ?_
  rotate_left
  · (intro w hSw; (try dsimp only at hSw); go_simp; try (with_reducible rfl))
  simp only [Act.put, List.getElem_toArray, List.getElem_cons_zero, List.getElem_cons_succ, List.setIfInBounds_toArray, List.set_cons_zero, List.set_cons_succ]
  refine wpAnyH_take (i := 19) (v := ?_) rfl (by kernel_rfl) (by kernel_rfl) (by kernel_rfl) (fun _ _ _ h => h) (Or.inl ⟨by rfl, ?_⟩) hHeld ?_
  rotate_left
  · (intro w hSw; (try dsimp only at hSw); go_simp; try (with_reducible rfl))
  simp only [Act.put, List.getElem_toArray, List.getElem_cons_zero, List.getElem_cons_succ, List.setIfInBounds_toArray, List.set_cons_zero, List.set_cons_succ]
  refine wpAnyH_take (i := 20) (v := ?_) rfl (by kernel_rfl) (by kernel_rfl) (by kernel_rfl) (fun _ _ _ h => h) (Or.inl ⟨by rfl, ?_⟩) hHeld ?_
  rotate_left
  · (intro w hSw; (try dsimp only at hSw); go_simp; try (with_reducible rfl))
  simp only [Act.put, List.getElem_toArray, List.getElem_cons_zero, List.getElem_cons_succ, List.setIfInBounds_toArray, List.set_cons_zero, List.set_cons_succ]
  refine wpAnyH_take (i := 22) (v := ?_) rfl (by kernel_rfl) (by kernel_rfl) (by kernel_rfl) (fun _ _ _ h => h) (Or.inl ⟨by rfl, ?_⟩) hHeld ?_
  rotate_left
  · (intro w hSw; (try dsimp only at hSw); go_simp; try (with_reducible rfl))
  simp only [Act.put, List.getElem_toArray, List.getElem_cons_zero, List.getElem_cons_succ, List.setIfInBounds_toArray, List.set_cons_zero, List.set_cons_succ]
  refine wpAnyH_take (i := 23) (v := ?_) rfl (by kernel_rfl) (by kernel_rfl) (by kernel_rfl) (fun _ _ _ h => h) (Or.inl ⟨by rfl, ?_⟩) hHeld ?_
  rotate_left
  · (intro w hSw; (try dsimp only at hSw); go_simp; try (with_reducible rfl))
  simp only [Act.put, List.getElem_toArray, List.getElem_cons_zero, List.getElem_cons_succ, List.setIfInBounds_toArray, List.set_cons_zero, List.set_cons_succ]
  refine wpAnyH_take (i := 24) (v := ?_) rfl (by kernel_rfl) (by kernel_rfl) (by kernel_rfl) (fun _ _ _ h => h) (Or.inl ⟨by rfl, ?_⟩) hHeld ?_
  rotate_left
  · (intro w hSw; (try dsimp only at hSw); go_simp; try (with_reducible rfl))
  simp only [Act.put, List.getElem_toArray, List.getElem_cons_zero, List.getElem_cons_succ, List.setIfInBounds_toArray, List.set_cons_zero, List.set_cons_succ]
  refine wpAnyH_ready (rs := [13]) (by kernel_rfl) (by simp) ?_
  refine AllReadyH.cons rfl (fun K hK => ?_) AllReadyH.nil
  go_simp
  refine (CN0.out _).mono ?_
  rintro e w1 ⟨rfl, kc1⟩
  have k1 := k0.trans kc1 (fun _ h => .inl h)
  have bx1 := kc1.blk bx0 (fun h => h)
  have hr1 := hr0.same kc1
  have kx1 := k1.mono (G := fun b => b = g) (fun _ h => h.elim)
  go_wp2_with fail
  refine hK.out _ _ (SA.out _ kx1) (fun hHeld => ?_)
  clear hK K
  try simp only [Act.put, List.getElem_toArray, List.getElem_cons_zero, List.getElem_cons_succ, List.setIfInBounds_toArray, List.set_cons_zero, List.set_cons_succ]
  refine wpAnyH_ready (rs := [17]) (by kernel_rfl) (by simp) ?_
  refine AllReadyH.cons rfl (fun K hK => ?_) AllReadyH.nil
  go_simp
  refine (CN1.out _).mono ?_
  rintro e w2 ⟨rfl, kc2⟩
  have k2 := k1.trans kc2 (fun _ h => .inl h)
  have bx2 := kc2.blk bx1 (fun h => h)
  have hr2 := hr1.same kc2
  have kx2 := k2.mono (G := fun b => b = g) (fun _ h => h.elim)
  go_wp2_with fail
  refine hK.out _ _ (SA.out _ kx2) (fun hHeld => ?_)
  clear hK K
  try simp only [Act.put, List.getElem_toArray, List.getElem_cons_zero, List.getElem_cons_succ, List.setIfInBounds_toArray, List.set_cons_zero, List.set_cons_succ]
  refine wpAnyH_ready (rs := [21]) (by kernel_rfl) (by simp) ?_
  refine AllReadyH.cons rfl (fun K hK => ?_) AllReadyH.nil
  go_simp
  refine (CN2.out _).mono ?_
  rintro e w3 ⟨rfl, kc3⟩
  have k3 := k2.trans kc3 (fun _ h => .inl h)
  have bx3 := kc3.blk bx2 (fun h => h)
  have hr3 := hr2.same kc3
  have kx3 := k3.mono (G := fun b => b = g) (fun _ h => h.elim)
  go_wp2_with fail
  refine hK.out _ _ (SA.out _ kx3) (fun hHeld => ?_)
  clear hK K
  try simp only [Act.put, List.getElem_toArray, List.getElem_cons_zero, List.getElem_cons_succ, List.setIfInBounds_toArray, List.set_cons_zero, List.set_cons_succ]
  refine wpAnyH_ready (rs := [25]) (by kernel_rfl) (by simp) ?_
  refine AllReadyH.cons rfl (fun K hK => ?_) AllReadyH.nil
  go_simp
  refine (CN3.out _).mono ?_
  rintro e w4 ⟨rfl, kc4⟩
  have k4 := k3.trans kc4 (fun _ h => .inl h)
  have bx4 := kc4.blk bx3 (fun h => h)
  have hr4 := hr3.same kc4
  have kx4 := k4.mono (G := fun b => b = g) (fun _ h => h.elim)
  have z4 : ∀ i, w4.frozen? ⟨g, i, none⟩ = false := fun i => vrow_frozen hr4 hl i
  obtain ⟨u0, f0⟩ := vrow_cell hr4 hl 6 (by omega)
  obtain ⟨u1, f1⟩ := vrow_cell hr4 hl 7 (by omega)
  obtain ⟨u2, f2⟩ := vrow_cell hr4 hl 8 (by omega)
  obtain ⟨u3, f3⟩ := vrow_cell hr4 hl 9 (by omega)
  obtain ⟨u4, f4⟩ := vrow_cell hr4 hl 10 (by omega)
  go_wp2_with fail
  refine hK.out _ _ (SA.out _ kx4) (fun hHeld => ?_)
  clear hK K
  try simp only [Act.put, List.getElem_toArray, List.getElem_cons_zero, List.getElem_cons_succ, List.setIfInBounds_toArray, List.set_cons_zero, List.set_cons_succ]
  refine wpAnyH_take (i := 26) (v := ?_) rfl (by kernel_rfl) (by kernel_rfl) (by kernel_rfl) (fun _ _ _ h => h) (Or.inl ⟨by rfl, ?_⟩) hHeld ?_
  rotate_left
  · (intro w hSw; (try dsimp only at hSw); go_simp; try (with_reducible rfl))
  simp only [Act.put, List.getElem_toArray, List.getElem_cons_zero, List.getElem_cons_succ, List.setIfInBounds_toArray, List.set_cons_zero, List.set_cons_succ]
  refine wpAnyH_take (i := 27) (v := ?_) rfl (by kernel_rfl) (by kernel_rfl) (by kernel_rfl) (fun _ _ _ h => h) (Or.inl ⟨by rfl, ?_⟩) hHeld ?_
  rotate_left
  · (intro w hSw; (try dsimp only at hSw); go_simp; try (with_reducible rfl))
  simp only [Act.put, List.getElem_toArray, List.getElem_cons_zero, List.getElem_cons_succ, List.setIfInBounds_toArray, List.set_cons_zero, List.set_cons_succ]
  refine wpAnyH_take (i := 28) (v := ?_) rfl (by kernel_rfl) (by kernel_rfl) (by kernel_rfl) (fun _ _ _ h => h) (Or.inl ⟨by rfl, ?_⟩) hHeld ?_
  rotate_left
  · (intro w hSw; (try dsimp only at hSw); go_simp; try (with_reducible rfl))
  simp only [Act.put, List.getElem_toArray, List.getElem_cons_zero, List.getElem_cons_succ, List.setIfInBounds_toArray, List.set_cons_zero, List.set_cons_succ]
  refine wpAnyH_ready (rs := [29]) (by kernel_rfl) (by simp) ?_
  refine AllReadyH.cons rfl (fun K hK => ?_) AllReadyH.nil
  go_simp
  refine hK.out _ _ (SA.out _ (kept_puts (m := l.length * 15) kx4 [(6, .int .i64 (nv a0)), (7, .int .i64 (nv a1)), (8, .int .i64 (nv a2)), (9, .int .i64 (nv a3)), (10, .int .u64 0)])) (fun hHeld => ?_)
  clear hK K
  try simp only [Act.put, List.getElem_toArray, List.getElem_cons_zero, List.getElem_cons_succ, List.setIfInBounds_toArray, List.set_cons_zero, List.set_cons_succ]
  refine wpAnyH_done (by kernel_rfl) ?_ _
  refine NoPanic.normal ?_
  go_wp2_with fail
  go_end0
  obtain ⟨vl', hp, kp⟩ := RowsAt.put (v' := { v with c0 := nv a0, c1 := nv a1, c2 := nv a2, c3 := nv a3 }) [(6, .int .i64 (nv a0)), (7, .int .i64 (nv a1)), (8, .int .i64 (nv a2)), (9, .int .i64 (nv a3)), (10, .int .u64 0)] hr4 hl rfl rfl (fun _ _ => rfl)
  refine ⟨⟨_, rfl⟩, ⟨hxB, nm, qs, .slice (some ⟨g, 0, none⟩) (l.length + 1) cap, vl', ?_, ?_⟩, ?_⟩
  · rw [HDC.out]; exact kp.blk bx4 (Ne.symm hgx)
  · rw [HDC.out, hl, lastV_snoc]
    exact ⟨hp.n0, hp.n1, hp.n2, hp.n3, hp.n4⟩
  · exact (k4.mono (fun _ h => h.elim)).trans kp (fun x e => .inl (.inr (by omega)))

set_option maxHeartbeats 4000000 in
set_option maxRecDepth 100000 in
theorem clo_rules {w : World} {xb B : Nat} {d : SetD} (h : SetAt w 60 xb B d) (A : Option Addr) (cA : Nat) (a0 a1 a2 a3 : List UInt8) (hA : StrsAt w A [a0, a1, a2, a3]) (hAB : ∀ ad, A = some ad → ad.block < B ∧ ad.block ≠ xb) (hs : ∀ a ∈ [a0, a1, a2, a3], a.length ≤ 65536) (hn0 : isNumB a0 = true) (hn1 : isNumB a1 = true) (hn2 : isNumB a2 = true) (hn3 : isNumB a3 = true) (hne : d.vaults.isEmpty = false) :
    Calls Tryz.prog 76 #[.pointer (some ⟨xb, 0, none⟩), .slice A 4 cA] w fun e w' => (∃ v, e = .returned v) ∧ SetAt w' 60 xb B (decl d [114, 117, 108, 101, 115] [a0, a1, a2, a3]) ∧ Kept (fun k => k = xb ∨ B ≤ k) w w' := by
  obtain ⟨hxB, nm, qs, vs, vl, bx, hr⟩ := h
  obtain ⟨ab, ao, rfl, hab, _⟩ := hA.at_ (k := 0) (by simp)
  obtain ⟨haB, hax⟩ := hAB _ rfl
  simp only at haB hax
  have cx0 : w.cell? ⟨ab, ao, none⟩ = some (.string (ba a0)) := hA.cell_ (k := 0) (by simp)
  have cx1 : w.cell? ⟨ab, ao + 1, none⟩ = some (.string (ba a1)) := hA.cell_ (k := 1) (by simp)
  have cx2 : w.cell? ⟨ab, ao + 2, none⟩ = some (.string (ba a2)) := hA.cell_ (k := 2) (by simp)
  have cx3 : w.cell? ⟨ab, ao + 3, none⟩ = some (.string (ba a3)) := hA.cell_ (k := 3) (by simp)
  have CN0 := Lib.hid (fun W : World => (show Calls Tryz.prog 46 #[.string (ba a0)] W fun e W' => e = .returned (.int .i64 (nv a0)) ∧ Kept NoF W W' from by
    have := number46_any (ba a0) W (by have := hs a0 (by simp); rw [ba_size]; omega) (by rw [ba_toList]; exact hn0)
    rw [ba_toList] at this
    exact this.mono (fun e W' h => ⟨h.1, Kept.of_below h.2⟩)))
  have CN1 := Lib.hid (fun W : World => (show Calls Tryz.prog 46 #[.string (ba a1)] W fun e W' => e = .returned (.int .i64 (nv a1)) ∧ Kept NoF W W' from by
    have := number46_any (ba a1) W (by have := hs a1 (by simp); rw [ba_size]; omega) (by rw [ba_toList]; exact hn1)
    rw [ba_toList] at this
    exact this.mono (fun e W' h => ⟨h.1, Kept.of_below h.2⟩)))
  have CN2 := Lib.hid (fun W : World => (show Calls Tryz.prog 46 #[.string (ba a2)] W fun e W' => e = .returned (.int .i64 (nv a2)) ∧ Kept NoF W W' from by
    have := number46_any (ba a2) W (by have := hs a2 (by simp); rw [ba_size]; omega) (by rw [ba_toList]; exact hn2)
    rw [ba_toList] at this
    exact this.mono (fun e W' h => ⟨h.1, Kept.of_below h.2⟩)))
  have CN3 := Lib.hid (fun W : World => (show Calls Tryz.prog 46 #[.string (ba a3)] W fun e W' => e = .returned (.int .i64 (nv a3)) ∧ Kept NoF W W' from by
    have := number46_any (ba a3) W (by have := hs a3 (by simp); rw [ba_size]; omega) (by rw [ba_toList]; exact hn3)
    rw [ba_toList] at this
    exact this.mono (fun e W' h => ⟨h.1, Kept.of_below h.2⟩)))
  have HDC := Lib.hid (decl_rules d a0 a1 a2 a3)
  clear hAB hs hn0 hn1 hn2 hn3
  obtain ⟨l, v, hl⟩ := snoc_of hne
  obtain ⟨g, cap, rfl, hgB, hgx⟩ := vrow_form hr hl hxB
  have hga : ab ≠ g := by omega
  have hi : IntKind.i64.wrap (l.length : Int) = (l.length : Int) := by have := vrow_small hr hl; exact wrap_len this
  have hi1 : (l.length : Int) < (l.length : Int) + 1 := by omega
  have SA := Lib.hid (fun W (k : Kept (fun b => b = g) w W) => (⟨k.cell ((bx.cell 2).trans rfl) (Ne.symm hgx), k.cell cx0 hga, k.cell cx1 hga, k.cell cx2 hga, k.cell cx3 hga⟩ : (fun (w' : World) => w'.cell? ⟨xb, 2, none⟩ = some (.slice (some ⟨g, 0, none⟩) (l.length + 1) cap) ∧ w'.cell? ⟨ab, ao, none⟩ = some (.string (ba a0)) ∧ w'.cell? ⟨ab, ao + 1, none⟩ = some (.string (ba a1)) ∧ w'.cell? ⟨ab, ao + 2, none⟩ = some (.string (ba a2)) ∧ w'.cell? ⟨ab, ao + 3, none⟩ = some (.string (ba a3))) W))
  have k0 := (Kept.refl NoF w).drew
  have bx0 := k0.blk bx (fun h => h)
  have hr0 := hr.same k0
  have kx0 := k0.mono (G := fun b => b = g) (fun _ h => h.elim)
  go_enter Tryz.func76, Tryz.ntmps76
  refine wp_region_noPanic ?_
  refine wp_region_held_drew (S := (fun (w' : World) => w'.cell? ⟨xb, 2, none⟩ = some (.slice (some ⟨g, 0, none⟩) (l.length + 1) cap) ∧ w'.cell? ⟨ab, ao, none⟩ = some (.string (ba a0)) ∧ w'.cell? ⟨ab, ao + 1, none⟩ = some (.string (ba a1)) ∧ w'.cell? ⟨ab, ao + 2, none⟩ = some (.string (ba a2)) ∧ w'.cell? ⟨ab, ao + 3, none⟩ = some (.string (ba a3)))) (by kernel_rfl) ?_ (fun hHeld => ?_)
  · exact SA.out _ kx0
  refine wpAnyH_take (i := 0) (v := ?_) rfl (by kernel_rfl) (by kernel_rfl) (by kernel_rfl) (fun _ _ _ h => h) (Or.inl ⟨by rfl, ?_⟩) hHeld ?_
  rotate_left
  · (intro w hSw; (try dsimp only at hSw); go_simp; try (with_reducible rfl))
  simp only [Act.put, List.getElem_toArray, List.getElem_cons_zero, List.setIfInBounds_toArray, List.set_cons_zero, List.set_cons_succ]
  refine wpAnyH_take (i := 1) (v := ?_) rfl (by kernel_rfl) (by kernel_rfl) (by kernel_rfl) (fun _ _ _ h => h) (Or.inl ⟨by rfl, ?_⟩) hHeld ?_
  rotate_left
  · (intro w hSw; (try dsimp only at hSw); go_simp; try (with_reducible rfl))
  simp only [Act.put, List.getElem_toArray, List.getElem_cons_zero, List.getElem_cons_succ, List.setIfInBounds_toArray, List.set_cons_zero, List.set_cons_succ]
  refine wpAnyH_take (i := 2) (v := ?_) rfl (by kernel_rfl) (by kernel_rfl) (by kernel_rfl) (fun _ _ _ h => h) (Or.inl ⟨by rfl, ?_⟩) hHeld ?_
  rotate_left
  · (intro w hSw; (try dsimp only at hSw); go_simp; try (with_reducible rfl))
  simp only [Act.put, List.getElem_toArray, List.getElem_cons_zero, List.getElem_cons_succ, List.setIfInBounds_toArray, List.set_cons_zero, List.set_cons_succ]
  refine wpAnyH_take (i := 3) (v := ?_) rfl (by kernel_rfl) (by kernel_rfl) (by kernel_rfl) (fun _ _ _ h => h) (Or.inl ⟨by rfl, ?_⟩) hHeld ?_
  rotate_left
  · (intro w hSw; (try dsimp only at hSw); go_simp; try (with_reducible rfl))
  simp only [Act.put, List.getElem_toArray, List.getElem_cons_zero, List.getElem_cons_succ, List.setIfInBounds_toArray, List.set_cons_zero, List.set_cons_succ]
  refine wpAnyH_take (i := 4) (v := ?_) rfl (by kernel_rfl) (by kernel_rfl) (by kernel_rfl) (fun _ _ _ h => h) (Or.inl ⟨by rfl, ?_⟩) hHeld ?_
  rotate_left
  · (intro w hSw; (try dsimp only at hSw); go_simp; try (with_reducible rfl))
  simp only [Act.put, List.getElem_toArray, List.getElem_cons_zero, List.getElem_cons_succ, List.setIfInBounds_toArray, List.set_cons_zero, List.set_cons_succ]
  refine wpAnyH_take (i := 5) (v := ?_) rfl (by kernel_rfl) (by kernel_rfl) (by kernel_rfl) (fun _ _ _ h => h) (Or.inl ⟨by rfl, ?_⟩) hHeld ?_
  rotate_left
  · (intro w hSw; (try dsimp only at hSw); go_simp; try (with_reducible rfl))
  simp only [Act.put, List.getElem_toArray, List.getElem_cons_zero, List.getElem_cons_succ, List.setIfInBounds_toArray, List.set_cons_zero, List.set_cons_succ]
  refine wpAnyH_take (i := 6) (v := ?_) rfl (by kernel_rfl) (by kernel_rfl) (by kernel_rfl) (fun _ _ _ h => h) (Or.inl ⟨by rfl, ?_⟩) hHeld ?_
  rotate_left
  · (intro w hSw; (try dsimp only at hSw); go_simp; try (with_reducible rfl))
  simp only [Act.put, List.getElem_toArray, List.getElem_cons_zero, List.getElem_cons_succ, List.setIfInBounds_toArray, List.set_cons_zero, List.set_cons_succ]
  refine wpAnyH_take (i := 7) (v := ?_) rfl (by kernel_rfl) (by kernel_rfl) (by kernel_rfl) (fun _ _ _ h => h) (Or.inl ⟨by rfl, ?_⟩) hHeld ?_
  rotate_left
  · (intro w hSw; (try dsimp only at hSw); go_simp; try (with_reducible rfl))
  simp only [Act.put, List.getElem_toArray, List.getElem_cons_zero, List.getElem_cons_succ, List.setIfInBounds_toArray, List.set_cons_zero, List.set_cons_succ]
  refine wpAnyH_take (i := 8) (v := ?_) rfl (by kernel_rfl) (by kernel_rfl) (by kernel_rfl) (fun _ _ _ h => h) (Or.inl ⟨by rfl, ?_⟩) hHeld ?_
  rotate_left
  · (intro w hSw; (try dsimp only at hSw); go_simp; try (with_reducible rfl))
  simp only [Act.put, List.getElem_toArray, List.getElem_cons_zero, List.getElem_cons_succ, List.setIfInBounds_toArray, List.set_cons_zero, List.set_cons_succ]
  refine wpAnyH_take (i := 9) (v := ?_) rfl (by kernel_rfl) (by kernel_rfl) (by kernel_rfl) (fun _ _ _ h => h) (Or.inl ⟨by rfl, ?_⟩) hHeld ?_
  rotate_left
  · (intro w hSw; (try dsimp only at hSw); go_simp; try (with_reducible rfl))
  simp only [Act.put, List.getElem_toArray, List.getElem_cons_zero, List.getElem_cons_succ, List.setIfInBounds_toArray, List.set_cons_zero, List.set_cons_succ]
  refine wpAnyH_take (i := 10) (v := ?_) rfl (by kernel_rfl) (by kernel_rfl) (by kernel_rfl) (fun _ _ _ h => h) (Or.inl ⟨by rfl, ?_⟩) hHeld ?_
  rotate_left
  · (intro w hSw; (try dsimp only at hSw); go_simp; try (with_reducible rfl))
  simp only [Act.put, List.getElem_toArray, List.getElem_cons_zero, List.getElem_cons_succ, List.setIfInBounds_toArray, List.set_cons_zero, List.set_cons_succ]
  refine wpAnyH_take (i := 11) (v := ?_) rfl (by kernel_rfl) (by kernel_rfl) (by kernel_rfl) (fun _ _ _ h => h) (Or.inl ⟨by rfl, ?_⟩) hHeld ?_
  rotate_left
  · (intro w hSw; (try dsimp only at hSw); go_simp; try (with_reducible rfl))
  simp only [Act.put, List.getElem_toArray, List.getElem_cons_zero, List.getElem_cons_succ, List.setIfInBounds_toArray, List.set_cons_zero, List.set_cons_succ]
  refine wpAnyH_take (i := 12) (v := ?_) rfl (by kernel_rfl) (by kernel_rfl) (by kernel_rfl) (fun _ _ _ h => h) (Or.inl ⟨by rfl, ?_⟩) hHeld ?_
  rotate_left
  · (intro w hSw; (try dsimp only at hSw); go_simp; try (with_reducible rfl))
  simp only [Act.put, List.getElem_toArray, List.getElem_cons_zero, List.getElem_cons_succ, List.setIfInBounds_toArray, List.set_cons_zero, List.set_cons_succ]
  refine wpAnyH_take (i := 14) (v := ?_) rfl (by kernel_rfl) (by kernel_rfl) (by kernel_rfl) (fun _ _ _ h => h) (Or.inl ⟨by rfl, ?_⟩) hHeld ?_
  rotate_left
  · (intro w hSw; (try dsimp only at hSw); go_simp; try (with_reducible rfl))
  simp only [Act.put, List.getElem_toArray, List.getElem_cons_zero, List.getElem_cons_succ, List.setIfInBounds_toArray, List.set_cons_zero, List.set_cons_succ]
  refine wpAnyH_take (i := 15) (v := ?_) rfl (by kernel_rfl) (by kernel_rfl) (by kernel_rfl) (fun _ _ _ h => h) (Or.inl ⟨by rfl, ?_⟩) hHeld ?_
  rotate_left
  · (intro w hSw; (try dsimp only at hSw); go_simp; try (with_reducible rfl))
  simp only [Act.put, List.getElem_toArray, List.getElem_cons_zero, List.getElem_cons_succ, List.setIfInBounds_toArray, List.set_cons_zero, List.set_cons_succ]
  refine wpAnyH_take (i := 16) (v := ?_) rfl (by kernel_rfl) (by kernel_rfl) (by kernel_rfl) (fun _ _ _ h => h) (Or.inl ⟨by rfl, ?_⟩) hHeld ?_
  rotate_left
  · (intro w hSw; (try dsimp only at hSw); go_simp; try (with_reducible rfl))
  simp only [Act.put, List.getElem_toArray, List.getElem_cons_zero, List.getElem_cons_succ, List.setIfInBounds_toArray, List.set_cons_zero, List.set_cons_succ]
  refine wpAnyH_take (i := 18) (v := ?_) rfl (by kernel_rfl) (by kernel_rfl) (by kernel_rfl) (fun _ _ _ h => h) (Or.inl ⟨by rfl, ?_⟩) hHeld ?_
  rotate_left
  · (intro w hSw; (try dsimp only at hSw); go_simp; try (with_reducible rfl))
  simp only [Act.put, List.getElem_toArray, List.getElem_cons_zero, List.getElem_cons_succ, List.setIfInBounds_toArray, List.set_cons_zero, List.set_cons_succ]
  refine wpAnyH_take (i := 19) (v := ?_) rfl (by kernel_rfl) (by kernel_rfl) (by kernel_rfl) (fun _ _ _ h => h) (Or.inl ⟨by rfl, ?_⟩) hHeld ?_
  rotate_left
  · (intro w hSw; (try dsimp only at hSw); go_simp; try (with_reducible rfl))
  simp only [Act.put, List.getElem_toArray, List.getElem_cons_zero, List.getElem_cons_succ, List.setIfInBounds_toArray, List.set_cons_zero, List.set_cons_succ]
  refine wpAnyH_take (i := 20) (v := ?_) rfl (by kernel_rfl) (by kernel_rfl) (by kernel_rfl) (fun _ _ _ h => h) (Or.inl ⟨by rfl, ?_⟩) hHeld ?_
  rotate_left
  · (intro w hSw; (try dsimp only at hSw); go_simp; try (with_reducible rfl))
  simp only [Act.put, List.getElem_toArray, List.getElem_cons_zero, List.getElem_cons_succ, List.setIfInBounds_toArray, List.set_cons_zero, List.set_cons_succ]
  refine wpAnyH_take (i := 22) (v := ?_) rfl (by kernel_rfl) (by kernel_rfl) (by kernel_rfl) (fun _ _ _ h => h) (Or.inl ⟨by rfl, ?_⟩) hHeld ?_
  rotate_left
  · (intro w hSw; (try dsimp only at hSw); go_simp; try (with_reducible rfl))
  simp only [Act.put, List.getElem_toArray, List.getElem_cons_zero, List.getElem_cons_succ, List.setIfInBounds_toArray, List.set_cons_zero, List.set_cons_succ]
  refine wpAnyH_take (i := 23) (v := ?_) rfl (by kernel_rfl) (by kernel_rfl) (by kernel_rfl) (fun _ _ _ h => h) (Or.inl ⟨by rfl, ?_⟩) hHeld ?_
  rotate_left
  · (intro w hSw; (try dsimp only at hSw); go_simp; try (with_reducible rfl))
  simp only [Act.put, List.getElem_toArray, List.getElem_cons_zero, List.getElem_cons_succ, List.setIfInBounds_toArray, List.set_cons_zero, List.set_cons_succ]
  refine wpAnyH_take (i := 24) (v := ?_) rfl (by kernel_rfl) (by kernel_rfl) (by kernel_rfl) (fun _ _ _ h => h) (Or.inl ⟨by rfl, ?_⟩) hHeld ?_
  rotate_left
  · (intro w hSw; (try dsimp only at hSw); go_simp; try (with_reducible rfl))
  simp only [Act.put, List.getElem_toArray, List.getElem_cons_zero, List.getElem_cons_succ, List.setIfInBounds_toArray, List.set_cons_zero, List.set_cons_succ]
  refine wpAnyH_ready (rs := [13]) (by kernel_rfl) (by simp) ?_
  refine AllReadyH.cons rfl (fun K hK => ?_) AllReadyH.nil
  go_simp
  refine (CN0.out _).mono ?_
  rintro e w1 ⟨rfl, kc1⟩
  have k1 := k0.trans kc1 (fun _ h => .inl h)
  have bx1 := kc1.blk bx0 (fun h => h)
  have hr1 := hr0.same kc1
  have kx1 := k1.mono (G := fun b => b = g) (fun _ h => h.elim)
  go_wp2_with fail
  refine hK.out _ _ (SA.out _ kx1) (fun hHeld => ?_)
  clear hK K
  try simp only [Act.put, List.getElem_toArray, List.getElem_cons_zero, List.getElem_cons_succ, List.setIfInBounds_toArray, List.set_cons_zero, List.set_cons_succ]
  refine wpAnyH_ready (rs := [17]) (by kernel_rfl) (by simp) ?_
  refine AllReadyH.cons rfl (fun K hK => ?_) AllReadyH.nil
  go_simp
  refine (CN1.out _).mono ?_
  rintro e w2 ⟨rfl, kc2⟩
  have k2 := k1.trans kc2 (fun _ h => .inl h)
  have bx2 := kc2.blk bx1 (fun h => h)
  have hr2 := hr1.same kc2
  have kx2 := k2.mono (G := fun b => b = g) (fun _ h => h.elim)
  go_wp2_with fail
  refine hK.out _ _ (SA.out _ kx2) (fun hHeld => ?_)
  clear hK K
  try simp only [Act.put, List.getElem_toArray, List.getElem_cons_zero, List.getElem_cons_succ, List.setIfInBounds_toArray, List.set_cons_zero, List.set_cons_succ]
  refine wpAnyH_ready (rs := [21]) (by kernel_rfl) (by simp) ?_
  refine AllReadyH.cons rfl (fun K hK => ?_) AllReadyH.nil
  go_simp
  refine (CN2.out _).mono ?_
  rintro e w3 ⟨rfl, kc3⟩
  have k3 := k2.trans kc3 (fun _ h => .inl h)
  have bx3 := kc3.blk bx2 (fun h => h)
  have hr3 := hr2.same kc3
  have kx3 := k3.mono (G := fun b => b = g) (fun _ h => h.elim)
  go_wp2_with fail
  refine hK.out _ _ (SA.out _ kx3) (fun hHeld => ?_)
  clear hK K
  try simp only [Act.put, List.getElem_toArray, List.getElem_cons_zero, List.getElem_cons_succ, List.setIfInBounds_toArray, List.set_cons_zero, List.set_cons_succ]
  refine wpAnyH_ready (rs := [25]) (by kernel_rfl) (by simp) ?_
  refine AllReadyH.cons rfl (fun K hK => ?_) AllReadyH.nil
  go_simp
  refine (CN3.out _).mono ?_
  rintro e w4 ⟨rfl, kc4⟩
  have k4 := k3.trans kc4 (fun _ h => .inl h)
  have bx4 := kc4.blk bx3 (fun h => h)
  have hr4 := hr3.same kc4
  have kx4 := k4.mono (G := fun b => b = g) (fun _ h => h.elim)
  have z4 : ∀ i, w4.frozen? ⟨g, i, none⟩ = false := fun i => vrow_frozen hr4 hl i
  obtain ⟨u0, f0⟩ := vrow_cell hr4 hl 11 (by omega)
  obtain ⟨u1, f1⟩ := vrow_cell hr4 hl 12 (by omega)
  obtain ⟨u2, f2⟩ := vrow_cell hr4 hl 13 (by omega)
  obtain ⟨u3, f3⟩ := vrow_cell hr4 hl 14 (by omega)
  go_wp2_with fail
  refine hK.out _ _ (SA.out _ kx4) (fun hHeld => ?_)
  clear hK K
  try simp only [Act.put, List.getElem_toArray, List.getElem_cons_zero, List.getElem_cons_succ, List.setIfInBounds_toArray, List.set_cons_zero, List.set_cons_succ]
  refine wpAnyH_take (i := 26) (v := ?_) rfl (by kernel_rfl) (by kernel_rfl) (by kernel_rfl) (fun _ _ _ h => h) (Or.inl ⟨by rfl, ?_⟩) hHeld ?_
  rotate_left
  · (intro w hSw; (try dsimp only at hSw); go_simp; try (with_reducible rfl))
  simp only [Act.put, List.getElem_toArray, List.getElem_cons_zero, List.getElem_cons_succ, List.setIfInBounds_toArray, List.set_cons_zero, List.set_cons_succ]
  refine wpAnyH_take (i := 27) (v := ?_) rfl (by kernel_rfl) (by kernel_rfl) (by kernel_rfl) (fun _ _ _ h => h) (Or.inl ⟨by rfl, ?_⟩) hHeld ?_
  rotate_left
  · (intro w hSw; (try dsimp only at hSw); go_simp; try (with_reducible rfl))
  simp only [Act.put, List.getElem_toArray, List.getElem_cons_zero, List.getElem_cons_succ, List.setIfInBounds_toArray, List.set_cons_zero, List.set_cons_succ]
  refine wpAnyH_take (i := 28) (v := ?_) rfl (by kernel_rfl) (by kernel_rfl) (by kernel_rfl) (fun _ _ _ h => h) (Or.inl ⟨by rfl, ?_⟩) hHeld ?_
  rotate_left
  · (intro w hSw; (try dsimp only at hSw); go_simp; try (with_reducible rfl))
  simp only [Act.put, List.getElem_toArray, List.getElem_cons_zero, List.getElem_cons_succ, List.setIfInBounds_toArray, List.set_cons_zero, List.set_cons_succ]
  refine wpAnyH_ready (rs := [29]) (by kernel_rfl) (by simp) ?_
  refine AllReadyH.cons rfl (fun K hK => ?_) AllReadyH.nil
  go_simp
  refine hK.out _ _ (SA.out _ (kept_puts (m := l.length * 15) kx4 [(11, .int .i64 (nv a0)), (12, .int .i64 (nv a1)), (13, .int .i64 (nv a2)), (14, .int .i64 (nv a3))])) (fun hHeld => ?_)
  clear hK K
  try simp only [Act.put, List.getElem_toArray, List.getElem_cons_zero, List.getElem_cons_succ, List.setIfInBounds_toArray, List.set_cons_zero, List.set_cons_succ]
  refine wpAnyH_done (by kernel_rfl) ?_ _
  refine NoPanic.normal ?_
  go_wp2_with fail
  go_end0
  obtain ⟨vl', hp, kp⟩ := RowsAt.put (v' := { v with r0 := nv a0, r1 := nv a1, r2 := nv a2, r3 := nv a3 }) [(11, .int .i64 (nv a0)), (12, .int .i64 (nv a1)), (13, .int .i64 (nv a2)), (14, .int .i64 (nv a3))] hr4 hl rfl rfl (fun _ _ => rfl)
  refine ⟨⟨_, rfl⟩, ⟨hxB, nm, qs, .slice (some ⟨g, 0, none⟩) (l.length + 1) cap, vl', ?_, ?_⟩, ?_⟩
  · rw [HDC.out]; exact kp.blk bx4 (Ne.symm hgx)
  · rw [HDC.out, hl, lastV_snoc]
    exact ⟨hp.n0, hp.n1, hp.n2, hp.n3, hp.n4⟩
  · exact (k4.mono (fun _ h => h.elim)).trans kp (fun x e => .inl (.inr (by omega)))

set_option maxHeartbeats 4000000 in
set_option maxRecDepth 100000 in
theorem clo_device {w : World} {xb B : Nat} {d : SetD} (h : SetAt w 60 xb B d) (A : Option Addr) (cA : Nat) (a0 a1 : List UInt8) (hA : StrsAt w A [a0, a1]) (hBw : B ≤ w.heap.size) (hAB : ∀ ad, A = some ad → ad.block < B ∧ ad.block ≠ xb) (hs : ∀ a ∈ [a0, a1], a.length ≤ 65536) (hn1 : isNumB a1 = true) (hN : d.names.length ≤ 100000) (hQ : d.quotas.length ≤ 100000) :
    Calls Tryz.prog 73 #[.pointer (some ⟨xb, 0, none⟩), .slice A 2 cA] w fun e w' => (∃ v, e = .returned v) ∧ SetAt w' 60 xb B (decl d [100, 101, 118, 105, 99, 101] [a0, a1]) ∧ Kept (fun k => k = xb ∨ B ≤ k) w w' := by
  obtain ⟨hxB, nm, qs, vs, vl, bx, hr⟩ := h
  obtain ⟨ab, ao, rfl, hab, _⟩ := hA.at_ (k := 0) (by simp)
  obtain ⟨haB, hax⟩ := hAB _ rfl
  simp only at haB hax
  have cx0 : w.cell? ⟨ab, ao, none⟩ = some (.string (ba a0)) := hA.cell_ (k := 0) (by simp)
  have cx1 : w.cell? ⟨ab, ao + 1, none⟩ = some (.string (ba a1)) := hA.cell_ (k := 1) (by simp)
  have CN1 := Lib.hid (fun W : World => (show Calls Tryz.prog 46 #[.string (ba a1)] W fun e W' => e = .returned (.int .i64 (nv a1)) ∧ Kept NoF W W' from by
    have := number46_any (ba a1) W (by have := hs a1 (by simp); rw [ba_size]; omega) (by rw [ba_toList]; exact hn1)
    rw [ba_toList] at this
    exact this.mono (fun e W' h => ⟨h.1, Kept.of_below h.2⟩)))
  have HDC := Lib.hid (decl_device d a0 a1)
  clear hAB hs hn1
  obtain ⟨U, cu, rfl, _, _⟩ := own_form hr.n1
  obtain ⟨i0, hi0, hz0, hz1, hz2⟩ := info_parts info9
  obtain ⟨j0, hj0, hy0, hy1, hy2⟩ := info_parts info3
  have k0 := (Kept.refl NoF w).drew
  have bx0 := k0.blk bx (fun h => h)
  have hr0 := hr.same k0
  have cx10 := k0.cell cx1 (fun h => h)
  have hxW := bx.lt
  have hBW : B ≤ w.heap.size ∨ True := .inr trivial
  clear hBW
  go_enter Tryz.func73, Tryz.ntmps73
  go_upto_region 0 with fail
  refine wp_region_noPanic ?_
  refine wp_region_until (by kernel_rfl) 12 (fun (w' : World) => w'.cell? ⟨xb, 0, none⟩ = some (.slice U d.names.length cu) ∧ w'.cell? ⟨ab, ao, none⟩ = some (.string (ba a0))) ⟨(bx.cell 0).trans rfl, cx0⟩ (fun hHeld => ?_)
  generalize w.drew = W0 at hHeld bx0 hr0 k0 cx10 ⊢
  refine wpAnyU_take (i := 0) (v := ?_) rfl (by kernel_rfl) (by kernel_rfl) (by kernel_rfl) (by kernel_rfl) (by kernel_rfl) (fun _ _ _ h => h) (Or.inl ⟨by rfl, ?_⟩) hHeld ?_
  rotate_left
  · (intro w hSw; (try dsimp only at hSw); go_simp; try (with_reducible rfl))
  simp only [Act.put, List.getElem_toArray, List.getElem_cons_zero, List.setIfInBounds_toArray, List.set_cons_zero, List.set_cons_succ]
  refine wpAnyU_take (i := 1) (v := ?_) rfl (by kernel_rfl) (by kernel_rfl) (by kernel_rfl) (by kernel_rfl) (by kernel_rfl) (fun _ _ _ h => h) (Or.inl ⟨by rfl, ?_⟩) hHeld ?_
  rotate_left
  · (intro w hSw; (try dsimp only at hSw); go_simp; try (with_reducible rfl))
  simp only [Act.put, List.getElem_toArray, List.getElem_cons_zero, List.getElem_cons_succ, List.setIfInBounds_toArray, List.set_cons_zero, List.set_cons_succ]
  refine wpAnyU_take (i := 2) (v := ?_) rfl (by kernel_rfl) (by kernel_rfl) (by kernel_rfl) (by kernel_rfl) (by kernel_rfl) (fun _ _ _ h => h) (Or.inl ⟨by rfl, ?_⟩) hHeld ?_
  rotate_left
  · (intro w hSw; (try dsimp only at hSw); go_simp; try (with_reducible rfl))
  simp only [Act.put, List.getElem_toArray, List.getElem_cons_zero, List.getElem_cons_succ, List.setIfInBounds_toArray, List.set_cons_zero, List.set_cons_succ]
  refine wpAnyU_take (i := 3) (v := ?_) rfl (by kernel_rfl) (by kernel_rfl) (by kernel_rfl) (by kernel_rfl) (by kernel_rfl) (fun _ _ _ h => h) (Or.inl ⟨by rfl, ?_⟩) hHeld ?_
  rotate_left
  · (intro w hSw; (try dsimp only at hSw); go_simp; try (with_reducible rfl))
  simp only [Act.put, List.getElem_toArray, List.getElem_cons_zero, List.getElem_cons_succ, List.setIfInBounds_toArray, List.set_cons_zero, List.set_cons_succ]
  refine wpAnyU_take (i := 4) (v := ?_) rfl (by kernel_rfl) (by kernel_rfl) (by kernel_rfl) (by kernel_rfl) (by kernel_rfl) (fun _ _ _ h => h) (Or.inl ⟨by rfl, ?_⟩) hHeld ?_
  rotate_left
  · (intro w hSw; (try dsimp only at hSw); go_simp; try (with_reducible rfl))
  simp only [Act.put, List.getElem_toArray, List.getElem_cons_zero, List.getElem_cons_succ, List.setIfInBounds_toArray, List.set_cons_zero, List.set_cons_succ]
  refine wpAnyU_take (i := 5) (v := ?_) rfl (by kernel_rfl) (by kernel_rfl) (by kernel_rfl) (by kernel_rfl) (by kernel_rfl) (fun _ _ _ h => h) (Or.inl ⟨by rfl, ?_⟩) hHeld ?_
  rotate_left
  · (intro w hSw; (try dsimp only at hSw); go_simp; try (with_reducible rfl))
  simp only [Act.put, List.getElem_toArray, List.getElem_cons_zero, List.getElem_cons_succ, List.setIfInBounds_toArray, List.set_cons_zero, List.set_cons_succ]
  refine wpAnyU_take (i := 6) (v := ?_) rfl (by kernel_rfl) (by kernel_rfl) (by kernel_rfl) (by kernel_rfl) (by kernel_rfl) (fun _ _ _ h => h) (Or.inl ⟨by rfl, ?_⟩) hHeld ?_
  rotate_left
  · (intro w hSw; (try dsimp only at hSw); go_simp; try (with_reducible rfl))
  simp only [Act.put, List.getElem_toArray, List.getElem_cons_zero, List.getElem_cons_succ, List.setIfInBounds_toArray, List.set_cons_zero, List.set_cons_succ]
  refine wpAnyU_take (i := 7) (v := ?_) rfl (by kernel_rfl) (by kernel_rfl) (by kernel_rfl) (by kernel_rfl) (by kernel_rfl) (fun _ _ _ h => h) (Or.inl ⟨by rfl, ?_⟩) hHeld ?_
  rotate_left
  · (intro w hSw; (try dsimp only at hSw); go_simp; try (with_reducible rfl))
  simp only [Act.put, List.getElem_toArray, List.getElem_cons_zero, List.getElem_cons_succ, List.setIfInBounds_toArray, List.set_cons_zero, List.set_cons_succ]
  refine wpAnyU_alone (i := 8) (by kernel_rfl) rfl (fun K hK => ?_)
  go_simp
  have bz := Blk.new W0 9 #[.string (ba a0)]
  have kz := (Kept.refl NoF W0).alloc (.cells #[.string (ba a0)] 9)
  generalize W0.alloc (.cells #[.string (ba a0)] 9) = W1 at bz kz ⊢
  refine hK.out _ _ (fun _ => (⟨kz.cell hHeld.1 (fun h => h), kz.cell hHeld.2 (fun h => h)⟩ : (fun (w' : World) => w'.cell? ⟨xb, 0, none⟩ = some (.slice U d.names.length cu) ∧ w'.cell? ⟨ab, ao, none⟩ = some (.string (ba a0))) W1)) ?_
  clear hK K
  try simp only [Act.put, List.getElem_toArray, List.getElem_cons_zero, List.getElem_cons_succ, List.setIfInBounds_toArray, List.set_cons_zero, List.set_cons_succ]
  have bx1 := kz.blk bx0 (fun h => h)
  have hr1 := hr0.same kz
  have k1 := k0.trans kz (fun _ h => .inl h)
  have cx11 := kz.cell cx10 (fun h => h)
  have hB1 := Nat.le_trans hBw k1.size
  generalize W0.heap.size = zb at bz ⊢
  refine wpAnyU_alone (i := 9) (by kernel_rfl) rfl (fun K hK => ?_)
  refine step_append_any _ rfl _ _ 37 rfl B 9 i0 (.string ⟨#[]⟩) 1 16 Tryz.underlying37 hi0 hz0 hz1 hz2 rfl (by omega) _ d.names.length (strs d.names) rfl hr1.n1 W1.heap.size (some ⟨zb, 0, none⟩) 1 1 [.string (ba a0)] rfl ?_ ?_ ?_ ?_ hB1 ?_
  · refine ⟨by simp, fun _ => ⟨_, rfl, bz.lt, fun j u hu => ?_⟩⟩
    rw [Addr.add_lit, bz.cell, Nat.zero_add, ← Array.getElem?_toList]
    exact hu
  · intro u hu; simp at hu; subst hu; rfl
  · unfold maxLen; omega
  · omega
  intro v' W2 own2 grw at2
  have hr2 := hr1.name own2 grw at2
  have k12 : Kept (fun b => B ≤ b) W1 W2 := (Kept.of_grown grw).mono (fun b e => (hr1.n1.lt b e).1)
  have bx2 := k12.blk bx1 (by show ¬ B ≤ xb; omega)
  have cx12 := k12.cell cx11 (by show ¬ B ≤ ab; omega)
  have k2 : Kept (fun k => k = xb ∨ B ≤ k) w W2 := (k1.mono (fun _ h => h.elim)).trans k12 (fun x h => .inl (.inr h))
  obtain ⟨g', cap', rfl⟩ := ownsRow_succ own2
  have fz := bx2.frozen 0
  have cc0 := (bx2.cell 0).trans (show _ = some (.slice U d.names.length cu) from rfl)
  have hS2 : (fun (w' : World) => w'.cell? ⟨xb, 0, none⟩ = some (.slice U d.names.length cu) ∧ w'.cell? ⟨ab, ao, none⟩ = some (.string (ba a0))) W2 := ⟨cc0, k12.cell (k1.cell cx0 (fun h => h)) (by show ¬ B ≤ ab; omega)⟩
  refine hK.out _ _ (fun _ => hS2) ?_
  clear hK K
  try simp only [Act.put, List.getElem_toArray, List.getElem_cons_zero, List.getElem_cons_succ, List.setIfInBounds_toArray, List.set_cons_zero, List.set_cons_succ]
  refine wpAnyU_alone (i := 10) (by kernel_rfl) rfl (fun K hK => ?_)
  go_simp
  refine hK.out _ _ (fun _ => hS2) ?_
  clear hK K
  try simp only [Act.put, List.getElem_toArray, List.getElem_cons_zero, List.getElem_cons_succ, List.setIfInBounds_toArray, List.set_cons_zero, List.set_cons_succ]
  refine wpAnyU_alone (i := 11) (by kernel_rfl) rfl (fun K hK => ?_)
  go_simp
  refine hK.out _ _ (fun _ => hS2) ?_
  clear hK K
  try simp only [Act.put, List.getElem_toArray, List.getElem_cons_zero, List.getElem_cons_succ, List.setIfInBounds_toArray, List.set_cons_zero, List.set_cons_succ]
  refine wpAnyU_alone (i := 12) (by kernel_rfl) rfl (fun K hK => ?_)
  go_simp
  refine hK.out _ _ (fun h => by cases h) ?_
  clear hK K
  try simp only [Act.put, List.getElem_toArray, List.getElem_cons_zero, List.getElem_cons_succ, List.setIfInBounds_toArray, List.set_cons_zero, List.set_cons_succ]
  refine wpAnyU_done (by kernel_rfl) ?_ _
  refine NoPanic.normal ?_
  have bx3 := bx2.set_ 0 (.slice (some ⟨g', 0, none⟩) (d.names.length + 1) cap')
  have k23 := (Kept.refl (fun b => b = xb) W2).setCell (p := ⟨xb, 0, none⟩) (.inl rfl) (.slice (some ⟨g', 0, none⟩) (d.names.length + 1) cap')
  have hr3 := hr2.kept k23 (fun b e => by omega)
  have k3 := k2.trans k23 (fun x e => .inl (.inl e))
  have cx13 := k23.cell cx12 hax
  clear hHeld hS2 fz cc0 cx12 bx2 hr2 k2 own2 grw at2 bz cx11 k12 k23 bx1 hr1 k1 kz cx10 bx0 hr0 k0 hB1
  generalize W2.setCell ⟨xb, 0, none⟩ (.slice (some ⟨g', 0, none⟩) (d.names.length + 1) cap') = w3 at bx3 hr3 k3 cx13 ⊢
  generalize HV1 : (Value.slice (some ⟨g', 0, none⟩) (d.names.length + 1) cap') = nm3 at bx3 hr3 ⊢
  clear HV1
  obtain ⟨V, cv, rfl, _, _⟩ := own_form hr3.n2
  have hB3 := Nat.le_trans hBw k3.size
  have k4 := (Kept.refl NoF w3).drew
  have bx4 := k4.blk bx3 (fun h => h)
  have hr4 := hr3.same k4
  have kw4 := k3.drew
  go_upto_region 1 with fail
  refine wp_region_noPanic ?_
  refine wp_region_until (by kernel_rfl) 13 (fun (w' : World) => w'.cell? ⟨xb, 1, none⟩ = some (.slice V d.quotas.length cv) ∧ w'.cell? ⟨ab, ao + 1, none⟩ = some (.string (ba a1))) ⟨(bx3.cell 1).trans rfl, cx13⟩ (fun hHeld => ?_)
  generalize w3.drew = W4 at hHeld k4 bx4 hr4 kw4 ⊢
  refine wpAnyU_take (i := 0) (v := ?_) rfl (by kernel_rfl) (by kernel_rfl) (by kernel_rfl) (by kernel_rfl) (by kernel_rfl) (fun _ _ _ h => h) (Or.inl ⟨by rfl, ?_⟩) hHeld ?_
  rotate_left
  · (intro w hSw; (try dsimp only at hSw); go_simp; try (with_reducible rfl))
  simp only [Act.put, List.getElem_toArray, List.getElem_cons_zero, List.setIfInBounds_toArray, List.set_cons_zero, List.set_cons_succ]
  refine wpAnyU_take (i := 1) (v := ?_) rfl (by kernel_rfl) (by kernel_rfl) (by kernel_rfl) (by kernel_rfl) (by kernel_rfl) (fun _ _ _ h => h) (Or.inl ⟨by rfl, ?_⟩) hHeld ?_
  rotate_left
  · (intro w hSw; (try dsimp only at hSw); go_simp; try (with_reducible rfl))
  simp only [Act.put, List.getElem_toArray, List.getElem_cons_zero, List.getElem_cons_succ, List.setIfInBounds_toArray, List.set_cons_zero, List.set_cons_succ]
  refine wpAnyU_take (i := 2) (v := ?_) rfl (by kernel_rfl) (by kernel_rfl) (by kernel_rfl) (by kernel_rfl) (by kernel_rfl) (fun _ _ _ h => h) (Or.inl ⟨by rfl, ?_⟩) hHeld ?_
  rotate_left
  · (intro w hSw; (try dsimp only at hSw); go_simp; try (with_reducible rfl))
  simp only [Act.put, List.getElem_toArray, List.getElem_cons_zero, List.getElem_cons_succ, List.setIfInBounds_toArray, List.set_cons_zero, List.set_cons_succ]
  refine wpAnyU_take (i := 3) (v := ?_) rfl (by kernel_rfl) (by kernel_rfl) (by kernel_rfl) (by kernel_rfl) (by kernel_rfl) (fun _ _ _ h => h) (Or.inl ⟨by rfl, ?_⟩) hHeld ?_
  rotate_left
  · (intro w hSw; (try dsimp only at hSw); go_simp; try (with_reducible rfl))
  simp only [Act.put, List.getElem_toArray, List.getElem_cons_zero, List.getElem_cons_succ, List.setIfInBounds_toArray, List.set_cons_zero, List.set_cons_succ]
  refine wpAnyU_take (i := 4) (v := ?_) rfl (by kernel_rfl) (by kernel_rfl) (by kernel_rfl) (by kernel_rfl) (by kernel_rfl) (fun _ _ _ h => h) (Or.inl ⟨by rfl, ?_⟩) hHeld ?_
  rotate_left
  · (intro w hSw; (try dsimp only at hSw); go_simp; try (with_reducible rfl))
  simp only [Act.put, List.getElem_toArray, List.getElem_cons_zero, List.getElem_cons_succ, List.setIfInBounds_toArray, List.set_cons_zero, List.set_cons_succ]
  refine wpAnyU_take (i := 5) (v := ?_) rfl (by kernel_rfl) (by kernel_rfl) (by kernel_rfl) (by kernel_rfl) (by kernel_rfl) (fun _ _ _ h => h) (Or.inl ⟨by rfl, ?_⟩) hHeld ?_
  rotate_left
  · (intro w hSw; (try dsimp only at hSw); go_simp; try (with_reducible rfl))
  simp only [Act.put, List.getElem_toArray, List.getElem_cons_zero, List.getElem_cons_succ, List.setIfInBounds_toArray, List.set_cons_zero, List.set_cons_succ]
  refine wpAnyU_take (i := 6) (v := ?_) rfl (by kernel_rfl) (by kernel_rfl) (by kernel_rfl) (by kernel_rfl) (by kernel_rfl) (fun _ _ _ h => h) (Or.inl ⟨by rfl, ?_⟩) hHeld ?_
  rotate_left
  · (intro w hSw; (try dsimp only at hSw); go_simp; try (with_reducible rfl))
  simp only [Act.put, List.getElem_toArray, List.getElem_cons_zero, List.getElem_cons_succ, List.setIfInBounds_toArray, List.set_cons_zero, List.set_cons_succ]
  refine wpAnyU_take (i := 7) (v := ?_) rfl (by kernel_rfl) (by kernel_rfl) (by kernel_rfl) (by kernel_rfl) (by kernel_rfl) (fun _ _ _ h => h) (Or.inl ⟨by rfl, ?_⟩) hHeld ?_
  rotate_left
  · (intro w hSw; (try dsimp only at hSw); go_simp; try (with_reducible rfl))
  simp only [Act.put, List.getElem_toArray, List.getElem_cons_zero, List.getElem_cons_succ, List.setIfInBounds_toArray, List.set_cons_zero, List.set_cons_succ]
  refine wpAnyU_alone (i := 8) (by kernel_rfl) rfl (fun K hK => ?_)
  go_simp
  refine (CN1.out _).mono ?_
  rintro e w5 ⟨rfl, k5⟩
  go_wp2_with fail
  refine hK.out _ _ (fun _ => (⟨k5.cell hHeld.1 (fun h => h), k5.cell hHeld.2 (fun h => h)⟩ : (fun (w' : World) => w'.cell? ⟨xb, 1, none⟩ = some (.slice V d.quotas.length cv) ∧ w'.cell? ⟨ab, ao + 1, none⟩ = some (.string (ba a1))) w5)) ?_
  clear hK K
  try simp only [Act.put, List.getElem_toArray, List.getElem_cons_zero, List.getElem_cons_succ, List.setIfInBounds_toArray, List.set_cons_zero, List.set_cons_succ]
  have bx5 := k5.blk bx4 (fun h => h)
  have hr5 := hr4.same k5
  have kw5 := kw4.trans k5 (fun _ h => h.elim)
  have hHeld := (⟨k5.cell hHeld.1 (fun h => h), k5.cell hHeld.2 (fun h => h)⟩ : (fun (w' : World) => w'.cell? ⟨xb, 1, none⟩ = some (.slice V d.quotas.length cv) ∧ w'.cell? ⟨ab, ao + 1, none⟩ = some (.string (ba a1))) w5)
  refine wpAnyU_alone (i := 9) (by kernel_rfl) rfl (fun K hK => ?_)
  go_simp
  have bz := Blk.new w5 3 #[.int .i64 (nv a1)]
  have kz := (Kept.refl NoF w5).alloc (.cells #[.int .i64 (nv a1)] 3)
  generalize w5.alloc (.cells #[.int .i64 (nv a1)] 3) = W6 at bz kz ⊢
  refine hK.out _ _ (fun _ => (⟨kz.cell hHeld.1 (fun h => h), kz.cell hHeld.2 (fun h => h)⟩ : (fun (w' : World) => w'.cell? ⟨xb, 1, none⟩ = some (.slice V d.quotas.length cv) ∧ w'.cell? ⟨ab, ao + 1, none⟩ = some (.string (ba a1))) W6)) ?_
  clear hK K
  try simp only [Act.put, List.getElem_toArray, List.getElem_cons_zero, List.getElem_cons_succ, List.setIfInBounds_toArray, List.set_cons_zero, List.set_cons_succ]
  have bx6 := kz.blk bx5 (fun h => h)
  have hr6 := hr5.same kz
  have kw6 := kw5.trans kz (fun _ h => h.elim)
  have hB6 := Nat.le_trans hBw kw6.size
  generalize w5.heap.size = zb at bz ⊢
  refine wpAnyU_alone (i := 10) (by kernel_rfl) rfl (fun K hK => ?_)
  refine step_append_any _ rfl _ _ 55 rfl B 3 j0 (.int .i64 0) 1 8 Tryz.underlying55 hj0 hy0 hy1 hy2 rfl (by omega) _ d.quotas.length (ints d.quotas) rfl hr6.n2 W6.heap.size (some ⟨zb, 0, none⟩) 1 1 [.int .i64 (nv a1)] rfl ?_ ?_ ?_ ?_ hB6 ?_
  · refine ⟨by simp, fun _ => ⟨_, rfl, bz.lt, fun j u hu => ?_⟩⟩
    rw [Addr.add_lit, bz.cell, Nat.zero_add, ← Array.getElem?_toList]
    exact hu
  · intro u hu; simp at hu; subst hu; rfl
  · unfold maxLen; omega
  · omega
  intro v' W7 own7 grw at7
  have hr7 := hr6.quota own7 grw at7
  have k67 : Kept (fun b => B ≤ b) W6 W7 := (Kept.of_grown grw).mono (fun b e => (hr6.n2.lt b e).1)
  have bx7 := k67.blk bx6 (by show ¬ B ≤ xb; omega)
  have kw7 : Kept (fun k => k = xb ∨ B ≤ k) w W7 := kw6.trans k67 (fun x h => .inl (.inr h))
  obtain ⟨g1, cap1, rfl⟩ := ownsRow_succ own7
  have fz := bx7.frozen 1
  have cc0 := (bx7.cell 1).trans (show _ = some (.slice V d.quotas.length cv) from rfl)
  have hS2 : (fun (w' : World) => w'.cell? ⟨xb, 1, none⟩ = some (.slice V d.quotas.length cv) ∧ w'.cell? ⟨ab, ao + 1, none⟩ = some (.string (ba a1))) W7 := ⟨cc0, k67.cell (kz.cell hHeld.2 (fun h => h)) (by show ¬ B ≤ ab; omega)⟩
  refine hK.out _ _ (fun _ => hS2) ?_
  clear hK K
  try simp only [Act.put, List.getElem_toArray, List.getElem_cons_zero, List.getElem_cons_succ, List.setIfInBounds_toArray, List.set_cons_zero, List.set_cons_succ]
  refine wpAnyU_alone (i := 11) (by kernel_rfl) rfl (fun K hK => ?_)
  go_simp
  refine hK.out _ _ (fun _ => hS2) ?_
  clear hK K
  try simp only [Act.put, List.getElem_toArray, List.getElem_cons_zero, List.getElem_cons_succ, List.setIfInBounds_toArray, List.set_cons_zero, List.set_cons_succ]
  refine wpAnyU_alone (i := 12) (by kernel_rfl) rfl (fun K hK => ?_)
  go_simp
  refine hK.out _ _ (fun _ => hS2) ?_
  clear hK K
  try simp only [Act.put, List.getElem_toArray, List.getElem_cons_zero, List.getElem_cons_succ, List.setIfInBounds_toArray, List.set_cons_zero, List.set_cons_succ]
  refine wpAnyU_alone (i := 13) (by kernel_rfl) rfl (fun K hK => ?_)
  go_simp
  refine hK.out _ _ (fun h => by cases h) ?_
  clear hK K
  try simp only [Act.put, List.getElem_toArray, List.getElem_cons_zero, List.getElem_cons_succ, List.setIfInBounds_toArray, List.set_cons_zero, List.set_cons_succ]
  refine wpAnyU_done (by kernel_rfl) ?_ _
  refine NoPanic.normal ?_
  have kk := (Kept.refl (fun b => b = xb) W7).setCell (p := ⟨xb, 1, none⟩) (.inl rfl) (.slice (some ⟨g1, 0, none⟩) (d.quotas.length + 1) cap1)
  go_wp2_with fail
  go_end0
  refine ⟨⟨_, rfl⟩, ⟨hxB, nm3, (.slice (some ⟨g1, 0, none⟩) (d.quotas.length + 1) cap1), vs, vl, ?_, ?_⟩, ?_⟩
  · rw [HDC.out]; exact bx7.set_ 1 (.slice (some ⟨g1, 0, none⟩) (d.quotas.length + 1) cap1)
  · rw [HDC.out]
    have hz := hr7.kept kk (fun b e => by omega)
    exact ⟨hz.n0, hz.n1, hz.n2, hz.n3, hz.n4⟩
  · exact kw7.trans kk (fun x e => .inl (.inl e))

end Go.Proofs.YtfnfjfcncijapaaGreatDoor
