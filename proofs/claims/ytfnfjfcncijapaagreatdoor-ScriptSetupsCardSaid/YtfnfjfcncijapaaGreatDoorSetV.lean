/- script.addVault (printed by genVault.py). -/
import Derived.Test.YtfnfjfcncijapaaGreatDoorSetC
import Derived.Test.YtfnfjfcncijapaaGreatDoorRoundR
namespace Go.Proofs.YtfnfjfcncijapaaGreatDoor
open Go.RowKit Go.Shelf
attribute [local go_sem] Oper.semAt_some

def vUL (n x y z : Int) : List (Nat × Value) := [(0, .int .i64 n), (1, .slice none 0 0), (2, .int .i64 x), (3, .int .i64 y), (4, .int .i64 z), (5, .string ⟨#[]⟩), (6, .int .i64 64), (7, .int .i64 1024), (8, .int .i64 16), (9, .int .i64 6), (10, .int .u64 0), (11, .int .i64 7), (12, .int .i64 4), (13, .int .i64 12), (14, .int .i64 10)]
theorem vfill (n x y z : Int) : (vUL n x y z).foldl (fun c p => c.setIfInBounds p.1 p.2) #[.int .i64 0, .slice none 0 0, .int .i64 0, .int .i64 0, .int .i64 0, .string ⟨#[]⟩, .int .i64 0, .int .i64 0, .int .i64 0, .int .i64 0, .int .u64 0, .int .i64 0, .int .i64 0, .int .i64 0, .int .i64 0] = #[.int .i64 n, .slice none 0 0, .int .i64 x, .int .i64 y, .int .i64 z, .string ⟨#[]⟩, .int .i64 64, .int .i64 1024, .int .i64 16, .int .i64 6, .int .u64 0, .int .i64 7, .int .i64 4, .int .i64 12, .int .i64 10] := by
  simp only [vUL, List.foldl_cons, List.foldl_nil, List.setIfInBounds_toArray, List.set_cons_zero, List.set_cons_succ]
theorem RowsAt.apart {F : Nat → Prop} {w w' : World} {B : Nat} {d : SetD} {nm qs vs : Value} {vl : List (VaultD × Option Addr × Nat)} {x : Option (List Deferred)} (h : RowsAt w B d nm qs vs vl) (k : Kept F w w') (hF : ∀ b, F b → w.heap[b]? = some (.deferred x)) : RowsAt w' B d nm qs vs vl := by
  have key : ∀ (e z n : Nat) (v : Value) (xs : List Value), w.ownsRow B e z v n xs → ∀ g, v.ownBlock = some g → ¬ F g := fun e z n v xs ho g hg hf => by
    rcases ho.2 with ⟨rfl, _⟩ | ⟨g', cap, cur, rfl, _, hh, _⟩
    · simp [Value.ownBlock] at hg
    · simp only [Value.ownBlock, Option.some.injEq] at hg
      subst hg
      rw [hF _ hf] at hh
      cases hh
  refine ⟨h.n0, k.own h.n1 (key _ _ _ _ _ h.n1), k.own h.n2 (key _ _ _ _ _ h.n2), k.own h.n3 (key _ _ _ _ _ h.n3), fun y hy => ⟨k.src (h.n4 y hy).1 (fun ad e hp hf => ?_), (h.n4 y hy).2⟩⟩
  obtain ⟨ad', e', _, hc⟩ := (h.n4 y hy).1.2 hp
  rw [e] at e'
  injection e' with e'
  subst e'
  have h0 : 0 < (ints y.1.writers).length := by simpa [ints] using hp
  have := hc 0 _ (List.getElem?_eq_getElem h0)
  have hb := hF _ hf
  rw [← block_of_add ad 0] at hb
  simp [World.cell?, hb] at this
theorem ints_snoc (l : List Int) (x : Int) : ints (l ++ [x]) = ints l ++ [.int .i64 x] := by simp [ints]
theorem Kept.fresh {w W : World} (k : Kept (fun b => w.heap.size ≤ b) w W) : Kept NoF w W := ⟨k.os, k.tape, k.output, k.size, fun i hi _ => k.block i hi (by omega)⟩
/-- Between two parts: the writers so far. -/
def VRd (w : World) (nb vb : Nat) (f : Value → Array Value) (ps : List (List UInt8)) (i : Nat) (W : World) : Prop :=
  ∃ v, Kept NoF w W ∧ Blk W vb 119 (f v) ∧ W.ownsRow (nb + 5) 3 1 v i (ints ((ps.take i).map nv))
theorem VRd.free {w X Y : World} {nb vb : Nat} {f : Value → Array Value} {ps : List (List UInt8)} {i : Nat} {S : Nat → Prop} (h : VRd w nb vb f ps i X) (hk : Kept S X Y) (hS : ∀ k, S k → nb ≤ k ∧ k < nb + 5) (hn : w.heap.size ≤ nb) (hv : vb < nb) : VRd w nb vb f ps i Y := by
  obtain ⟨v, k, b, o⟩ := h
  exact ⟨v, k.trans hk (fun x hx => .inr (by have := hS x hx; omega)), hk.blk b (fun e => by have := hS _ e; omega), hk.own o (fun g hg e => by have := hS _ e; have := (o.lt g hg).1; omega)⟩
theorem info119 : (Tryz.prog.info? 119).map (fun i => (i.zero, i.size, i.bytes)) = some (some (.agg #[.int .i64 0, .slice none 0 0, .int .i64 0, .int .i64 0, .int .i64 0, .string ⟨#[]⟩, .int .i64 0, .int .i64 0, .int .i64 0, .int .i64 0, .int .u64 0, .int .i64 0, .int .i64 0, .int .i64 0, .int .i64 0]), 15, 144) := by kernel_rfl
theorem vone (A : Option Addr) (m c : Nat) (n x y z : Int) : ∀ u ∈ (#[.int .i64 n, .slice A m c, .int .i64 x, .int .i64 y, .int .i64 z, .string ⟨#[]⟩, .int .i64 64, .int .i64 1024, .int .i64 16, .int .i64 6, .int .u64 0, .int .i64 7, .int .i64 4, .int .i64 12, .int .i64 10] : Array Value).toList, u.oneCell' = true := by
  intro u hu
  simp only [List.mem_cons, List.not_mem_nil, or_false] at hu
  rcases hu with rfl | rfl | rfl | rfl | rfl | rfl | rfl | rfl | rfl | rfl | rfl | rfl | rfl | rfl | rfl <;> rfl
def VCut (w : World) (cs : Array Value) (v : Value) (W : World) : Prop := ∃ vb, v = .pointer (some ⟨vb, 0, none⟩) ∧ w.heap.size ≤ vb ∧ Blk W vb 119 cs ∧ Kept (fun b => w.heap.size ≤ b) w W
theorem kept_puts0 {F : Nat → Prop} {w w' : World} (h : Kept F w w') (n : Nat) (hn : F n) (l : List (Nat × Value)) : Kept F w (l.foldl (fun W p => W.setCell ⟨n, p.1, none⟩ p.2) w') := by
  induction l generalizing w' with
  | nil => exact h
  | cons p l ih => exact ih (h.setCell (p := ⟨n, p.1, none⟩) (.inl hn) p.2)
theorem blk_puts {w : World} {n : Nat} {t : TypeId} {cs : Array Value} (h : Blk w n t cs) (l : List (Nat × Value)) : Blk (l.foldl (fun W p => W.setCell ⟨n, p.1, none⟩ p.2) w) n t (l.foldl (fun c p => c.setIfInBounds p.1 p.2) cs) := by
  induction l generalizing w cs with
  | nil => exact h
  | cons p l ih => exact ih (h.set_ p.1 p.2)
theorem kept_vb {w W : World} {vb : Nat} (k : Kept (fun b => w.heap.size ≤ b) w W) (h : w.heap.size ≤ vb) (l : List (Nat × Value)) : Kept (fun b => w.heap.size ≤ b) w (l.foldl (fun W p => W.setCell ⟨vb, p.1, none⟩ p.2) W) := kept_puts0 k vb h l

set_option maxHeartbeats 4000000 in
set_option maxRecDepth 100000 in
theorem clo_vault {w : World} {xb B : Nat} {d : SetD} (h : SetAt w 60 xb B d) (A : Option Addr) (cA : Nat) (a0 a1 a2 a3 : List UInt8) (hA : StrsAt w A [a0, a1, a2, a3]) (hBw : B ≤ w.heap.size) (hAB : ∀ ad, A = some ad → ad.block < B ∧ ad.block ≠ xb) (hs : ∀ a ∈ [a0, a1, a2, a3], a.length ≤ 65536) (hn0 : numsB a0 = true) (hn1 : isNumB a1 = true) (hn2 : isNumB a2 = true) (hn3 : isNumB a3 = true) (hV : d.vaults.length ≤ 100000) :
    Calls Tryz.prog 74 #[.pointer (some ⟨xb, 0, none⟩), .slice A 4 cA] w fun e w' => (∃ v, e = .returned v) ∧ SetAt w' 60 xb B (decl d [118, 97, 117, 108, 116] [a0, a1, a2, a3]) ∧ Kept (fun k => k = xb ∨ B ≤ k) w w' := by
  obtain ⟨hxB, nm, qs, vs, vl, bx, hr⟩ := h
  obtain ⟨ab, ao, rfl, hab, _⟩ := hA.at_ (k := 0) (by simp)
  obtain ⟨haB, hax⟩ := hAB _ rfl
  simp only at haB hax
  have cx0 : w.cell? ⟨ab, ao, none⟩ = some (.string (ba a0)) := hA.cell_ (k := 0) (by simp)
  have cx1 : w.cell? ⟨ab, ao + 1, none⟩ = some (.string (ba a1)) := hA.cell_ (k := 1) (by simp)
  have cx2 : w.cell? ⟨ab, ao + 2, none⟩ = some (.string (ba a2)) := hA.cell_ (k := 2) (by simp)
  have cx3 : w.cell? ⟨ab, ao + 3, none⟩ = some (.string (ba a3)) := hA.cell_ (k := 3) (by simp)
  have CN1 := Lib.hid (fun W : World => (show Calls Tryz.prog 46 #[.string (ba a1)] W fun e W' => e = .returned (.int .i64 (nv a1)) ∧ Kept NoF W W' from by
    have := number46_any (ba a1) W (by have := hs a1 (by simp); rw [ba_size]; omega) (by rw [ba_toList]; exact hn1)
    rw [ba_toList] at this
    exact this.mono (fun e W' h => ⟨h.1, Kept.of_below h.2⟩)))
  have CN2 := Lib.hid (fun W : World => (show Calls Tryz.prog 46 #[.string (ba a2)] W fun e W' => e = .returned (.int .i64 (nv a2)) ∧ Kept NoF W W' from by
    have := number46_any (ba a2) W (by have := hs a2 (by simp); rw [ba_size]; omega) (by rw [ba_toList]; exact hn2)
    rw [ba_toList] at this
    exact this.mono (fun e W' h => ⟨h.1, Kept.of_below h.2⟩)))
  have CN3 := Lib.hid (fun W : World => (show Calls Tryz.prog 46 #[.string (ba a3)] W fun e W' => e = .returned (.int .i64 (nv a3)) ∧ Kept NoF W W' from by
    have := number46_any (ba a3) W (by have := hs a3 (by simp); rw [ba_size]; omega) (by rw [ba_toList]; exact hn3)
    rw [ba_toList] at this
    exact this.mono (fun e W' h => ⟨h.1, Kept.of_below h.2⟩)))
  have HDC := Lib.hid (decl_vault d a0 a1 a2 a3)
  have hs0 : a0.length ≤ 65536 := hs a0 (by simp)
  clear hAB hs hn1 hn2 hn3
  obtain ⟨U, cu, rfl, _, _⟩ := own_form hr.n3
  have SA := Lib.hid (fun W (k : Kept (fun b => w.heap.size ≤ b) w W) => (⟨k.cell ((bx.cell 2).trans rfl) (by have := bx.lt; show ¬ w.heap.size ≤ xb; omega), k.cell cx1 (by show ¬ w.heap.size ≤ ab; omega), k.cell cx2 (by show ¬ w.heap.size ≤ ab; omega), k.cell cx3 (by show ¬ w.heap.size ≤ ab; omega)⟩ : (fun (w' : World) => w'.cell? ⟨xb, 2, none⟩ = some (.slice U d.vaults.length cu) ∧ w'.cell? ⟨ab, ao + 1, none⟩ = some (.string (ba a1)) ∧ w'.cell? ⟨ab, ao + 2, none⟩ = some (.string (ba a2)) ∧ w'.cell? ⟨ab, ao + 3, none⟩ = some (.string (ba a3))) W))
  have k0 := ((Kept.refl NoF w).drew).mono (G := fun b => w.heap.size ≤ b) (fun _ h => h.elim)
  refine calls_marks Tryz.func74 rfl ?_
  simp only [Tryz.ntmps74, List.size_toArray, List.length_cons, List.length_nil, Nat.reduceAdd, Nat.reduceSub, Array.replicate_succ, Array.replicate_zero, List.push_toArray, List.append_toArray, List.nil_append, List.cons_append]
  go_upto_region 0 with fail
  go_cut [4] from 6 to 26 (VCut w #[.int .i64 (d.vaults.length : Int), .slice none 0 0, .int .i64 (nv a1), .int .i64 (nv a2), .int .i64 (nv a3), .string ⟨#[]⟩, .int .i64 64, .int .i64 1024, .int .i64 16, .int .i64 6, .int .u64 0, .int .i64 7, .int .i64 4, .int .i64 12, .int .i64 10])
  case first =>
    rename_i J KK hJ hKK
    refine wp_region_noPanic ?_
    refine wp_region_held_drew (S := (fun (w' : World) => w'.cell? ⟨xb, 2, none⟩ = some (.slice U d.vaults.length cu) ∧ w'.cell? ⟨ab, ao + 1, none⟩ = some (.string (ba a1)) ∧ w'.cell? ⟨ab, ao + 2, none⟩ = some (.string (ba a2)) ∧ w'.cell? ⟨ab, ao + 3, none⟩ = some (.string (ba a3)))) (by kernel_rfl) ?_ (fun hHeld => ?_)
    · exact SA.out _ k0
    generalize w.drew = W0 at hHeld k0 ⊢
    refine wpAnyH_take (i := 0) (v := ?_) rfl (by kernel_rfl) (by kernel_rfl) (by kernel_rfl) (fun _ _ _ h => h) (Or.inl ⟨by rfl, ?_⟩) hHeld ?_
    rotate_left
    · (intro w hSw; (try dsimp only at hSw); go_simp; try (with_reducible rfl))
    simp only [Act.put, List.getElem_toArray, List.getElem_cons_zero, List.setIfInBounds_toArray, List.set_cons_zero, List.set_cons_succ]
    refine wpAnyH_take (i := 1) (v := ?_) rfl (by kernel_rfl) (by kernel_rfl) (by kernel_rfl) (fun _ _ _ h => h) (Or.inl ⟨by rfl, ?_⟩) hHeld ?_
    rotate_left
    · (intro w hSw; (try dsimp only at hSw); go_simp; try (with_reducible rfl))
    simp only [Act.put, List.getElem_toArray, List.getElem_cons_zero, List.getElem_cons_succ, List.setIfInBounds_toArray, List.set_cons_zero, List.set_cons_succ]
    refine wpAnyH_take (i := 2) (v := ?_) rfl (by kernel_rfl) (by kernel_rfl) (by kernel_rfl) (fun _ _ _ h => h) (Or.inl ⟨by rfl, ?_⟩) hHeld ?_
    rotate_left
    · (intro w hSw; (try dsimp only at hSw); go_simp; try (with_reducible rfl))
    simp only [Act.put, List.getElem_toArray, List.getElem_cons_zero, List.getElem_cons_succ, List.setIfInBounds_toArray, List.set_cons_zero, List.set_cons_succ]
    refine wpAnyH_take (i := 3) (v := ?_) rfl (by kernel_rfl) (by kernel_rfl) (by kernel_rfl) (fun _ _ _ h => h) (Or.inl ⟨by rfl, ?_⟩) hHeld ?_
    rotate_left
    · (intro w hSw; (try dsimp only at hSw); go_simp; try (with_reducible rfl))
    simp only [Act.put, List.getElem_toArray, List.getElem_cons_zero, List.getElem_cons_succ, List.setIfInBounds_toArray, List.set_cons_zero, List.set_cons_succ]
    refine wpAnyH_take (i := 4) (v := ?_) rfl (by kernel_rfl) (by kernel_rfl) (by kernel_rfl) (fun _ _ _ h => h) (Or.inl ⟨by rfl, ?_⟩) hHeld ?_
    rotate_left
    · (intro w hSw; (try dsimp only at hSw); go_simp; try (with_reducible rfl))
    simp only [Act.put, List.getElem_toArray, List.getElem_cons_zero, List.getElem_cons_succ, List.setIfInBounds_toArray, List.set_cons_zero, List.set_cons_succ]
    refine wpAnyH_take (i := 5) (v := ?_) rfl (by kernel_rfl) (by kernel_rfl) (by kernel_rfl) (fun _ _ _ h => h) (Or.inl ⟨by rfl, ?_⟩) hHeld ?_
    rotate_left
    · (intro w hSw; (try dsimp only at hSw); go_simp; try (with_reducible rfl))
    simp only [Act.put, List.getElem_toArray, List.getElem_cons_zero, List.getElem_cons_succ, List.setIfInBounds_toArray, List.set_cons_zero, List.set_cons_succ]
    refine wpAnyH_take (i := 6) (v := ?_) rfl (by kernel_rfl) (by kernel_rfl) (by kernel_rfl) (fun _ _ _ h => h) (Or.inl ⟨by rfl, ?_⟩) hHeld ?_
    rotate_left
    · (intro w hSw; (try dsimp only at hSw); go_simp; try (with_reducible rfl))
    simp only [Act.put, List.getElem_toArray, List.getElem_cons_zero, List.getElem_cons_succ, List.setIfInBounds_toArray, List.set_cons_zero, List.set_cons_succ]
    refine wpAnyH_take (i := 7) (v := ?_) rfl (by kernel_rfl) (by kernel_rfl) (by kernel_rfl) (fun _ _ _ h => h) (Or.inl ⟨by rfl, ?_⟩) hHeld ?_
    rotate_left
    · (intro w hSw; (try dsimp only at hSw); go_simp; try (with_reducible rfl))
    simp only [Act.put, List.getElem_toArray, List.getElem_cons_zero, List.getElem_cons_succ, List.setIfInBounds_toArray, List.set_cons_zero, List.set_cons_succ]
    refine wpAnyH_take (i := 9) (v := ?_) rfl (by kernel_rfl) (by kernel_rfl) (by kernel_rfl) (fun _ _ _ h => h) (Or.inl ⟨by rfl, ?_⟩) hHeld ?_
    rotate_left
    · (intro w hSw; (try dsimp only at hSw); go_simp; try (with_reducible rfl))
    simp only [Act.put, List.getElem_toArray, List.getElem_cons_zero, List.getElem_cons_succ, List.setIfInBounds_toArray, List.set_cons_zero, List.set_cons_succ]
    refine wpAnyH_take (i := 10) (v := ?_) rfl (by kernel_rfl) (by kernel_rfl) (by kernel_rfl) (fun _ _ _ h => h) (Or.inl ⟨by rfl, ?_⟩) hHeld ?_
    rotate_left
    · (intro w hSw; (try dsimp only at hSw); go_simp; try (with_reducible rfl))
    simp only [Act.put, List.getElem_toArray, List.getElem_cons_zero, List.getElem_cons_succ, List.setIfInBounds_toArray, List.set_cons_zero, List.set_cons_succ]
    refine wpAnyH_take (i := 11) (v := ?_) rfl (by kernel_rfl) (by kernel_rfl) (by kernel_rfl) (fun _ _ _ h => h) (Or.inl ⟨by rfl, ?_⟩) hHeld ?_
    rotate_left
    · (intro w hSw; (try dsimp only at hSw); go_simp; try (with_reducible rfl))
    simp only [Act.put, List.getElem_toArray, List.getElem_cons_zero, List.getElem_cons_succ, List.setIfInBounds_toArray, List.set_cons_zero, List.set_cons_succ]
    refine wpAnyH_take (i := 13) (v := ?_) rfl (by kernel_rfl) (by kernel_rfl) (by kernel_rfl) (fun _ _ _ h => h) (Or.inl ⟨by rfl, ?_⟩) hHeld ?_
    rotate_left
    · (intro w hSw; (try dsimp only at hSw); go_simp; try (with_reducible rfl))
    simp only [Act.put, List.getElem_toArray, List.getElem_cons_zero, List.getElem_cons_succ, List.setIfInBounds_toArray, List.set_cons_zero, List.set_cons_succ]
    refine wpAnyH_take (i := 14) (v := ?_) rfl (by kernel_rfl) (by kernel_rfl) (by kernel_rfl) (fun _ _ _ h => h) (Or.inl ⟨by rfl, ?_⟩) hHeld ?_
    rotate_left
    · (intro w hSw; (try dsimp only at hSw); go_simp; try (with_reducible rfl))
    simp only [Act.put, List.getElem_toArray, List.getElem_cons_zero, List.getElem_cons_succ, List.setIfInBounds_toArray, List.set_cons_zero, List.set_cons_succ]
    refine wpAnyH_take (i := 15) (v := ?_) rfl (by kernel_rfl) (by kernel_rfl) (by kernel_rfl) (fun _ _ _ h => h) (Or.inl ⟨by rfl, ?_⟩) hHeld ?_
    rotate_left
    · (intro w hSw; (try dsimp only at hSw); go_simp; try (with_reducible rfl))
    simp only [Act.put, List.getElem_toArray, List.getElem_cons_zero, List.getElem_cons_succ, List.setIfInBounds_toArray, List.set_cons_zero, List.set_cons_succ]
    refine wpAnyH_take (i := 17) (v := ?_) rfl (by kernel_rfl) (by kernel_rfl) (by kernel_rfl) (fun _ _ _ h => h) (Or.inl ⟨by rfl, ?_⟩) hHeld ?_
    rotate_left
    · (intro w hSw; (try dsimp only at hSw); go_simp; try (with_reducible rfl))
    simp only [Act.put, List.getElem_toArray, List.getElem_cons_zero, List.getElem_cons_succ, List.setIfInBounds_toArray, List.set_cons_zero, List.set_cons_succ]
    refine wpAnyH_take (i := 18) (v := ?_) rfl (by kernel_rfl) (by kernel_rfl) (by kernel_rfl) (fun _ _ _ h => h) (Or.inl ⟨by rfl, ?_⟩) hHeld ?_
    rotate_left
    · (intro w hSw; (try dsimp only at hSw); go_simp; try (with_reducible rfl))
    simp only [Act.put, List.getElem_toArray, List.getElem_cons_zero, List.getElem_cons_succ, List.setIfInBounds_toArray, List.set_cons_zero, List.set_cons_succ]
    refine wpAnyH_ready (rs := [8, 20]) (by kernel_rfl) (by simp) ?_
    refine AllReadyH.cons rfl (fun K hK => ?_) (AllReadyH.cons rfl (fun K hK => ?_) (AllReadyH.nil))
    · skip
      go_simp
      refine (CN1.out _).mono ?_
      rintro e w0q ⟨rfl, kc0q⟩
      have k0q := k0.trans kc0q (fun _ h => h.elim)
      go_wp2_with fail
      refine hK.out _ _ (SA.out _ k0q) (fun hHeld => ?_)
      clear hK K
      try simp only [Act.put, List.getElem_toArray, List.getElem_cons_zero, List.getElem_cons_succ, List.setIfInBounds_toArray, List.set_cons_zero, List.set_cons_succ]
      refine wpAnyH_ready (rs := [12, 20]) (by kernel_rfl) (by simp) ?_
      refine AllReadyH.cons rfl (fun K hK => ?_) (AllReadyH.cons rfl (fun K hK => ?_) (AllReadyH.nil))
      · skip
        go_simp
        refine (CN2.out _).mono ?_
        rintro e w0qq ⟨rfl, kc0qq⟩
        have k0qq := k0q.trans kc0qq (fun _ h => h.elim)
        go_wp2_with fail
        refine hK.out _ _ (SA.out _ k0qq) (fun hHeld => ?_)
        clear hK K
        try simp only [Act.put, List.getElem_toArray, List.getElem_cons_zero, List.getElem_cons_succ, List.setIfInBounds_toArray, List.set_cons_zero, List.set_cons_succ]
        refine wpAnyH_ready (rs := [16, 20]) (by kernel_rfl) (by simp) ?_
        refine AllReadyH.cons rfl (fun K hK => ?_) (AllReadyH.cons rfl (fun K hK => ?_) (AllReadyH.nil))
        · skip
          go_simp
          refine (CN3.out _).mono ?_
          rintro e w0qqq ⟨rfl, kc0qqq⟩
          have k0qqq := k0qq.trans kc0qqq (fun _ h => h.elim)
          go_wp2_with fail
          refine hK.out _ _ (SA.out _ k0qqq) (fun hHeld => ?_)
          clear hK K
          try simp only [Act.put, List.getElem_toArray, List.getElem_cons_zero, List.getElem_cons_succ, List.setIfInBounds_toArray, List.set_cons_zero, List.set_cons_succ]
          refine wpAnyH_take (i := 19) (v := ?_) rfl (by kernel_rfl) (by kernel_rfl) (by kernel_rfl) (fun _ _ _ h => h) (Or.inl ⟨by rfl, ?_⟩) hHeld ?_
          rotate_left
          · (intro w hSw; (try dsimp only at hSw); go_simp; try (with_reducible rfl))
          simp only [Act.put, List.getElem_toArray, List.getElem_cons_zero, List.getElem_cons_succ, List.setIfInBounds_toArray, List.set_cons_zero, List.set_cons_succ]
          refine wpAnyH_ready (rs := [20]) (by kernel_rfl) (by simp) ?_
          refine AllReadyH.cons rfl (fun K hK => ?_) AllReadyH.nil
          go_simp
          have bv0qqqq := Blk.new w0qqq 119 #[.int .i64 0, .slice none 0 0, .int .i64 0, .int .i64 0, .int .i64 0, .string ⟨#[]⟩, .int .i64 0, .int .i64 0, .int .i64 0, .int .i64 0, .int .u64 0, .int .i64 0, .int .i64 0, .int .i64 0, .int .i64 0]
          have k0qqqq := k0qqq.alloc (.cells #[.int .i64 0, .slice none 0 0, .int .i64 0, .int .i64 0, .int .i64 0, .string ⟨#[]⟩, .int .i64 0, .int .i64 0, .int .i64 0, .int .i64 0, .int .u64 0, .int .i64 0, .int .i64 0, .int .i64 0, .int .i64 0] 119)
          have hvb := k0qqq.size
          generalize w0qqq.alloc (.cells #[.int .i64 0, .slice none 0 0, .int .i64 0, .int .i64 0, .int .i64 0, .string ⟨#[]⟩, .int .i64 0, .int .i64 0, .int .i64 0, .int .i64 0, .int .u64 0, .int .i64 0, .int .i64 0, .int .i64 0, .int .i64 0] 119) = w0qqqq at bv0qqqq k0qqqq ⊢
          generalize w0qqq.heap.size = vb at bv0qqqq hvb ⊢
          have z0qqqq : ∀ i, w0qqqq.frozen? ⟨vb, i, none⟩ = false := fun i => bv0qqqq.frozen i
          have g0 := (bv0qqqq.cell 0).trans (show _ = some (.int .i64 0) from rfl)
          have g1 := (bv0qqqq.cell 1).trans (show _ = some (.slice none 0 0) from rfl)
          have g2 := (bv0qqqq.cell 2).trans (show _ = some (.int .i64 0) from rfl)
          have g3 := (bv0qqqq.cell 3).trans (show _ = some (.int .i64 0) from rfl)
          have g4 := (bv0qqqq.cell 4).trans (show _ = some (.int .i64 0) from rfl)
          have g5 := (bv0qqqq.cell 5).trans (show _ = some (.string ⟨#[]⟩) from rfl)
          have g6 := (bv0qqqq.cell 6).trans (show _ = some (.int .i64 0) from rfl)
          have g7 := (bv0qqqq.cell 7).trans (show _ = some (.int .i64 0) from rfl)
          have g8 := (bv0qqqq.cell 8).trans (show _ = some (.int .i64 0) from rfl)
          have g9 := (bv0qqqq.cell 9).trans (show _ = some (.int .i64 0) from rfl)
          have g10 := (bv0qqqq.cell 10).trans (show _ = some (.int .u64 0) from rfl)
          have g11 := (bv0qqqq.cell 11).trans (show _ = some (.int .i64 0) from rfl)
          have g12 := (bv0qqqq.cell 12).trans (show _ = some (.int .i64 0) from rfl)
          have g13 := (bv0qqqq.cell 13).trans (show _ = some (.int .i64 0) from rfl)
          have g14 := (bv0qqqq.cell 14).trans (show _ = some (.int .i64 0) from rfl)
          refine hK.out _ _ (SA.out _ k0qqqq) (fun hHeld => ?_)
          clear hK K
          try simp only [Act.put, List.getElem_toArray, List.getElem_cons_zero, List.getElem_cons_succ, List.setIfInBounds_toArray, List.set_cons_zero, List.set_cons_succ]
          refine wpAnyH_ready (rs := [21]) (by kernel_rfl) (by simp) ?_
          refine AllReadyH.cons rfl (fun K hK => ?_) AllReadyH.nil
          go_simp
          refine hK.out _ _ (SA.out _ (kept_vb k0qqqq hvb (vUL (d.vaults.length : Int) (nv a1) (nv a2) (nv a3)))) (fun hHeld => ?_)
          clear hK K
          try simp only [Act.put, List.getElem_toArray, List.getElem_cons_zero, List.getElem_cons_succ, List.setIfInBounds_toArray, List.set_cons_zero, List.set_cons_succ]
          refine wpAnyH_done (by kernel_rfl) ?_ _
          refine NoPanic.normal ?_
          first | refine Met.intro (hJ _ _ ?_) | refine hKK _ _ (Met.intro (hJ _ _ ?_))
          (repeat apply Exists.intro)
          refine ⟨?_, rfl⟩
          have hbz := blk_puts bv0qqqq (vUL (d.vaults.length : Int) (nv a1) (nv a2) (nv a3))
          rw [vfill] at hbz
          exact ⟨vb, rfl, hvb, hbz, kept_vb k0qqqq hvb (vUL (d.vaults.length : Int) (nv a1) (nv a2) (nv a3))⟩
        · skip
          go_simp
          have bv0qqq := Blk.new w0qq 119 #[.int .i64 0, .slice none 0 0, .int .i64 0, .int .i64 0, .int .i64 0, .string ⟨#[]⟩, .int .i64 0, .int .i64 0, .int .i64 0, .int .i64 0, .int .u64 0, .int .i64 0, .int .i64 0, .int .i64 0, .int .i64 0]
          have k0qqq := k0qq.alloc (.cells #[.int .i64 0, .slice none 0 0, .int .i64 0, .int .i64 0, .int .i64 0, .string ⟨#[]⟩, .int .i64 0, .int .i64 0, .int .i64 0, .int .i64 0, .int .u64 0, .int .i64 0, .int .i64 0, .int .i64 0, .int .i64 0] 119)
          have hvb := k0qq.size
          generalize w0qq.alloc (.cells #[.int .i64 0, .slice none 0 0, .int .i64 0, .int .i64 0, .int .i64 0, .string ⟨#[]⟩, .int .i64 0, .int .i64 0, .int .i64 0, .int .i64 0, .int .u64 0, .int .i64 0, .int .i64 0, .int .i64 0, .int .i64 0] 119) = w0qqq at bv0qqq k0qqq ⊢
          generalize w0qq.heap.size = vb at bv0qqq hvb ⊢
          refine hK.out _ _ (SA.out _ k0qqq) (fun hHeld => ?_)
          clear hK K
          try simp only [Act.put, List.getElem_toArray, List.getElem_cons_zero, List.getElem_cons_succ, List.setIfInBounds_toArray, List.set_cons_zero, List.set_cons_succ]
          refine wpAnyH_ready (rs := [16]) (by kernel_rfl) (by simp) ?_
          refine AllReadyH.cons rfl (fun K hK => ?_) AllReadyH.nil
          go_simp
          refine (CN3.out _).mono ?_
          rintro e w0qqqq ⟨rfl, kc0qqqq⟩
          have k0qqqq := k0qqq.trans kc0qqqq (fun _ h => h.elim)
          have bv0qqqq := kc0qqqq.blk bv0qqq (fun h => h)
          have z0qqqq : ∀ i, w0qqqq.frozen? ⟨vb, i, none⟩ = false := fun i => bv0qqqq.frozen i
          have g0 := (bv0qqqq.cell 0).trans (show _ = some (.int .i64 0) from rfl)
          have g1 := (bv0qqqq.cell 1).trans (show _ = some (.slice none 0 0) from rfl)
          have g2 := (bv0qqqq.cell 2).trans (show _ = some (.int .i64 0) from rfl)
          have g3 := (bv0qqqq.cell 3).trans (show _ = some (.int .i64 0) from rfl)
          have g4 := (bv0qqqq.cell 4).trans (show _ = some (.int .i64 0) from rfl)
          have g5 := (bv0qqqq.cell 5).trans (show _ = some (.string ⟨#[]⟩) from rfl)
          have g6 := (bv0qqqq.cell 6).trans (show _ = some (.int .i64 0) from rfl)
          have g7 := (bv0qqqq.cell 7).trans (show _ = some (.int .i64 0) from rfl)
          have g8 := (bv0qqqq.cell 8).trans (show _ = some (.int .i64 0) from rfl)
          have g9 := (bv0qqqq.cell 9).trans (show _ = some (.int .i64 0) from rfl)
          have g10 := (bv0qqqq.cell 10).trans (show _ = some (.int .u64 0) from rfl)
          have g11 := (bv0qqqq.cell 11).trans (show _ = some (.int .i64 0) from rfl)
          have g12 := (bv0qqqq.cell 12).trans (show _ = some (.int .i64 0) from rfl)
          have g13 := (bv0qqqq.cell 13).trans (show _ = some (.int .i64 0) from rfl)
          have g14 := (bv0qqqq.cell 14).trans (show _ = some (.int .i64 0) from rfl)
          go_wp2_with fail
          refine hK.out _ _ (SA.out _ k0qqqq) (fun hHeld => ?_)
          clear hK K
          try simp only [Act.put, List.getElem_toArray, List.getElem_cons_zero, List.getElem_cons_succ, List.setIfInBounds_toArray, List.set_cons_zero, List.set_cons_succ]
          refine wpAnyH_take (i := 19) (v := ?_) rfl (by kernel_rfl) (by kernel_rfl) (by kernel_rfl) (fun _ _ _ h => h) (Or.inl ⟨by rfl, ?_⟩) hHeld ?_
          rotate_left
          · (intro w hSw; (try dsimp only at hSw); go_simp; try (with_reducible rfl))
          simp only [Act.put, List.getElem_toArray, List.getElem_cons_zero, List.getElem_cons_succ, List.setIfInBounds_toArray, List.set_cons_zero, List.set_cons_succ]
          refine wpAnyH_ready (rs := [21]) (by kernel_rfl) (by simp) ?_
          refine AllReadyH.cons rfl (fun K hK => ?_) AllReadyH.nil
          go_simp
          refine hK.out _ _ (SA.out _ (kept_vb k0qqqq hvb (vUL (d.vaults.length : Int) (nv a1) (nv a2) (nv a3)))) (fun hHeld => ?_)
          clear hK K
          try simp only [Act.put, List.getElem_toArray, List.getElem_cons_zero, List.getElem_cons_succ, List.setIfInBounds_toArray, List.set_cons_zero, List.set_cons_succ]
          refine wpAnyH_done (by kernel_rfl) ?_ _
          refine NoPanic.normal ?_
          first | refine Met.intro (hJ _ _ ?_) | refine hKK _ _ (Met.intro (hJ _ _ ?_))
          (repeat apply Exists.intro)
          refine ⟨?_, rfl⟩
          have hbz := blk_puts bv0qqqq (vUL (d.vaults.length : Int) (nv a1) (nv a2) (nv a3))
          rw [vfill] at hbz
          exact ⟨vb, rfl, hvb, hbz, kept_vb k0qqqq hvb (vUL (d.vaults.length : Int) (nv a1) (nv a2) (nv a3))⟩
      · skip
        go_simp
        have bv0qq := Blk.new w0q 119 #[.int .i64 0, .slice none 0 0, .int .i64 0, .int .i64 0, .int .i64 0, .string ⟨#[]⟩, .int .i64 0, .int .i64 0, .int .i64 0, .int .i64 0, .int .u64 0, .int .i64 0, .int .i64 0, .int .i64 0, .int .i64 0]
        have k0qq := k0q.alloc (.cells #[.int .i64 0, .slice none 0 0, .int .i64 0, .int .i64 0, .int .i64 0, .string ⟨#[]⟩, .int .i64 0, .int .i64 0, .int .i64 0, .int .i64 0, .int .u64 0, .int .i64 0, .int .i64 0, .int .i64 0, .int .i64 0] 119)
        have hvb := k0q.size
        generalize w0q.alloc (.cells #[.int .i64 0, .slice none 0 0, .int .i64 0, .int .i64 0, .int .i64 0, .string ⟨#[]⟩, .int .i64 0, .int .i64 0, .int .i64 0, .int .i64 0, .int .u64 0, .int .i64 0, .int .i64 0, .int .i64 0, .int .i64 0] 119) = w0qq at bv0qq k0qq ⊢
        generalize w0q.heap.size = vb at bv0qq hvb ⊢
        refine hK.out _ _ (SA.out _ k0qq) (fun hHeld => ?_)
        clear hK K
        try simp only [Act.put, List.getElem_toArray, List.getElem_cons_zero, List.getElem_cons_succ, List.setIfInBounds_toArray, List.set_cons_zero, List.set_cons_succ]
        refine wpAnyH_ready (rs := [12]) (by kernel_rfl) (by simp) ?_
        refine AllReadyH.cons rfl (fun K hK => ?_) AllReadyH.nil
        go_simp
        refine (CN2.out _).mono ?_
        rintro e w0qqq ⟨rfl, kc0qqq⟩
        have k0qqq := k0qq.trans kc0qqq (fun _ h => h.elim)
        have bv0qqq := kc0qqq.blk bv0qq (fun h => h)
        go_wp2_with fail
        refine hK.out _ _ (SA.out _ k0qqq) (fun hHeld => ?_)
        clear hK K
        try simp only [Act.put, List.getElem_toArray, List.getElem_cons_zero, List.getElem_cons_succ, List.setIfInBounds_toArray, List.set_cons_zero, List.set_cons_succ]
        refine wpAnyH_ready (rs := [16]) (by kernel_rfl) (by simp) ?_
        refine AllReadyH.cons rfl (fun K hK => ?_) AllReadyH.nil
        go_simp
        refine (CN3.out _).mono ?_
        rintro e w0qqqq ⟨rfl, kc0qqqq⟩
        have k0qqqq := k0qqq.trans kc0qqqq (fun _ h => h.elim)
        have bv0qqqq := kc0qqqq.blk bv0qqq (fun h => h)
        have z0qqqq : ∀ i, w0qqqq.frozen? ⟨vb, i, none⟩ = false := fun i => bv0qqqq.frozen i
        have g0 := (bv0qqqq.cell 0).trans (show _ = some (.int .i64 0) from rfl)
        have g1 := (bv0qqqq.cell 1).trans (show _ = some (.slice none 0 0) from rfl)
        have g2 := (bv0qqqq.cell 2).trans (show _ = some (.int .i64 0) from rfl)
        have g3 := (bv0qqqq.cell 3).trans (show _ = some (.int .i64 0) from rfl)
        have g4 := (bv0qqqq.cell 4).trans (show _ = some (.int .i64 0) from rfl)
        have g5 := (bv0qqqq.cell 5).trans (show _ = some (.string ⟨#[]⟩) from rfl)
        have g6 := (bv0qqqq.cell 6).trans (show _ = some (.int .i64 0) from rfl)
        have g7 := (bv0qqqq.cell 7).trans (show _ = some (.int .i64 0) from rfl)
        have g8 := (bv0qqqq.cell 8).trans (show _ = some (.int .i64 0) from rfl)
        have g9 := (bv0qqqq.cell 9).trans (show _ = some (.int .i64 0) from rfl)
        have g10 := (bv0qqqq.cell 10).trans (show _ = some (.int .u64 0) from rfl)
        have g11 := (bv0qqqq.cell 11).trans (show _ = some (.int .i64 0) from rfl)
        have g12 := (bv0qqqq.cell 12).trans (show _ = some (.int .i64 0) from rfl)
        have g13 := (bv0qqqq.cell 13).trans (show _ = some (.int .i64 0) from rfl)
        have g14 := (bv0qqqq.cell 14).trans (show _ = some (.int .i64 0) from rfl)
        go_wp2_with fail
        refine hK.out _ _ (SA.out _ k0qqqq) (fun hHeld => ?_)
        clear hK K
        try simp only [Act.put, List.getElem_toArray, List.getElem_cons_zero, List.getElem_cons_succ, List.setIfInBounds_toArray, List.set_cons_zero, List.set_cons_succ]
        refine wpAnyH_take (i := 19) (v := ?_) rfl (by kernel_rfl) (by kernel_rfl) (by kernel_rfl) (fun _ _ _ h => h) (Or.inl ⟨by rfl, ?_⟩) hHeld ?_
        rotate_left
        · (intro w hSw; (try dsimp only at hSw); go_simp; try (with_reducible rfl))
        simp only [Act.put, List.getElem_toArray, List.getElem_cons_zero, List.getElem_cons_succ, List.setIfInBounds_toArray, List.set_cons_zero, List.set_cons_succ]
        refine wpAnyH_ready (rs := [21]) (by kernel_rfl) (by simp) ?_
        refine AllReadyH.cons rfl (fun K hK => ?_) AllReadyH.nil
        go_simp
        refine hK.out _ _ (SA.out _ (kept_vb k0qqqq hvb (vUL (d.vaults.length : Int) (nv a1) (nv a2) (nv a3)))) (fun hHeld => ?_)
        clear hK K
        try simp only [Act.put, List.getElem_toArray, List.getElem_cons_zero, List.getElem_cons_succ, List.setIfInBounds_toArray, List.set_cons_zero, List.set_cons_succ]
        refine wpAnyH_done (by kernel_rfl) ?_ _
        refine NoPanic.normal ?_
        first | refine Met.intro (hJ _ _ ?_) | refine hKK _ _ (Met.intro (hJ _ _ ?_))
        (repeat apply Exists.intro)
        refine ⟨?_, rfl⟩
        have hbz := blk_puts bv0qqqq (vUL (d.vaults.length : Int) (nv a1) (nv a2) (nv a3))
        rw [vfill] at hbz
        exact ⟨vb, rfl, hvb, hbz, kept_vb k0qqqq hvb (vUL (d.vaults.length : Int) (nv a1) (nv a2) (nv a3))⟩
    · skip
      go_simp
      have bv0q := Blk.new W0 119 #[.int .i64 0, .slice none 0 0, .int .i64 0, .int .i64 0, .int .i64 0, .string ⟨#[]⟩, .int .i64 0, .int .i64 0, .int .i64 0, .int .i64 0, .int .u64 0, .int .i64 0, .int .i64 0, .int .i64 0, .int .i64 0]
      have k0q := k0.alloc (.cells #[.int .i64 0, .slice none 0 0, .int .i64 0, .int .i64 0, .int .i64 0, .string ⟨#[]⟩, .int .i64 0, .int .i64 0, .int .i64 0, .int .i64 0, .int .u64 0, .int .i64 0, .int .i64 0, .int .i64 0, .int .i64 0] 119)
      have hvb := k0.size
      generalize W0.alloc (.cells #[.int .i64 0, .slice none 0 0, .int .i64 0, .int .i64 0, .int .i64 0, .string ⟨#[]⟩, .int .i64 0, .int .i64 0, .int .i64 0, .int .i64 0, .int .u64 0, .int .i64 0, .int .i64 0, .int .i64 0, .int .i64 0] 119) = w0q at bv0q k0q ⊢
      generalize W0.heap.size = vb at bv0q hvb ⊢
      refine hK.out _ _ (SA.out _ k0q) (fun hHeld => ?_)
      clear hK K
      try simp only [Act.put, List.getElem_toArray, List.getElem_cons_zero, List.getElem_cons_succ, List.setIfInBounds_toArray, List.set_cons_zero, List.set_cons_succ]
      refine wpAnyH_ready (rs := [8]) (by kernel_rfl) (by simp) ?_
      refine AllReadyH.cons rfl (fun K hK => ?_) AllReadyH.nil
      go_simp
      refine (CN1.out _).mono ?_
      rintro e w0qq ⟨rfl, kc0qq⟩
      have k0qq := k0q.trans kc0qq (fun _ h => h.elim)
      have bv0qq := kc0qq.blk bv0q (fun h => h)
      go_wp2_with fail
      refine hK.out _ _ (SA.out _ k0qq) (fun hHeld => ?_)
      clear hK K
      try simp only [Act.put, List.getElem_toArray, List.getElem_cons_zero, List.getElem_cons_succ, List.setIfInBounds_toArray, List.set_cons_zero, List.set_cons_succ]
      refine wpAnyH_ready (rs := [12]) (by kernel_rfl) (by simp) ?_
      refine AllReadyH.cons rfl (fun K hK => ?_) AllReadyH.nil
      go_simp
      refine (CN2.out _).mono ?_
      rintro e w0qqq ⟨rfl, kc0qqq⟩
      have k0qqq := k0qq.trans kc0qqq (fun _ h => h.elim)
      have bv0qqq := kc0qqq.blk bv0qq (fun h => h)
      go_wp2_with fail
      refine hK.out _ _ (SA.out _ k0qqq) (fun hHeld => ?_)
      clear hK K
      try simp only [Act.put, List.getElem_toArray, List.getElem_cons_zero, List.getElem_cons_succ, List.setIfInBounds_toArray, List.set_cons_zero, List.set_cons_succ]
      refine wpAnyH_ready (rs := [16]) (by kernel_rfl) (by simp) ?_
      refine AllReadyH.cons rfl (fun K hK => ?_) AllReadyH.nil
      go_simp
      refine (CN3.out _).mono ?_
      rintro e w0qqqq ⟨rfl, kc0qqqq⟩
      have k0qqqq := k0qqq.trans kc0qqqq (fun _ h => h.elim)
      have bv0qqqq := kc0qqqq.blk bv0qqq (fun h => h)
      have z0qqqq : ∀ i, w0qqqq.frozen? ⟨vb, i, none⟩ = false := fun i => bv0qqqq.frozen i
      have g0 := (bv0qqqq.cell 0).trans (show _ = some (.int .i64 0) from rfl)
      have g1 := (bv0qqqq.cell 1).trans (show _ = some (.slice none 0 0) from rfl)
      have g2 := (bv0qqqq.cell 2).trans (show _ = some (.int .i64 0) from rfl)
      have g3 := (bv0qqqq.cell 3).trans (show _ = some (.int .i64 0) from rfl)
      have g4 := (bv0qqqq.cell 4).trans (show _ = some (.int .i64 0) from rfl)
      have g5 := (bv0qqqq.cell 5).trans (show _ = some (.string ⟨#[]⟩) from rfl)
      have g6 := (bv0qqqq.cell 6).trans (show _ = some (.int .i64 0) from rfl)
      have g7 := (bv0qqqq.cell 7).trans (show _ = some (.int .i64 0) from rfl)
      have g8 := (bv0qqqq.cell 8).trans (show _ = some (.int .i64 0) from rfl)
      have g9 := (bv0qqqq.cell 9).trans (show _ = some (.int .i64 0) from rfl)
      have g10 := (bv0qqqq.cell 10).trans (show _ = some (.int .u64 0) from rfl)
      have g11 := (bv0qqqq.cell 11).trans (show _ = some (.int .i64 0) from rfl)
      have g12 := (bv0qqqq.cell 12).trans (show _ = some (.int .i64 0) from rfl)
      have g13 := (bv0qqqq.cell 13).trans (show _ = some (.int .i64 0) from rfl)
      have g14 := (bv0qqqq.cell 14).trans (show _ = some (.int .i64 0) from rfl)
      go_wp2_with fail
      refine hK.out _ _ (SA.out _ k0qqqq) (fun hHeld => ?_)
      clear hK K
      try simp only [Act.put, List.getElem_toArray, List.getElem_cons_zero, List.getElem_cons_succ, List.setIfInBounds_toArray, List.set_cons_zero, List.set_cons_succ]
      refine wpAnyH_take (i := 19) (v := ?_) rfl (by kernel_rfl) (by kernel_rfl) (by kernel_rfl) (fun _ _ _ h => h) (Or.inl ⟨by rfl, ?_⟩) hHeld ?_
      rotate_left
      · (intro w hSw; (try dsimp only at hSw); go_simp; try (with_reducible rfl))
      simp only [Act.put, List.getElem_toArray, List.getElem_cons_zero, List.getElem_cons_succ, List.setIfInBounds_toArray, List.set_cons_zero, List.set_cons_succ]
      refine wpAnyH_ready (rs := [21]) (by kernel_rfl) (by simp) ?_
      refine AllReadyH.cons rfl (fun K hK => ?_) AllReadyH.nil
      go_simp
      refine hK.out _ _ (SA.out _ (kept_vb k0qqqq hvb (vUL (d.vaults.length : Int) (nv a1) (nv a2) (nv a3)))) (fun hHeld => ?_)
      clear hK K
      try simp only [Act.put, List.getElem_toArray, List.getElem_cons_zero, List.getElem_cons_succ, List.setIfInBounds_toArray, List.set_cons_zero, List.set_cons_succ]
      refine wpAnyH_done (by kernel_rfl) ?_ _
      refine NoPanic.normal ?_
      first | refine Met.intro (hJ _ _ ?_) | refine hKK _ _ (Met.intro (hJ _ _ ?_))
      (repeat apply Exists.intro)
      refine ⟨?_, rfl⟩
      have hbz := blk_puts bv0qqqq (vUL (d.vaults.length : Int) (nv a1) (nv a2) (nv a3))
      rw [vfill] at hbz
      exact ⟨vb, rfl, hvb, hbz, kept_vb k0qqqq hvb (vUL (d.vaults.length : Int) (nv a1) (nv a2) (nv a3))⟩
  case rest =>
    obtain ⟨vb, rfl, hvb, bv, kw⟩ := hcut
    have kN : Kept NoF w wc := Kept.fresh kw
    have cx0c := kN.cell cx0 (fun h => h)
    have hxw := bx.lt
    have hwc := kN.size
    have hvl := bv.lt
    have HNB := Lib.hid hn0
    clear SA CN1 CN2 CN3 k0 kw cx0 cx1 cx2 cx3 hn0
    go_wp2_with fail
    refine (splitSeq_call (ba a0) 44 _).mono ?_
    rintro e w8 ⟨rfl, hw8⟩
    have b5 : Blk w8 wc.heap.size 9 #[.string (ba a0)] := by rw [← hw8]; exact ((Blk.new wc 9 _).alloc _).alloc _
    have b6 : Blk w8 (wc.heap.size + 1) 9 #[.string ⟨#[44]⟩] := by rw [← hw8]; exact at_size (by simp) ((Blk.new _ 9 _).alloc _)
    have b7 : Blk w8 (wc.heap.size + 2) 3 #[.int .i64 0] := by rw [← hw8]; exact at_size (by simp) (Blk.new _ 3 _)
    have hsz : w8.heap.size = wc.heap.size + 3 := by rw [← hw8]; simp
    have k8 : Kept NoF wc w8 := by rw [← hw8]; exact (((Kept.refl _ _).alloc _).alloc _).alloc _
    have kN8 := kN.trans k8 (fun _ h => .inl h)
    have bv8 := k8.blk bv (fun h => h)
    clear hw8 k8 kN bv cx0c
    generalize wc.heap.size = nb at b5 b6 b7 hsz hwc hvl ⊢
    have HSZ := Lib.hid hsz
    clear hsz
    go_wp2_with fail
    have hpr : ∀ k, Priv w8.heap.size (SplitB nb) k → nb ≤ k ∧ k < nb + 5 := fun k hk => by
      have := HSZ.out
      rcases hk with h | h | h
      · omega
      · omega
      · unfold SplitB at h; omega
    refine wp_rangeP (gf := 85) (lb := #[.pointer (some ⟨nb + 1, 0, none⟩), .pointer (some ⟨nb, 0, none⟩), .pointer (some ⟨nb + 2, 0, none⟩)]) (vs := (parts 44 a0).map (fun p => #[.string (ba p)])) (S := SplitB nb) rfl (enters_of Tryz.func85 (by kernel_rfl) rfl)
      (fun r => by have := split_iter nb 44 (ba a0) _ ((b5.alloc (.deferred (some []))).alloc (.loop r)) ((b6.alloc (.deferred (some []))).alloc (.loop r)) ((b7.alloc (.deferred (some []))).alloc (.loop r)) (by rw [ba_size]; omega); rw [ba_toList] at this; exact this) ?hS ?hps
      (VRd w nb vb (fun v => #[.int .i64 (d.vaults.length : Int), v, .int .i64 (nv a1), .int .i64 (nv a2), .int .i64 (nv a3), .string ⟨#[]⟩, .int .i64 64, .int .i64 1024, .int .i64 16, .int .i64 6, .int .u64 0, .int .i64 7, .int .i64 4, .int .i64 12, .int .i64 10]) (parts 44 a0)) (fun _ _ _ => False) ?hI ?hIx ?h0
      (fun i => { tmps := #[.pointer (some ⟨xb, 0, none⟩), .slice (some ⟨ab, ao, none⟩) 4 cA, undef, undef, .pointer (some ⟨vb, 0, none⟩), .string (ba ((parts 44 a0).getD i [])), u6, u7, u8, u9, u10, u11, u12, u13, u14, u15, u16, u17, u18, u19, u20, u21, u22, u23, u24, u25, .slice (some ⟨ab, ao, none⟩) 4 cA, .pointer (some ⟨ab, ao, none⟩), .string (ba a0), .func (.func 85) #[] #[.pointer (some ⟨nb + 1, 0, none⟩), .pointer (some ⟨nb, 0, none⟩), .pointer (some ⟨nb + 2, 0, none⟩)], .string (ba ((parts 44 a0).getD i [])), undef, undef, undef, undef, undef, undef, undef, undef, undef, undef, undef, undef, undef, undef, undef, undef, undef], defers := [] }) ?hassign ?hbody ?hdone ?hstop
    case hS =>
      intro k hk
      have := HSZ.out
      unfold SplitB at hk
      omega
    case hps =>
      intro v hv
      obtain ⟨p, _, rfl⟩ := List.mem_map.1 hv
      rfl
    case hI => intro i X Y h hk; exact h.free hk (fun k h => hpr k h) hwc hvl
    case hIx => intro c i X Y h _; exact h.elim
    case h0 => exact ⟨.slice none 0 0, kN8, bv8, ⟨rfl, .inl ⟨rfl, rfl⟩⟩⟩
    case hassign =>
      intro l' i h Wc K hK
      have hlen : i < (parts 44 a0).length := by simpa using h
      have hg : (parts 44 a0).getD i [] = (parts 44 a0)[i] := by simp [hlen]
      rw [hg] at hK
      simp only [List.getElem_map]
      generalize (parts 44 a0)[i] = p at hK ⊢
      gi_wp2
      exact hK
    case hbody =>
      rintro l' i h Wc ⟨v, kW, bW, own⟩ hlt
      have hlen : i < (parts 44 a0).length := by simpa using h
      have hg : (parts 44 a0).getD i [] = (parts 44 a0)[i] := by simp [hlen]
      have hpl := parts_mem_le (List.getElem_mem hlen)
      have hpn := parts_length 44 a0
      have hnum : isNumB (parts 44 a0)[i] = true := List.all_eq_true.1 HNB.out _ (List.getElem_mem hlen)
      have HTK := Lib.hid (show ((parts 44 a0).take (i + 1)).map nv = ((parts 44 a0).take i).map nv ++ [nv (parts 44 a0)[i]] by rw [List.take_succ_eq_append_getElem hlen, List.map_append]; rfl)
      have hWz : nb + 5 ≤ Wc.heap.size := by have h1 := hlt (w8.heap.size + 1) (.inr (.inl rfl)); have h2 := HSZ.out; omega
      rw [hg]
      clear hg
      generalize (parts 44 a0)[i] = p at hnum hpl HTK ⊢
      generalize ((parts 44 a0).take i).map nv = acc at own HTK
      have CN := Lib.hid (fun W : World => (show Calls Tryz.prog 46 #[.string (ba p)] W fun e W' => e = .returned (.int .i64 (nv p)) ∧ Kept NoF W W' from by
        have := number46_any (ba p) W (by rw [ba_size]; omega) (by rw [ba_toList]; exact hnum)
        rw [ba_toList] at this
        exact this.mono (fun e W' h => ⟨h.1, Kept.of_below h.2⟩)))
      clear hnum
      obtain ⟨U2, c2, rfl, _, _⟩ := own_form own
      obtain ⟨j0, hj0, hy0, hy1, hy2⟩ := info_parts info3
      gi_wp2_with fail
      refine wpIn_region_until (by kernel_rfl) (by kernel_rfl) (fun ⟨_, _, h⟩ => h) 7 (fun (w' : World) => w'.cell? ⟨vb, 1, none⟩ = some (.slice U2 i c2)) ((bW.cell 1).trans rfl) (fun hHeld => ?_)
      have kd := (Kept.refl NoF Wc).drew
      have bW0 := kd.blk bW (fun h => h)
      have own0 := kd.own own (fun _ _ h => h)
      generalize Wc.drew = W0 at hHeld kd bW0 own0 ⊢
      refine wpAnyU_take (i := 0) (v := ?_) rfl (by kernel_rfl) (by kernel_rfl) (by kernel_rfl) (by kernel_rfl) (by kernel_rfl) (fun _ _ _ h => h) (Or.inl ⟨by rfl, ?_⟩) hHeld ?_
      rotate_left
      · (intro w hSw; (try dsimp only at hSw); go_simp; try (with_reducible rfl))
      simp only [Act.put, List.getElem_toArray, List.getElem_cons_zero, List.setIfInBounds_toArray, List.set_cons_zero, List.set_cons_succ]
      refine wpAnyU_take (i := 1) (v := ?_) rfl (by kernel_rfl) (by kernel_rfl) (by kernel_rfl) (by kernel_rfl) (by kernel_rfl) (fun _ _ _ h => h) (Or.inl ⟨by rfl, ?_⟩) hHeld ?_
      rotate_left
      · (intro w hSw; (try dsimp only at hSw); go_simp; try (with_reducible rfl))
      simp only [Act.put, List.getElem_toArray, List.getElem_cons_zero, List.getElem_cons_succ, List.setIfInBounds_toArray, List.set_cons_zero, List.set_cons_succ]
      refine wpAnyU_take (i := 2) (v := ?_) rfl (by kernel_rfl) (by kernel_rfl) (by kernel_rfl) (by kernel_rfl) (by kernel_rfl) (fun _ _ _ h => h) (Or.inl ⟨by rfl, ?_⟩) hHeld ?_
      rotate_left
      · (intro w hSw; (try dsimp only at hSw); go_simp; try (with_reducible rfl))
      simp only [Act.put, List.getElem_toArray, List.getElem_cons_zero, List.getElem_cons_succ, List.setIfInBounds_toArray, List.set_cons_zero, List.set_cons_succ]
      refine wpAnyU_alone (i := 3) (by kernel_rfl) rfl (fun K hK => ?_)
      go_simp
      refine (CN.out _).mono ?_
      rintro e W1 ⟨rfl, k1⟩
      go_wp2_with fail
      refine hK.out _ _ (fun _ => (k1.cell hHeld (fun h => h) : (fun (w' : World) => w'.cell? ⟨vb, 1, none⟩ = some (.slice U2 i c2)) W1)) ?_
      clear hK K
      try simp only [Act.put, List.getElem_toArray, List.getElem_cons_zero, List.getElem_cons_succ, List.setIfInBounds_toArray, List.set_cons_zero, List.set_cons_succ]
      have bW1 := k1.blk bW0 (fun h => h)
      have own1 := k1.own own0 (fun _ _ h => h)
      have kd1 := kd.trans k1 (fun _ h => .inl h)
      have hHeld : (fun (w' : World) => w'.cell? ⟨vb, 1, none⟩ = some (.slice U2 i c2)) W1 := k1.cell hHeld (fun h => h)
      refine wpAnyU_alone (i := 4) (by kernel_rfl) rfl (fun K hK => ?_)
      go_simp
      have bz := Blk.new W1 3 #[.int .i64 (nv p)]
      have kz := (Kept.refl NoF W1).alloc (.cells #[.int .i64 (nv p)] 3)
      generalize W1.alloc (.cells #[.int .i64 (nv p)] 3) = W2 at bz kz ⊢
      refine hK.out _ _ (fun _ => (kz.cell hHeld (fun h => h) : (fun (w' : World) => w'.cell? ⟨vb, 1, none⟩ = some (.slice U2 i c2)) W2)) ?_
      clear hK K
      try simp only [Act.put, List.getElem_toArray, List.getElem_cons_zero, List.getElem_cons_succ, List.setIfInBounds_toArray, List.set_cons_zero, List.set_cons_succ]
      have bW2 := kz.blk bW1 (fun h => h)
      have own2 := kz.own own1 (fun _ _ h => h)
      have kd2 := kd1.trans kz (fun _ h => .inl h)
      have hB2 := Nat.le_trans hWz kd2.size
      generalize W1.heap.size = zb at bz ⊢
      refine wpAnyU_alone (i := 5) (by kernel_rfl) rfl (fun K hK => ?_)
      refine step_append_any _ rfl _ _ 55 rfl (nb + 5) 3 j0 (.int .i64 0) 1 8 Tryz.underlying55 hj0 hy0 hy1 hy2 rfl (by omega) _ i (ints acc) rfl own2 W2.heap.size (some ⟨zb, 0, none⟩) 1 1 [.int .i64 (nv p)] rfl ?_ ?_ ?_ ?_ hB2 ?_
      · refine ⟨by simp, fun _ => ⟨_, rfl, bz.lt, fun j u hu => ?_⟩⟩
        rw [Addr.add_lit, bz.cell, Nat.zero_add, ← Array.getElem?_toList]
        exact hu
      · intro u hu; simp at hu; subst hu; rfl
      · unfold maxLen; omega
      · omega
      intro v' W3 own3 grw at3
      have k23 : Kept (fun b => nb + 5 ≤ b) W2 W3 := (Kept.of_grown grw).mono (fun b e => (own2.lt b e).1)
      have kd3 : Kept (fun b => nb + 5 ≤ b) Wc W3 := (kd2.mono (fun _ h => h.elim)).trans k23 (fun x h => .inl h)
      have bW3 := k23.blk bW2 (by show ¬ nb + 5 ≤ vb; omega)
      obtain ⟨g1, cap1, rfl⟩ := ownsRow_succ own3
      have fz := bW3.frozen 1
      have cc0 := (bW3.cell 1).trans (show _ = some (.slice U2 i c2) from rfl)
      have hg1 := (own3.lt g1 rfl).1
      refine hK.out _ _ (fun _ => cc0) ?_
      clear hK K
      try simp only [Act.put, List.getElem_toArray, List.getElem_cons_zero, List.getElem_cons_succ, List.setIfInBounds_toArray, List.set_cons_zero, List.set_cons_succ]
      refine wpAnyU_alone (i := 6) (by kernel_rfl) rfl (fun K hK => ?_)
      go_simp
      refine hK.out _ _ (fun _ => cc0) ?_
      clear hK K
      try simp only [Act.put, List.getElem_toArray, List.getElem_cons_zero, List.getElem_cons_succ, List.setIfInBounds_toArray, List.set_cons_zero, List.set_cons_succ]
      refine wpAnyU_alone (i := 7) (by kernel_rfl) rfl (fun K hK => ?_)
      go_simp
      refine hK.out _ _ (fun h => by cases h) ?_
      clear hK K
      try simp only [Act.put, List.getElem_toArray, List.getElem_cons_zero, List.getElem_cons_succ, List.setIfInBounds_toArray, List.set_cons_zero, List.set_cons_succ]
      refine wpAnyU_done (by kernel_rfl) ?_ _
      have kv := (Kept.refl (fun b => b = vb) W3).setCell (p := ⟨vb, 1, none⟩) (.inl rfl) (.slice (some ⟨g1, 0, none⟩) (i + 1) cap1)
      have bW4 := bW3.set_ 1 (.slice (some ⟨g1, 0, none⟩) (i + 1) cap1)
      have own4 := kv.own own3 (fun g hg e => by simp only [Value.ownBlock, Option.some.injEq] at hg; omega)
      have kd4 : Kept (fun b => b = vb ∨ nb + 5 ≤ b) Wc (W3.setCell ⟨vb, 1, none⟩ (.slice (some ⟨g1, 0, none⟩) (i + 1) cap1)) := (kd3.mono (fun _ h => .inr h)).trans kv (fun x e => .inl (.inl e))
      have kW4 := kW.trans kd4 (fun x e => .inr (by omega))
      have s4 : Same (Priv w8.heap.size (SplitB nb)) Wc (W3.setCell ⟨vb, 1, none⟩ (.slice (some ⟨g1, 0, none⟩) (i + 1) cap1)) := Same.of_kept kd4 hlt (fun k hk e => by have := hpr k hk; omega)
      gi_wp2
      exact ⟨s4, (.slice (some ⟨g1, 0, none⟩) (i + 1) cap1), kW4, bW4, by rw [HTK.out, ints_snoc]; exact own4⟩
    case hdone =>
      rintro W ⟨v, kW, bW, own⟩ hD
      rw [List.length_map] at own
      rw [List.take_length] at own
      obtain ⟨U2, c2, rfl, _, _⟩ := own_form own
      have hrW := hr.same kW
      have bxW := kW.blk bx (fun h => h)
      have hWd : w8.heap.size < W.heap.size := (Array.getElem?_eq_some_iff.1 hD).1
      have hz8 := HSZ.out
      have hpn := parts_length 44 a0
      obtain ⟨j0, hj0, hy0, hy1, hy2⟩ := info_parts info119
      have HEN := Lib.hid (fun W (k : Kept NoF w W) (b1 : Blk W vb 119 #[.int .i64 (d.vaults.length : Int), .slice U2 (parts 44 a0).length c2, .int .i64 (nv a1), .int .i64 (nv a2), .int .i64 (nv a3), .string ⟨#[]⟩, .int .i64 64, .int .i64 1024, .int .i64 16, .int .i64 6, .int .u64 0, .int .i64 7, .int .i64 4, .int .i64 12, .int .i64 10]) => (⟨(Blk.cell (k.blk bx (fun h => h)) 2).trans rfl, (b1.cell 0).trans rfl, (b1.cell 1).trans rfl, (b1.cell 2).trans rfl, (b1.cell 3).trans rfl, (b1.cell 4).trans rfl, (b1.cell 5).trans rfl, (b1.cell 6).trans rfl, (b1.cell 7).trans rfl, (b1.cell 8).trans rfl, (b1.cell 9).trans rfl, (b1.cell 10).trans rfl, (b1.cell 11).trans rfl, (b1.cell 12).trans rfl, (b1.cell 13).trans rfl, (b1.cell 14).trans rfl⟩ : (fun (w' : World) => w'.cell? ⟨xb, 2, none⟩ = some (.slice U d.vaults.length cu) ∧ w'.cell? ⟨vb, 0, none⟩ = some (.int .i64 (d.vaults.length : Int)) ∧ w'.cell? ⟨vb, 1, none⟩ = some (.slice U2 (parts 44 a0).length c2) ∧ w'.cell? ⟨vb, 2, none⟩ = some (.int .i64 (nv a1)) ∧ w'.cell? ⟨vb, 3, none⟩ = some (.int .i64 (nv a2)) ∧ w'.cell? ⟨vb, 4, none⟩ = some (.int .i64 (nv a3)) ∧ w'.cell? ⟨vb, 5, none⟩ = some (.string ⟨#[]⟩) ∧ w'.cell? ⟨vb, 6, none⟩ = some (.int .i64 64) ∧ w'.cell? ⟨vb, 7, none⟩ = some (.int .i64 1024) ∧ w'.cell? ⟨vb, 8, none⟩ = some (.int .i64 16) ∧ w'.cell? ⟨vb, 9, none⟩ = some (.int .i64 6) ∧ w'.cell? ⟨vb, 10, none⟩ = some (.int .u64 0) ∧ w'.cell? ⟨vb, 11, none⟩ = some (.int .i64 7) ∧ w'.cell? ⟨vb, 12, none⟩ = some (.int .i64 4) ∧ w'.cell? ⟨vb, 13, none⟩ = some (.int .i64 12) ∧ w'.cell? ⟨vb, 14, none⟩ = some (.int .i64 10)) W))
      have kd := (Kept.refl NoF W).drew
      have kWd := kW.trans kd (fun _ h => .inl h)
      have bWd := kd.blk bW (fun h => h)
      have ownd := kd.own own (fun _ _ h => h)
      have hDd : W.drew.heap[w8.heap.size]? = some (.deferred (some [])) := hD
      go_upto_region 4 with fail
      refine wp_region_noPanic ?_
      refine wp_region_until (by kernel_rfl) 10 (fun (w' : World) => w'.cell? ⟨xb, 2, none⟩ = some (.slice U d.vaults.length cu) ∧ w'.cell? ⟨vb, 0, none⟩ = some (.int .i64 (d.vaults.length : Int)) ∧ w'.cell? ⟨vb, 1, none⟩ = some (.slice U2 (parts 44 a0).length c2) ∧ w'.cell? ⟨vb, 2, none⟩ = some (.int .i64 (nv a1)) ∧ w'.cell? ⟨vb, 3, none⟩ = some (.int .i64 (nv a2)) ∧ w'.cell? ⟨vb, 4, none⟩ = some (.int .i64 (nv a3)) ∧ w'.cell? ⟨vb, 5, none⟩ = some (.string ⟨#[]⟩) ∧ w'.cell? ⟨vb, 6, none⟩ = some (.int .i64 64) ∧ w'.cell? ⟨vb, 7, none⟩ = some (.int .i64 1024) ∧ w'.cell? ⟨vb, 8, none⟩ = some (.int .i64 16) ∧ w'.cell? ⟨vb, 9, none⟩ = some (.int .i64 6) ∧ w'.cell? ⟨vb, 10, none⟩ = some (.int .u64 0) ∧ w'.cell? ⟨vb, 11, none⟩ = some (.int .i64 7) ∧ w'.cell? ⟨vb, 12, none⟩ = some (.int .i64 4) ∧ w'.cell? ⟨vb, 13, none⟩ = some (.int .i64 12) ∧ w'.cell? ⟨vb, 14, none⟩ = some (.int .i64 10)) (HEN.out _ kWd bWd) (fun hHeld => ?_)
      generalize W.drew = W0 at hHeld kd kWd bWd ownd hDd ⊢
      refine wpAnyU_take (i := 0) (v := ?_) rfl (by kernel_rfl) (by kernel_rfl) (by kernel_rfl) (by kernel_rfl) (by kernel_rfl) (fun _ _ _ h => h) (Or.inl ⟨by rfl, ?_⟩) hHeld ?_
      rotate_left
      · (intro w hSw; (try dsimp only at hSw); go_simp; try (with_reducible rfl))
      simp only [Act.put, List.getElem_toArray, List.getElem_cons_zero, List.setIfInBounds_toArray, List.set_cons_zero, List.set_cons_succ]
      refine wpAnyU_take (i := 1) (v := ?_) rfl (by kernel_rfl) (by kernel_rfl) (by kernel_rfl) (by kernel_rfl) (by kernel_rfl) (fun _ _ _ h => h) (Or.inl ⟨by rfl, ?_⟩) hHeld ?_
      rotate_left
      · (intro w hSw; (try dsimp only at hSw); go_simp; try (with_reducible rfl))
      simp only [Act.put, List.getElem_toArray, List.getElem_cons_zero, List.getElem_cons_succ, List.setIfInBounds_toArray, List.set_cons_zero, List.set_cons_succ]
      refine wpAnyU_take (i := 2) (v := ?_) rfl (by kernel_rfl) (by kernel_rfl) (by kernel_rfl) (by kernel_rfl) (by kernel_rfl) (fun _ _ _ h => h) (Or.inl ⟨by rfl, ?_⟩) hHeld ?_
      rotate_left
      · (intro w hSw; (try dsimp only at hSw); go_simp; try (with_reducible rfl))
      simp only [Act.put, List.getElem_toArray, List.getElem_cons_zero, List.getElem_cons_succ, List.setIfInBounds_toArray, List.set_cons_zero, List.set_cons_succ]
      refine wpAnyU_take (i := 3) (v := ?_) rfl (by kernel_rfl) (by kernel_rfl) (by kernel_rfl) (by kernel_rfl) (by kernel_rfl) (fun _ _ _ h => h) (Or.inl ⟨by rfl, ?_⟩) hHeld ?_
      rotate_left
      · (intro w hSw; (try dsimp only at hSw); go_simp; try (with_reducible rfl))
      simp only [Act.put, List.getElem_toArray, List.getElem_cons_zero, List.getElem_cons_succ, List.setIfInBounds_toArray, List.set_cons_zero, List.set_cons_succ]
      refine wpAnyU_take (i := 4) (v := ?_) rfl (by kernel_rfl) (by kernel_rfl) (by kernel_rfl) (by kernel_rfl) (by kernel_rfl) (fun _ _ _ h => h) (Or.inl ⟨by rfl, ?_⟩) hHeld ?_
      rotate_left
      · (intro w hSw; (try dsimp only at hSw); go_simp; try (with_reducible rfl))
      simp only [Act.put, List.getElem_toArray, List.getElem_cons_zero, List.getElem_cons_succ, List.setIfInBounds_toArray, List.set_cons_zero, List.set_cons_succ]
      refine wpAnyU_take (i := 5) (v := ?_) rfl (by kernel_rfl) (by kernel_rfl) (by kernel_rfl) (by kernel_rfl) (by kernel_rfl) (fun _ _ _ h => h) (Or.inl ⟨by rfl, ?_⟩) hHeld ?_
      rotate_left
      · (intro w hSw; (try dsimp only at hSw); go_simp; try (with_reducible rfl))
      simp only [Act.put, List.getElem_toArray, List.getElem_cons_zero, List.getElem_cons_succ, List.setIfInBounds_toArray, List.set_cons_zero, List.set_cons_succ]
      refine wpAnyU_alone (i := 6) (by kernel_rfl) rfl (fun K hK => ?_)
      go_simp
      have bz := Blk.new W0 119 #[.int .i64 (d.vaults.length : Int), .slice U2 (parts 44 a0).length c2, .int .i64 (nv a1), .int .i64 (nv a2), .int .i64 (nv a3), .string ⟨#[]⟩, .int .i64 64, .int .i64 1024, .int .i64 16, .int .i64 6, .int .u64 0, .int .i64 7, .int .i64 4, .int .i64 12, .int .i64 10]
      have kz := (Kept.refl NoF W0).alloc (.cells #[.int .i64 (d.vaults.length : Int), .slice U2 (parts 44 a0).length c2, .int .i64 (nv a1), .int .i64 (nv a2), .int .i64 (nv a3), .string ⟨#[]⟩, .int .i64 64, .int .i64 1024, .int .i64 16, .int .i64 6, .int .u64 0, .int .i64 7, .int .i64 4, .int .i64 12, .int .i64 10] 119)
      generalize W0.alloc (.cells #[.int .i64 (d.vaults.length : Int), .slice U2 (parts 44 a0).length c2, .int .i64 (nv a1), .int .i64 (nv a2), .int .i64 (nv a3), .string ⟨#[]⟩, .int .i64 64, .int .i64 1024, .int .i64 16, .int .i64 6, .int .u64 0, .int .i64 7, .int .i64 4, .int .i64 12, .int .i64 10] 119) = W1 at bz kz ⊢
      have kW1 := kWd.trans kz (fun _ h => .inl h)
      have bW1 := kz.blk bWd (fun h => h)
      refine hK.out _ _ (fun _ => HEN.out _ kW1 bW1) ?_
      clear hK K
      try simp only [Act.put, List.getElem_toArray, List.getElem_cons_zero, List.getElem_cons_succ, List.setIfInBounds_toArray, List.set_cons_zero, List.set_cons_succ]
      have own1 := kz.own ownd (fun _ _ h => h)
      have bx1 := kW1.blk bx (fun h => h)
      have hr1 := hr.same kW1
      have hB1 := Nat.le_trans hBw kW1.size
      have hD1 : W1.heap[w8.heap.size]? = some (.deferred (some [])) := (kz.block _ (Array.getElem?_eq_some_iff.1 hDd).1 (fun h => h)).trans hDd
      generalize W0.heap.size = zb at bz ⊢
      refine wpAnyU_alone (i := 7) (by kernel_rfl) rfl (fun K hK => ?_)
      refine step_append_any _ rfl _ _ 56 rfl B 119 j0 _ 15 144 Tryz.underlying56 hj0 hy0 hy1 hy2 rfl (by omega) _ d.vaults.length (vcells vl) rfl hr1.n3 W1.heap.size (some ⟨zb, 0, none⟩) 1 1 (#[.int .i64 (d.vaults.length : Int), .slice U2 (parts 44 a0).length c2, .int .i64 (nv a1), .int .i64 (nv a2), .int .i64 (nv a3), .string ⟨#[]⟩, .int .i64 64, .int .i64 1024, .int .i64 16, .int .i64 6, .int .u64 0, .int .i64 7, .int .i64 4, .int .i64 12, .int .i64 10] : Array Value).toList rfl ?_ ?_ ?_ ?_ hB1 ?_
      · refine ⟨by simp, fun _ => ⟨_, rfl, bz.lt, fun j u hu => ?_⟩⟩
        rw [Addr.add_lit, bz.cell, Nat.zero_add, ← Array.getElem?_toList]
        exact hu
      · exact vone _ _ _ _ _ _ _
      · unfold maxLen; omega
      · omega
      intro v' W2 own2 grw at2
      have hwat : WAt W1 B nm qs (.slice U d.vaults.length cu) ((⟨(d.vaults.length : Int), (parts 44 a0).map nv, nv a1, nv a2, nv a3, 64, 1024, 16, 6, 7, 4, 12, 10⟩ : VaultD), U2, c2) := by
        refine ⟨?_, fun ad e hp => ?_⟩
        · have := Reads.of_own own1
          simp only [List.length_map]
          exact this
        · subst e
          have hgb := own_form own1
          obtain ⟨A9, c9, e9, _, h9⟩ := hgb
          injection e9 with e9 _ _
          have ha9 := h9 ad e9.symm
          have hlo := (own1.lt ad.block (by rw [ha9]; rfl)).1
          have hl1 : ∀ g, nm.ownBlock = some g → g < w.heap.size := fun g hg => (hr.n1.lt g hg).2
          have hl2 : ∀ g, qs.ownBlock = some g → g < w.heap.size := fun g hg => (hr.n2.lt g hg).2
          have hl3 : ∀ g, (Value.slice U d.vaults.length cu).ownBlock = some g → g < w.heap.size := fun g hg => (hr.n3.lt g hg).2
          exact ⟨by omega, fun e => by have := hl1 _ e; omega, fun e => by have := hl2 _ e; omega, fun e => by have := hl3 _ e; omega⟩
      have hr2 := hr1.vault (v := (⟨(d.vaults.length : Int), (parts 44 a0).map nv, nv a1, nv a2, nv a3, 64, 1024, 16, 6, 7, 4, 12, 10⟩ : VaultD)) (A := U2) (c := c2) (by simp only [vcell, List.length_map]; exact own2) grw at2 hwat
      have k12 : Kept (fun b => B ≤ b ∧ b < w.heap.size) W1 W2 := (Kept.of_grown grw).mono (fun b e => ⟨(hr1.n3.lt b e).1, (hr.n3.lt b e).2⟩)
      have bx2 := k12.blk bx1 (fun h => by omega)
      have bW2 := k12.blk bW1 (fun h => by omega)
      have kw2 : Kept (fun k => k = xb ∨ B ≤ k) w W2 := (kW1.mono (fun _ h => h.elim)).trans k12 (fun x h => .inl (.inr h.1))
      have hD2 : W2.heap[w8.heap.size]? = some (.deferred (some [])) := (k12.block _ (Array.getElem?_eq_some_iff.1 hD1).1 (fun h => by omega)).trans hD1
      obtain ⟨g2, cap2, rfl⟩ := ownsRow_succ own2
      have fz := bx2.frozen 2
      have cc0 := (bx2.cell 2).trans (show _ = some (.slice U d.vaults.length cu) from rfl)
      have hS2 : (fun (w' : World) => w'.cell? ⟨xb, 2, none⟩ = some (.slice U d.vaults.length cu) ∧ w'.cell? ⟨vb, 0, none⟩ = some (.int .i64 (d.vaults.length : Int)) ∧ w'.cell? ⟨vb, 1, none⟩ = some (.slice U2 (parts 44 a0).length c2) ∧ w'.cell? ⟨vb, 2, none⟩ = some (.int .i64 (nv a1)) ∧ w'.cell? ⟨vb, 3, none⟩ = some (.int .i64 (nv a2)) ∧ w'.cell? ⟨vb, 4, none⟩ = some (.int .i64 (nv a3)) ∧ w'.cell? ⟨vb, 5, none⟩ = some (.string ⟨#[]⟩) ∧ w'.cell? ⟨vb, 6, none⟩ = some (.int .i64 64) ∧ w'.cell? ⟨vb, 7, none⟩ = some (.int .i64 1024) ∧ w'.cell? ⟨vb, 8, none⟩ = some (.int .i64 16) ∧ w'.cell? ⟨vb, 9, none⟩ = some (.int .i64 6) ∧ w'.cell? ⟨vb, 10, none⟩ = some (.int .u64 0) ∧ w'.cell? ⟨vb, 11, none⟩ = some (.int .i64 7) ∧ w'.cell? ⟨vb, 12, none⟩ = some (.int .i64 4) ∧ w'.cell? ⟨vb, 13, none⟩ = some (.int .i64 12) ∧ w'.cell? ⟨vb, 14, none⟩ = some (.int .i64 10)) W2 := ⟨cc0, (bW2.cell 0).trans rfl, (bW2.cell 1).trans rfl, (bW2.cell 2).trans rfl, (bW2.cell 3).trans rfl, (bW2.cell 4).trans rfl, (bW2.cell 5).trans rfl, (bW2.cell 6).trans rfl, (bW2.cell 7).trans rfl, (bW2.cell 8).trans rfl, (bW2.cell 9).trans rfl, (bW2.cell 10).trans rfl, (bW2.cell 11).trans rfl, (bW2.cell 12).trans rfl, (bW2.cell 13).trans rfl, (bW2.cell 14).trans rfl⟩
      refine hK.out _ _ (fun _ => hS2) ?_
      clear hK K
      try simp only [Act.put, List.getElem_toArray, List.getElem_cons_zero, List.getElem_cons_succ, List.setIfInBounds_toArray, List.set_cons_zero, List.set_cons_succ]
      refine wpAnyU_alone (i := 8) (by kernel_rfl) rfl (fun K hK => ?_)
      go_simp
      refine hK.out _ _ (fun _ => hS2) ?_
      clear hK K
      try simp only [Act.put, List.getElem_toArray, List.getElem_cons_zero, List.getElem_cons_succ, List.setIfInBounds_toArray, List.set_cons_zero, List.set_cons_succ]
      refine wpAnyU_alone (i := 9) (by kernel_rfl) rfl (fun K hK => ?_)
      go_simp
      refine hK.out _ _ (fun _ => hS2) ?_
      clear hK K
      try simp only [Act.put, List.getElem_toArray, List.getElem_cons_zero, List.getElem_cons_succ, List.setIfInBounds_toArray, List.set_cons_zero, List.set_cons_succ]
      refine wpAnyU_alone (i := 10) (by kernel_rfl) rfl (fun K hK => ?_)
      go_simp
      refine hK.out _ _ (fun h => by cases h) ?_
      clear hK K
      try simp only [Act.put, List.getElem_toArray, List.getElem_cons_zero, List.getElem_cons_succ, List.setIfInBounds_toArray, List.set_cons_zero, List.set_cons_succ]
      refine wpAnyU_done (by kernel_rfl) ?_ _
      refine NoPanic.normal ?_
      have kk := (Kept.refl (fun b => b = xb) W2).setCell (p := ⟨xb, 2, none⟩) (.inl rfl) (.slice (some ⟨g2, 0, none⟩) (d.vaults.length + 1) cap2)
      have hD3 := (kk.block _ (Array.getElem?_eq_some_iff.1 hD2).1 (by show ¬ w8.heap.size = xb; omega)).trans hD2
      have bx3 := bx2.set_ 2 (.slice (some ⟨g2, 0, none⟩) (d.vaults.length + 1) cap2)
      have hr3 := hr2.kept kk (fun b e => by omega)
      have kw3 := kw2.trans kk (fun x e => .inl (.inl e))
      go_wp2_with fail
      rw [hz8] at hD3
      have kp : Kept (fun k => k = nb + 3) (W2.setCell ⟨xb, 2, none⟩ (.slice (some ⟨g2, 0, none⟩) (d.vaults.length + 1) cap2)) ((W2.setCell ⟨xb, 2, none⟩ (.slice (some ⟨g2, 0, none⟩) (d.vaults.length + 1) cap2)).putObj (nb + 3) (.deferred none)) := Kept.putObj _ rfl
      refine ⟨by simp, .inl ⟨_, _, rfl, run_takeDeferred hD3, ?_⟩⟩
      refine ⟨.tuple #[], by simp [results, Tryz.f74], ⟨_, rfl⟩, ⟨hxB, nm, qs, (.slice (some ⟨g2, 0, none⟩) (d.vaults.length + 1) cap2), vl ++ [((⟨(d.vaults.length : Int), (parts 44 a0).map nv, nv a1, nv a2, nv a3, 64, 1024, 16, 6, 7, 4, 12, 10⟩ : VaultD), U2, c2)], ?_, ?_⟩, ?_⟩
      · rw [HDC.out]; exact kp.blk bx3 (by show ¬ xb = nb + 3; omega)
      · rw [HDC.out]
        have hz := hr3.apart kp (fun b e => by rw [e]; exact hD3)
        exact ⟨hz.n0, hz.n1, hz.n2, hz.n3, hz.n4⟩
      · exact kw3.trans kp (fun x e => .inl (.inr (by omega)))
    case hstop => intro c i W _ h _; exact h.elim

end Go.Proofs.YtfnfjfcncijapaaGreatDoor
