/- Appending to one of a link's four rows, storing into its cells. Printed by a small program (genapp.py). -/
import Derived.Test.YtchchgdkejolaaaRep
namespace Go.Proofs.Ytchchgdkejolaaa
open Go.RowKit

theorem Rep.weaken {F G : Nat → Prop} {w : World} {p : Nat} {L : LS} {v0 v1 v2 v3 : Value} (r : Rep w F p L v0 v1 v2 v3) (h : ∀ k, F k → G k) (hl : ∀ k, G k → k < w.heap.size) : Rep w G p L v0 v1 v2 v3 :=
  ⟨r.blk, r.o0, r.o1, r.o2, r.o3, h _ r.fp, fun g hg => h _ (r.f0 g hg), fun g hg => h _ (r.f1 g hg), fun g hg => h _ (r.f2 g hg), fun g hg => h _ (r.f3 g hg), hl, r.d01, r.d02, r.d03, r.d12, r.d13, r.d23⟩

theorem size_setCell (w : World) (p : Addr) (u : Value) : (w.setCell p u).heap.size = w.heap.size := by simp [World.setCell]

theorem Kept.set1 (w : World) (p i : Nat) (u : Value) : Kept (fun k => k = p) w (w.setCell ⟨p, i, none⟩ u) := by
  refine Kept.setCell (p := ⟨p, i, none⟩) (Kept.refl _ _) (.inl ?_) _
  rfl

theorem own_lt {w : World} {base : Nat} {e : TypeId} {size n g : Nat} {v : Value} {xs : List Value} (h : w.ownsRow base e size v n xs) (hg : v.ownBlock = some g) : g < w.heap.size := (h.lt g hg).2

theorem Rep.app0 {F : Nat → Prop} {w w' : World} {p n : Nat} {L : LS} {v0 v1 v2 v3 v' : Value} {ys : List UInt8} (r : Rep w F p L v0 v1 v2 v3) (hn : n = (L.s0 ++ ys).length) (own : w'.ownsRow 0 5 1 v' n (bvs L.s0 ++ bvs ys))
    (g : w.grownBy w' v0.ownBlock) (hat : v'.ownBlock = v0.ownBlock ∨ v'.ownBlock = some w.heap.size) :
    Rep (w'.setCell ⟨p, 0, none⟩ v') (More F w w') p { L with s0 := L.s0 ++ ys } v' v1 v2 v3 ∧ Kept F w (w'.setCell ⟨p, 0, none⟩ v') := by
  subst hn
  have hpn : v0.ownBlock ≠ some p := own_blk_ne r.o0 r.blk (by decide)
  have kw : Kept (fun k => v0.ownBlock = some k) w w' := (Kept.refl _ w).grown g (fun k hk => .inl hk)
  have hp : p < w.heap.size := r.blk.lt
  have hb := (kw.blk r.blk hpn).set_ 0 v'
  have ks : Kept (fun k => k = p) w' (w'.setCell ⟨p, 0, none⟩ v') := Kept.set1 _ _ _ _
  have hv' : ∀ k, v'.ownBlock = some k → k ≠ p := by
    intro k hk
    rcases hat with h | h
    · rintro rfl; exact hpn (h.symm.trans hk)
    · rw [h] at hk; injection hk with hk; omega
  have hlt : ∀ k, v'.ownBlock = some k → F k ∨ (w.heap.size ≤ k ∧ k < w'.heap.size) := by
    intro k hk
    rcases hat with h | h
    · exact .inl (r.f0 k (h.symm.trans hk))
    · have := own_lt own hk; rw [h] at hk; injection hk with hk; exact .inr ⟨by omega, this⟩
  have n1 : ∀ k, v1.ownBlock = some k → ¬ v0.ownBlock = some k := fun k hk he => r.d01 k he hk
  have e1 : ∀ k, v1.ownBlock = some k → v'.ownBlock ≠ some k := by
    intro k hk hk'
    rcases hat with h | h
    · exact n1 k hk (h.symm.trans hk')
    · have := own_lt r.o1 hk; rw [h] at hk'; injection hk' with hk'; omega
  have m1 : ∀ k, v1.ownBlock = some k → ¬ k = p := fun k hk e => own_blk_ne r.o1 r.blk (by decide) (e ▸ hk)
  have n2 : ∀ k, v2.ownBlock = some k → ¬ v0.ownBlock = some k := fun k hk he => r.d02 k he hk
  have e2 : ∀ k, v2.ownBlock = some k → v'.ownBlock ≠ some k := by
    intro k hk hk'
    rcases hat with h | h
    · exact n2 k hk (h.symm.trans hk')
    · have := own_lt r.o2 hk; rw [h] at hk'; injection hk' with hk'; omega
  have m2 : ∀ k, v2.ownBlock = some k → ¬ k = p := fun k hk e => own_blk_ne r.o2 r.blk (by decide) (e ▸ hk)
  have n3 : ∀ k, v3.ownBlock = some k → ¬ v0.ownBlock = some k := fun k hk he => r.d03 k he hk
  have e3 : ∀ k, v3.ownBlock = some k → v'.ownBlock ≠ some k := by
    intro k hk hk'
    rcases hat with h | h
    · exact n3 k hk (h.symm.trans hk')
    · have := own_lt r.o3 hk; rw [h] at hk'; injection hk' with hk'; omega
  have m3 : ∀ k, v3.ownBlock = some k → ¬ k = p := fun k hk e => own_blk_ne r.o3 r.blk (by decide) (e ▸ hk)
  refine ⟨⟨hb, by rw [bvs_append]; exact ks.own own hv', ks.own (kw.own r.o1 n1) m1, ks.own (kw.own r.o2 n2) m2, ks.own (kw.own r.o3 n3) m3, .inl r.fp, hlt, fun k hk => .inl (r.f1 k hk), fun k hk => .inl (r.f2 k hk), fun k hk => .inl (r.f3 k hk), fun k hk => ?_, fun k hk he => e1 k he hk, fun k hk he => e2 k he hk, fun k hk he => e3 k he hk, r.d12, r.d13, r.d23⟩, ?_⟩
  · rw [size_setCell]
    rcases hk with hk | hk
    · exact Nat.lt_of_lt_of_le (r.lt k hk) kw.size
    · exact hk.2
  · exact ((Kept.refl F w).grown g (fun k hk => .inl (r.f0 k hk))).setCell (.inl r.fp) _

theorem Rep.app1 {F : Nat → Prop} {w w' : World} {p n : Nat} {L : LS} {v0 v1 v2 v3 v' : Value} {ys : List UInt8} (r : Rep w F p L v0 v1 v2 v3) (hn : n = (L.w0 ++ ys).length) (own : w'.ownsRow 0 5 1 v' n (bvs L.w0 ++ bvs ys))
    (g : w.grownBy w' v1.ownBlock) (hat : v'.ownBlock = v1.ownBlock ∨ v'.ownBlock = some w.heap.size) :
    Rep (w'.setCell ⟨p, 1, none⟩ v') (More F w w') p { L with w0 := L.w0 ++ ys } v0 v' v2 v3 ∧ Kept F w (w'.setCell ⟨p, 1, none⟩ v') := by
  subst hn
  have hpn : v1.ownBlock ≠ some p := own_blk_ne r.o1 r.blk (by decide)
  have kw : Kept (fun k => v1.ownBlock = some k) w w' := (Kept.refl _ w).grown g (fun k hk => .inl hk)
  have hp : p < w.heap.size := r.blk.lt
  have hb := (kw.blk r.blk hpn).set_ 1 v'
  have ks : Kept (fun k => k = p) w' (w'.setCell ⟨p, 1, none⟩ v') := Kept.set1 _ _ _ _
  have hv' : ∀ k, v'.ownBlock = some k → k ≠ p := by
    intro k hk
    rcases hat with h | h
    · rintro rfl; exact hpn (h.symm.trans hk)
    · rw [h] at hk; injection hk with hk; omega
  have hlt : ∀ k, v'.ownBlock = some k → F k ∨ (w.heap.size ≤ k ∧ k < w'.heap.size) := by
    intro k hk
    rcases hat with h | h
    · exact .inl (r.f1 k (h.symm.trans hk))
    · have := own_lt own hk; rw [h] at hk; injection hk with hk; exact .inr ⟨by omega, this⟩
  have n0 : ∀ k, v0.ownBlock = some k → ¬ v1.ownBlock = some k := fun k hk he => r.d01 k hk he
  have e0 : ∀ k, v0.ownBlock = some k → v'.ownBlock ≠ some k := by
    intro k hk hk'
    rcases hat with h | h
    · exact n0 k hk (h.symm.trans hk')
    · have := own_lt r.o0 hk; rw [h] at hk'; injection hk' with hk'; omega
  have m0 : ∀ k, v0.ownBlock = some k → ¬ k = p := fun k hk e => own_blk_ne r.o0 r.blk (by decide) (e ▸ hk)
  have n2 : ∀ k, v2.ownBlock = some k → ¬ v1.ownBlock = some k := fun k hk he => r.d12 k he hk
  have e2 : ∀ k, v2.ownBlock = some k → v'.ownBlock ≠ some k := by
    intro k hk hk'
    rcases hat with h | h
    · exact n2 k hk (h.symm.trans hk')
    · have := own_lt r.o2 hk; rw [h] at hk'; injection hk' with hk'; omega
  have m2 : ∀ k, v2.ownBlock = some k → ¬ k = p := fun k hk e => own_blk_ne r.o2 r.blk (by decide) (e ▸ hk)
  have n3 : ∀ k, v3.ownBlock = some k → ¬ v1.ownBlock = some k := fun k hk he => r.d13 k he hk
  have e3 : ∀ k, v3.ownBlock = some k → v'.ownBlock ≠ some k := by
    intro k hk hk'
    rcases hat with h | h
    · exact n3 k hk (h.symm.trans hk')
    · have := own_lt r.o3 hk; rw [h] at hk'; injection hk' with hk'; omega
  have m3 : ∀ k, v3.ownBlock = some k → ¬ k = p := fun k hk e => own_blk_ne r.o3 r.blk (by decide) (e ▸ hk)
  refine ⟨⟨hb, ks.own (kw.own r.o0 n0) m0, by rw [bvs_append]; exact ks.own own hv', ks.own (kw.own r.o2 n2) m2, ks.own (kw.own r.o3 n3) m3, .inl r.fp, fun k hk => .inl (r.f0 k hk), hlt, fun k hk => .inl (r.f2 k hk), fun k hk => .inl (r.f3 k hk), fun k hk => ?_, e0, r.d02, r.d03, fun k hk he => e2 k he hk, fun k hk he => e3 k he hk, r.d23⟩, ?_⟩
  · rw [size_setCell]
    rcases hk with hk | hk
    · exact Nat.lt_of_lt_of_le (r.lt k hk) kw.size
    · exact hk.2
  · exact ((Kept.refl F w).grown g (fun k hk => .inl (r.f1 k hk))).setCell (.inl r.fp) _

theorem Rep.app2 {F : Nat → Prop} {w w' : World} {p n : Nat} {L : LS} {v0 v1 v2 v3 v' : Value} {ys : List UInt8} (r : Rep w F p L v0 v1 v2 v3) (hn : n = (L.s1 ++ ys).length) (own : w'.ownsRow 0 5 1 v' n (bvs L.s1 ++ bvs ys))
    (g : w.grownBy w' v2.ownBlock) (hat : v'.ownBlock = v2.ownBlock ∨ v'.ownBlock = some w.heap.size) :
    Rep (w'.setCell ⟨p, 2, none⟩ v') (More F w w') p { L with s1 := L.s1 ++ ys } v0 v1 v' v3 ∧ Kept F w (w'.setCell ⟨p, 2, none⟩ v') := by
  subst hn
  have hpn : v2.ownBlock ≠ some p := own_blk_ne r.o2 r.blk (by decide)
  have kw : Kept (fun k => v2.ownBlock = some k) w w' := (Kept.refl _ w).grown g (fun k hk => .inl hk)
  have hp : p < w.heap.size := r.blk.lt
  have hb := (kw.blk r.blk hpn).set_ 2 v'
  have ks : Kept (fun k => k = p) w' (w'.setCell ⟨p, 2, none⟩ v') := Kept.set1 _ _ _ _
  have hv' : ∀ k, v'.ownBlock = some k → k ≠ p := by
    intro k hk
    rcases hat with h | h
    · rintro rfl; exact hpn (h.symm.trans hk)
    · rw [h] at hk; injection hk with hk; omega
  have hlt : ∀ k, v'.ownBlock = some k → F k ∨ (w.heap.size ≤ k ∧ k < w'.heap.size) := by
    intro k hk
    rcases hat with h | h
    · exact .inl (r.f2 k (h.symm.trans hk))
    · have := own_lt own hk; rw [h] at hk; injection hk with hk; exact .inr ⟨by omega, this⟩
  have n0 : ∀ k, v0.ownBlock = some k → ¬ v2.ownBlock = some k := fun k hk he => r.d02 k hk he
  have e0 : ∀ k, v0.ownBlock = some k → v'.ownBlock ≠ some k := by
    intro k hk hk'
    rcases hat with h | h
    · exact n0 k hk (h.symm.trans hk')
    · have := own_lt r.o0 hk; rw [h] at hk'; injection hk' with hk'; omega
  have m0 : ∀ k, v0.ownBlock = some k → ¬ k = p := fun k hk e => own_blk_ne r.o0 r.blk (by decide) (e ▸ hk)
  have n1 : ∀ k, v1.ownBlock = some k → ¬ v2.ownBlock = some k := fun k hk he => r.d12 k hk he
  have e1 : ∀ k, v1.ownBlock = some k → v'.ownBlock ≠ some k := by
    intro k hk hk'
    rcases hat with h | h
    · exact n1 k hk (h.symm.trans hk')
    · have := own_lt r.o1 hk; rw [h] at hk'; injection hk' with hk'; omega
  have m1 : ∀ k, v1.ownBlock = some k → ¬ k = p := fun k hk e => own_blk_ne r.o1 r.blk (by decide) (e ▸ hk)
  have n3 : ∀ k, v3.ownBlock = some k → ¬ v2.ownBlock = some k := fun k hk he => r.d23 k he hk
  have e3 : ∀ k, v3.ownBlock = some k → v'.ownBlock ≠ some k := by
    intro k hk hk'
    rcases hat with h | h
    · exact n3 k hk (h.symm.trans hk')
    · have := own_lt r.o3 hk; rw [h] at hk'; injection hk' with hk'; omega
  have m3 : ∀ k, v3.ownBlock = some k → ¬ k = p := fun k hk e => own_blk_ne r.o3 r.blk (by decide) (e ▸ hk)
  refine ⟨⟨hb, ks.own (kw.own r.o0 n0) m0, ks.own (kw.own r.o1 n1) m1, by rw [bvs_append]; exact ks.own own hv', ks.own (kw.own r.o3 n3) m3, .inl r.fp, fun k hk => .inl (r.f0 k hk), fun k hk => .inl (r.f1 k hk), hlt, fun k hk => .inl (r.f3 k hk), fun k hk => ?_, r.d01, e0, r.d03, e1, r.d13, fun k hk he => e3 k he hk⟩, ?_⟩
  · rw [size_setCell]
    rcases hk with hk | hk
    · exact Nat.lt_of_lt_of_le (r.lt k hk) kw.size
    · exact hk.2
  · exact ((Kept.refl F w).grown g (fun k hk => .inl (r.f2 k hk))).setCell (.inl r.fp) _

theorem Rep.app3 {F : Nat → Prop} {w w' : World} {p n : Nat} {L : LS} {v0 v1 v2 v3 v' : Value} {ys : List UInt8} (r : Rep w F p L v0 v1 v2 v3) (hn : n = (L.w1 ++ ys).length) (own : w'.ownsRow 0 5 1 v' n (bvs L.w1 ++ bvs ys))
    (g : w.grownBy w' v3.ownBlock) (hat : v'.ownBlock = v3.ownBlock ∨ v'.ownBlock = some w.heap.size) :
    Rep (w'.setCell ⟨p, 3, none⟩ v') (More F w w') p { L with w1 := L.w1 ++ ys } v0 v1 v2 v' ∧ Kept F w (w'.setCell ⟨p, 3, none⟩ v') := by
  subst hn
  have hpn : v3.ownBlock ≠ some p := own_blk_ne r.o3 r.blk (by decide)
  have kw : Kept (fun k => v3.ownBlock = some k) w w' := (Kept.refl _ w).grown g (fun k hk => .inl hk)
  have hp : p < w.heap.size := r.blk.lt
  have hb := (kw.blk r.blk hpn).set_ 3 v'
  have ks : Kept (fun k => k = p) w' (w'.setCell ⟨p, 3, none⟩ v') := Kept.set1 _ _ _ _
  have hv' : ∀ k, v'.ownBlock = some k → k ≠ p := by
    intro k hk
    rcases hat with h | h
    · rintro rfl; exact hpn (h.symm.trans hk)
    · rw [h] at hk; injection hk with hk; omega
  have hlt : ∀ k, v'.ownBlock = some k → F k ∨ (w.heap.size ≤ k ∧ k < w'.heap.size) := by
    intro k hk
    rcases hat with h | h
    · exact .inl (r.f3 k (h.symm.trans hk))
    · have := own_lt own hk; rw [h] at hk; injection hk with hk; exact .inr ⟨by omega, this⟩
  have n0 : ∀ k, v0.ownBlock = some k → ¬ v3.ownBlock = some k := fun k hk he => r.d03 k hk he
  have e0 : ∀ k, v0.ownBlock = some k → v'.ownBlock ≠ some k := by
    intro k hk hk'
    rcases hat with h | h
    · exact n0 k hk (h.symm.trans hk')
    · have := own_lt r.o0 hk; rw [h] at hk'; injection hk' with hk'; omega
  have m0 : ∀ k, v0.ownBlock = some k → ¬ k = p := fun k hk e => own_blk_ne r.o0 r.blk (by decide) (e ▸ hk)
  have n1 : ∀ k, v1.ownBlock = some k → ¬ v3.ownBlock = some k := fun k hk he => r.d13 k hk he
  have e1 : ∀ k, v1.ownBlock = some k → v'.ownBlock ≠ some k := by
    intro k hk hk'
    rcases hat with h | h
    · exact n1 k hk (h.symm.trans hk')
    · have := own_lt r.o1 hk; rw [h] at hk'; injection hk' with hk'; omega
  have m1 : ∀ k, v1.ownBlock = some k → ¬ k = p := fun k hk e => own_blk_ne r.o1 r.blk (by decide) (e ▸ hk)
  have n2 : ∀ k, v2.ownBlock = some k → ¬ v3.ownBlock = some k := fun k hk he => r.d23 k hk he
  have e2 : ∀ k, v2.ownBlock = some k → v'.ownBlock ≠ some k := by
    intro k hk hk'
    rcases hat with h | h
    · exact n2 k hk (h.symm.trans hk')
    · have := own_lt r.o2 hk; rw [h] at hk'; injection hk' with hk'; omega
  have m2 : ∀ k, v2.ownBlock = some k → ¬ k = p := fun k hk e => own_blk_ne r.o2 r.blk (by decide) (e ▸ hk)
  refine ⟨⟨hb, ks.own (kw.own r.o0 n0) m0, ks.own (kw.own r.o1 n1) m1, ks.own (kw.own r.o2 n2) m2, by rw [bvs_append]; exact ks.own own hv', .inl r.fp, fun k hk => .inl (r.f0 k hk), fun k hk => .inl (r.f1 k hk), fun k hk => .inl (r.f2 k hk), hlt, fun k hk => ?_, r.d01, r.d02, e0, r.d12, e1, e2⟩, ?_⟩
  · rw [size_setCell]
    rcases hk with hk | hk
    · exact Nat.lt_of_lt_of_le (r.lt k hk) kw.size
    · exact hk.2
  · exact ((Kept.refl F w).grown g (fun k hk => .inl (r.f3 k hk))).setCell (.inl r.fp) _

theorem Rep.nil1 {F : Nat → Prop} {w : World} {p : Nat} {L : LS} {v0 v1 v2 v3 : Value} (r : Rep w F p L v0 v1 v2 v3) :
    Rep (w.setCell ⟨p, 1, none⟩ (.slice none 0 0)) F p { L with w0 := [] } v0 (.slice none 0 0) v2 v3 ∧ Kept F w (w.setCell ⟨p, 1, none⟩ (.slice none 0 0)) := by
  have ks : Kept (fun k => k = p) w (w.setCell ⟨p, 1, none⟩ (.slice none 0 0)) := Kept.set1 _ _ _ _
  have hb := r.blk.set_ 1 (.slice none 0 0)
  exact ⟨⟨hb, ks.own r.o0 fun k hk e => own_blk_ne r.o0 r.blk (by decide) (e ▸ hk), World.ownsRow_nil _ _ _ _, ks.own r.o2 fun k hk e => own_blk_ne r.o2 r.blk (by decide) (e ▸ hk), ks.own r.o3 fun k hk e => own_blk_ne r.o3 r.blk (by decide) (e ▸ hk), r.fp, r.f0, fun k hk => by simp [Value.ownBlock] at hk, r.f2, r.f3, fun k hk => by rw [size_setCell]; exact r.lt k hk, fun k hk => by simp [Value.ownBlock], r.d02, r.d03, fun k hk => by simp [Value.ownBlock] at hk, fun k hk => by simp [Value.ownBlock] at hk, r.d23⟩, ks.mono fun k hk => hk ▸ r.fp⟩

theorem Rep.nil3 {F : Nat → Prop} {w : World} {p : Nat} {L : LS} {v0 v1 v2 v3 : Value} (r : Rep w F p L v0 v1 v2 v3) :
    Rep (w.setCell ⟨p, 3, none⟩ (.slice none 0 0)) F p { L with w1 := [] } v0 v1 v2 (.slice none 0 0) ∧ Kept F w (w.setCell ⟨p, 3, none⟩ (.slice none 0 0)) := by
  have ks : Kept (fun k => k = p) w (w.setCell ⟨p, 3, none⟩ (.slice none 0 0)) := Kept.set1 _ _ _ _
  have hb := r.blk.set_ 3 (.slice none 0 0)
  exact ⟨⟨hb, ks.own r.o0 fun k hk e => own_blk_ne r.o0 r.blk (by decide) (e ▸ hk), ks.own r.o1 fun k hk e => own_blk_ne r.o1 r.blk (by decide) (e ▸ hk), ks.own r.o2 fun k hk e => own_blk_ne r.o2 r.blk (by decide) (e ▸ hk), World.ownsRow_nil _ _ _ _, r.fp, r.f0, r.f1, r.f2, fun k hk => by simp [Value.ownBlock] at hk, fun k hk => by rw [size_setCell]; exact r.lt k hk, r.d01, r.d02, fun k hk => by simp [Value.ownBlock], r.d12, fun k hk => by simp [Value.ownBlock], fun k hk => by simp [Value.ownBlock]⟩, ks.mono fun k hk => hk ▸ r.fp⟩

theorem Rep.setDown {F : Nat → Prop} {w : World} {p : Nat} {L : LS} {v0 v1 v2 v3 : Value} (r : Rep w F p L v0 v1 v2 v3) (d : Bool) :
    Rep (w.setCell ⟨p, 6, none⟩ (.bool d)) F p { L with down := d } v0 v1 v2 v3 ∧ Kept F w (w.setCell ⟨p, 6, none⟩ (.bool d)) := by
  have ks : Kept (fun k => k = p) w (w.setCell ⟨p, 6, none⟩ (.bool d)) := Kept.set1 _ _ _ _
  have hb := r.blk.set_ 6 (.bool d)
  exact ⟨⟨hb, ks.own r.o0 fun k hk e => own_blk_ne r.o0 r.blk (by decide) (e ▸ hk), ks.own r.o1 fun k hk e => own_blk_ne r.o1 r.blk (by decide) (e ▸ hk), ks.own r.o2 fun k hk e => own_blk_ne r.o2 r.blk (by decide) (e ▸ hk), ks.own r.o3 fun k hk e => own_blk_ne r.o3 r.blk (by decide) (e ▸ hk), r.fp, r.f0, r.f1, r.f2, r.f3, fun k hk => by rw [size_setCell]; exact r.lt k hk, r.d01, r.d02, r.d03, r.d12, r.d13, r.d23⟩, ks.mono fun k hk => hk ▸ r.fp⟩

end Go.Proofs.Ytchchgdkejolaaa
