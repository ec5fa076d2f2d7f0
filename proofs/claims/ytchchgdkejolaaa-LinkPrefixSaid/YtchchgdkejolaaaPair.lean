/- Two byte slices in one array variable. Printed by a small program (genpair.py). -/
import Derived.Test.YtchchgdkejolaaaCalls
namespace Go.Proofs.Ytchchgdkejolaaa
open Go.RowKit

structure PRep (w : World) (F : Nat → Prop) (p : Nat) (x0 x1 : List UInt8) (v0 v1 : Value) : Prop where
  blk : Blk w p 41 #[v0, v1]
  o0 : w.ownsRow 0 5 1 v0 x0.length (bvs x0)
  o1 : w.ownsRow 0 5 1 v1 x1.length (bvs x1)
  fp : F p
  f0 : ∀ g, v0.ownBlock = some g → F g
  f1 : ∀ g, v1.ownBlock = some g → F g
  lt : ∀ k, F k → k < w.heap.size
  d01 : ∀ g, v0.ownBlock = some g → v1.ownBlock ≠ some g

def PairAt (w : World) (F : Nat → Prop) (p : Nat) (x0 x1 : List UInt8) : Prop := ∃ v0 v1, PRep w F p x0 x1 v0 v1

theorem PRep.kept {F G : Nat → Prop} {w w' : World} {p : Nat} {x0 x1 : List UInt8} {v0 v1 : Value} (r : PRep w F p x0 x1 v0 v1) (k : Kept G w w') (hd : ∀ x, F x → ¬ G x) : PRep w' F p x0 x1 v0 v1 :=
  ⟨k.blk r.blk (hd _ r.fp), k.own r.o0 fun g hg => hd _ (r.f0 g hg), k.own r.o1 fun g hg => hd _ (r.f1 g hg), r.fp, r.f0, r.f1, fun x hx => Nat.lt_of_lt_of_le (r.lt x hx) k.size, r.d01⟩
theorem PairAt.kept {F G : Nat → Prop} {w w' : World} {p : Nat} {x0 x1 : List UInt8} (h : PairAt w F p x0 x1) (k : Kept G w w') (hd : ∀ x, F x → ¬ G x) : PairAt w' F p x0 x1 := by
  obtain ⟨v0, v1, r⟩ := h
  exact ⟨v0, v1, r.kept k hd⟩
theorem PairAt.lt {F : Nat → Prop} {w : World} {p : Nat} {x0 x1 : List UInt8} (h : PairAt w F p x0 x1) : ∀ k, F k → k < w.heap.size := by
  obtain ⟨v0, v1, r⟩ := h
  exact r.lt

theorem pair_new {w : World} {p : Nat} (h : Blk w p 41 #[.slice none 0 0, .slice none 0 0]) : PairAt w (fun k => k = p) p [] [] := by
  refine ⟨_, _, ⟨h, World.ownsRow_nil _ _ _ _, World.ownsRow_nil _ _ _ _, rfl, ?_, ?_, fun k hk => hk ▸ h.lt, ?_⟩⟩
  all_goals (intro g hg; simp [Value.ownBlock] at hg)

theorem PRep.app0 {F : Nat → Prop} {w w' : World} {p n : Nat} {x0 x1 : List UInt8} {v0 v1 v' : Value} {ys : List UInt8} (r : PRep w F p x0 x1 v0 v1) (hn : n = (x0 ++ ys).length) (own : w'.ownsRow 0 5 1 v' n (bvs x0 ++ bvs ys))
    (g : w.grownBy w' v0.ownBlock) (hat : v'.ownBlock = v0.ownBlock ∨ v'.ownBlock = some w.heap.size) :
    PRep (w'.setCell ⟨p, 0, none⟩ v') (More F w w') p (x0 ++ ys) x1 v' v1 ∧ Kept F w (w'.setCell ⟨p, 0, none⟩ v') := by
  subst hn
  have hpn : v0.ownBlock ≠ some p := own_blk_ne r.o0 r.blk (by decide)
  have kw : Kept (fun k => v0.ownBlock = some k) w w' := (Kept.refl _ w).grown g (fun k hk => .inl hk)
  have hp : p < w.heap.size := r.blk.lt
  have hb := (kw.blk r.blk hpn).set_ 0 v'
  have ks : Kept (fun k => k = p) w' (w'.setCell ⟨p, 0, none⟩ v') := Kept.set1 _ _ _ _
  have hv' : ∀ k, v'.ownBlock = some k → k ≠ p := by
    intro k hk
    rcases hat with h | h
    · rintro rfl; exact hpn (h.symm.trans hk)
    · rw [h] at hk; injection hk with hk; omega
  have hlt : ∀ k, v'.ownBlock = some k → F k ∨ (w.heap.size ≤ k ∧ k < w'.heap.size) := by
    intro k hk
    rcases hat with h | h
    · exact .inl (r.f0 k (h.symm.trans hk))
    · have := own_lt own hk; rw [h] at hk; injection hk with hk; exact .inr ⟨by omega, this⟩
  have n1 : ∀ k, v1.ownBlock = some k → ¬ v0.ownBlock = some k := fun k hk he => r.d01 k he hk
  have e1 : ∀ k, v1.ownBlock = some k → v'.ownBlock ≠ some k := by
    intro k hk hk'
    rcases hat with h | h
    · exact n1 k hk (h.symm.trans hk')
    · have := own_lt r.o1 hk; rw [h] at hk'; injection hk' with hk'; omega
  have m1 : ∀ k, v1.ownBlock = some k → ¬ k = p := fun k hk e => own_blk_ne r.o1 r.blk (by decide) (e ▸ hk)
  refine ⟨⟨hb, by rw [bvs_append]; exact ks.own own hv', ks.own (kw.own r.o1 n1) m1, .inl r.fp, hlt, fun k hk => .inl (r.f1 k hk), fun k hk => ?_, fun k hk he => e1 k he hk⟩, ?_⟩
  · rw [size_setCell]
    rcases hk with hk | hk
    · exact Nat.lt_of_lt_of_le (r.lt k hk) kw.size
    · exact hk.2
  · exact ((Kept.refl F w).grown g (fun k hk => .inl (r.f0 k hk))).setCell (.inl r.fp) _

theorem PRep.app1 {F : Nat → Prop} {w w' : World} {p n : Nat} {x0 x1 : List UInt8} {v0 v1 v' : Value} {ys : List UInt8} (r : PRep w F p x0 x1 v0 v1) (hn : n = (x1 ++ ys).length) (own : w'.ownsRow 0 5 1 v' n (bvs x1 ++ bvs ys))
    (g : w.grownBy w' v1.ownBlock) (hat : v'.ownBlock = v1.ownBlock ∨ v'.ownBlock = some w.heap.size) :
    PRep (w'.setCell ⟨p, 1, none⟩ v') (More F w w') p x0 (x1 ++ ys) v0 v' ∧ Kept F w (w'.setCell ⟨p, 1, none⟩ v') := by
  subst hn
  have hpn : v1.ownBlock ≠ some p := own_blk_ne r.o1 r.blk (by decide)
  have kw : Kept (fun k => v1.ownBlock = some k) w w' := (Kept.refl _ w).grown g (fun k hk => .inl hk)
  have hp : p < w.heap.size := r.blk.lt
  have hb := (kw.blk r.blk hpn).set_ 1 v'
  have ks : Kept (fun k => k = p) w' (w'.setCell ⟨p, 1, none⟩ v') := Kept.set1 _ _ _ _
  have hv' : ∀ k, v'.ownBlock = some k → k ≠ p := by
    intro k hk
    rcases hat with h | h
    · rintro rfl; exact hpn (h.symm.trans hk)
    · rw [h] at hk; injection hk with hk; omega
  have hlt : ∀ k, v'.ownBlock = some k → F k ∨ (w.heap.size ≤ k ∧ k < w'.heap.size) := by
    intro k hk
    rcases hat with h | h
    · exact .inl (r.f1 k (h.symm.trans hk))
    · have := own_lt own hk; rw [h] at hk; injection hk with hk; exact .inr ⟨by omega, this⟩
  have n0 : ∀ k, v0.ownBlock = some k → ¬ v1.ownBlock = some k := fun k hk he => r.d01 k hk he
  have e0 : ∀ k, v0.ownBlock = some k → v'.ownBlock ≠ some k := by
    intro k hk hk'
    rcases hat with h | h
    · exact n0 k hk (h.symm.trans hk')
    · have := own_lt r.o0 hk; rw [h] at hk'; injection hk' with hk'; omega
  have m0 : ∀ k, v0.ownBlock = some k → ¬ k = p := fun k hk e => own_blk_ne r.o0 r.blk (by decide) (e ▸ hk)
  refine ⟨⟨hb, ks.own (kw.own r.o0 n0) m0, by rw [bvs_append]; exact ks.own own hv', .inl r.fp, fun k hk => .inl (r.f0 k hk), hlt, fun k hk => ?_, e0⟩, ?_⟩
  · rw [size_setCell]
    rcases hk with hk | hk
    · exact Nat.lt_of_lt_of_le (r.lt k hk) kw.size
    · exact hk.2
  · exact ((Kept.refl F w).grown g (fun k hk => .inl (r.f1 k hk))).setCell (.inl r.fp) _

end Go.Proofs.Ytchchgdkejolaaa
