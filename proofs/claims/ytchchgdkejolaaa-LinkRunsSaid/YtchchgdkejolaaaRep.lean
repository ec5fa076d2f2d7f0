/- What a link is in memory, and what a call keeps: plain words over worlds, no program. -/
import Derived.Test.YtchchgdkejolaaaWords
namespace Go.Proofs.Ytchchgdkejolaaa
open Go.RowKit

/-- A byte as a value. -/
def bv (b : UInt8) : Value := .int .u8 (b.toNat : Int)
def bvs (l : List UInt8) : List Value := l.map bv
theorem bvs_length (l : List UInt8) : (bvs l).length = l.length := by simp [bvs]
theorem bvs_append (a b : List UInt8) : bvs (a ++ b) = bvs a ++ bvs b := by simp [bvs]
theorem bvs_take (n : Nat) (a : List UInt8) : bvs (a.take n) = (bvs a).take n := by simp [bvs, List.map_take]
theorem bvs_one (l : List UInt8) : ∀ u ∈ bvs l, u.oneCell' = true := by
  intro u hu
  obtain ⟨x, _, rfl⟩ := List.mem_map.1 hu
  rfl
theorem bvs_get (l : List UInt8) (k : Nat) (h : k < l.length) : (bvs l)[k]? = some (bv l[k]) := by
  simp [bvs, h]

/-- Of what was there only blocks in F have turned. -/
structure Kept (F : Nat → Prop) (w w' : World) : Prop where
  os : w'.os = w.os
  tape : w'.tape = w.tape
  output : w'.output = w.output
  size : w.heap.size ≤ w'.heap.size
  block : ∀ k, k < w.heap.size → ¬ F k → w'.heap[k]? = w.heap[k]?

def NoF (_ : Nat) : Prop := False

section
variable {F G : Nat → Prop} {a b c w w' : World}
theorem Kept.refl (F : Nat → Prop) (w : World) : Kept F w w := ⟨rfl, rfl, rfl, Nat.le_refl _, fun _ _ _ => rfl⟩
theorem Kept.trans (h : Kept F a b) (k : Kept G b c) (hG : ∀ x, G x → F x ∨ a.heap.size ≤ x) : Kept F a c :=
  ⟨k.os.trans h.os, k.tape.trans h.tape, k.output.trans h.output, Nat.le_trans h.size k.size, fun i hi hn =>
    (k.block i (Nat.lt_of_lt_of_le hi h.size) (fun hg => by rcases hG i hg with h1 | h1; exact hn h1; omega)).trans (h.block i hi hn)⟩
theorem Kept.mono (h : Kept F a b) (hF : ∀ x, F x → G x) : Kept G a b := ⟨h.os, h.tape, h.output, h.size, fun i hi hn => h.block i hi fun hf => hn (hF i hf)⟩
theorem Kept.of_below (h : Below a.heap.size a b) : Kept F a b := ⟨h.os, h.tape, h.output, h.size, fun i hi _ => h.block i hi⟩
theorem Kept.below {B : Nat} (h : Kept F a b) (hB : B ≤ a.heap.size) (hF : ∀ x, F x → B ≤ x) : Below B a b :=
  ⟨h.os, h.tape, h.output, h.size, fun k hk => h.block k (by omega) (fun hf => by have := hF k hf; omega)⟩
theorem Kept.drew (h : Kept F a b) : Kept F a b.drew := ⟨h.os, h.tape, h.output, h.size, h.block⟩
theorem Kept.drewN (h : Kept F a b) (n : Nat) : Kept F a (b.drewN n) := ⟨h.os, h.tape, h.output, h.size, h.block⟩
theorem Kept.alloc (h : Kept F a b) (o : Obj) : Kept F a (b.alloc o) :=
  ⟨h.os, h.tape, h.output, Nat.le_trans h.size (by simp), fun i hi hn => (Below.heap_alloc b o i (Nat.lt_of_lt_of_le hi h.size)).trans (h.block i hi hn)⟩
theorem Kept.setCell (h : Kept F a b) {p : Addr} (hp : F p.block ∨ a.heap.size ≤ p.block) (u : Value) : Kept F a (b.setCell p u) :=
  ⟨h.os, h.tape, h.output, by simpa [World.setCell] using h.size, fun i hi hn => (Below.heap_setCell b p u i (by
    rintro rfl
    rcases hp with hp | hp
    · exact hn hp
    · omega)).trans (h.block i hi hn)⟩
theorem Kept.grown {row : Option Nat} (h : Kept F a b) (hg : b.grownBy c row) (hr : ∀ g, row = some g → F g ∨ a.heap.size ≤ g) : Kept F a c :=
  ⟨hg.os.trans h.os, hg.tape.trans h.tape, hg.output.trans h.output, Nat.le_trans h.size hg.size, fun i hi hn =>
    (hg.block i (Nat.lt_of_lt_of_le hi h.size) (fun e => by rcases hr i e.symm with h1 | h1; exact hn h1; omega)).trans (h.block i hi hn)⟩
theorem Kept.cell (h : Kept F w w') {p : Addr} {v : Value} (hc : w.cell? p = some v) (hp : ¬ F p.block) : w'.cell? p = some v :=
  (World.cell?_of_block (h.block p.block (World.block_lt_of_cell? w p hc) hp)).trans hc
theorem Kept.blk {g : Nat} {t : TypeId} {cs : Array Value} (h : Kept F w w') (hb : Blk w g t cs) (hp : ¬ F g) : Blk w' g t cs := (h.block g hb.lt hp).trans hb
theorem Kept.own {base : Nat} {e : TypeId} {size n : Nat} {v : Value} {xs : List Value} (h : Kept F w w') (ho : w.ownsRow base e size v n xs) (hp : ∀ g, v.ownBlock = some g → ¬ F g) : w'.ownsRow base e size v n xs := by
  refine ⟨ho.1, ?_⟩
  rcases ho.2 with hn | ⟨g, cap, cur, rfl, hb, hgg, rest⟩
  · exact .inl hn
  · refine .inr ⟨g, cap, cur, rfl, hb, ?_, rest⟩
    rw [h.block g (Array.getElem?_eq_some_iff.1 hgg).1 (hp g rfl)]
    exact hgg
theorem Kept.reads {B size n : Nat} {A : Option Addr} {xs : List Value} (h : Kept F w w') (hr : Reads w B size A n xs) (hB : B ≤ w.heap.size) (hF : ∀ k, k < B → ¬ F k) : Reads w' B size A n xs :=
  hr.keep fun p hp => World.cell?_of_block (h.block p.block (by omega) (hF _ hp))
end

theorem Reads.take_ {w : World} {B n : Nat} {A : Option Addr} {xs : List Value} (h : Reads w B 1 A n xs) (k : Nat) (hk : k ≤ n) : Reads w B 1 A k (xs.take k) := by
  refine ⟨by rw [List.length_take, h.1]; omega, fun hp => ?_⟩
  obtain ⟨ad, e, hb, hc⟩ := h.2 (by omega)
  exact ⟨ad, e, hb, fun j u hu => hc j u (by rw [List.getElem?_take] at hu; split at hu; exact hu; cases hu)⟩

/-- The source of an append is none of the blocks that have turned. -/
theorem Kept.src {F : Nat → Prop} {w w' : World} {size n : Nat} {A : Option Addr} {xs : List Value} (h : Kept F w w') (hr : Reads w w.heap.size size A n xs) (hF : ∀ ad, A = some ad → 0 < n → ¬ F ad.block) : Reads w' w'.heap.size size A n xs := by
  refine ⟨hr.1, fun hn => ?_⟩
  obtain ⟨ad, e, hb, hc⟩ := hr.2 hn
  exact ⟨ad, e, Nat.lt_of_lt_of_le hb h.size, fun j u hu => (World.cell?_of_block (h.block (ad.add j).block (by rw [block_of_add]; exact hb) (by rw [block_of_add]; exact hF ad e hn))).trans (hc j u hu)⟩

/-- The state of a link. -/
structure LS where
  s0 : List UInt8
  w0 : List UInt8
  s1 : List UInt8
  w1 : List UInt8
  budget : Int
  cut : Int
  down : Bool

/-- Bounds that every link keeps. -/
structure LS.ok (L : LS) : Prop where
  b0 : 0 ≤ L.budget
  b1 : L.budget ≤ 1073741824
  tot : (L.s0.length : Int) + L.s1.length ≤ L.budget
  c0 : -9223372036854775808 ≤ L.cut
  c1 : L.cut ≤ 9223372036854775807
  q0 : L.w0.length ≤ L.s1.length
  q1 : L.w1.length ≤ L.s0.length
  cuts : 0 ≤ L.cut → (L.s0.length : Int) + L.s1.length ≤ L.cut

/-- The link L lies at block p, with the rows v0 .. v3, in the blocks F. -/
structure Rep (w : World) (F : Nat → Prop) (p : Nat) (L : LS) (v0 v1 v2 v3 : Value) : Prop where
  blk : Blk w p 59 #[v0, v1, v2, v3, .int .i64 L.budget, .int .i64 L.cut, .bool L.down]
  o0 : w.ownsRow 0 5 1 v0 L.s0.length (bvs L.s0)
  o1 : w.ownsRow 0 5 1 v1 L.w0.length (bvs L.w0)
  o2 : w.ownsRow 0 5 1 v2 L.s1.length (bvs L.s1)
  o3 : w.ownsRow 0 5 1 v3 L.w1.length (bvs L.w1)
  fp : F p
  f0 : ∀ g, v0.ownBlock = some g → F g
  f1 : ∀ g, v1.ownBlock = some g → F g
  f2 : ∀ g, v2.ownBlock = some g → F g
  f3 : ∀ g, v3.ownBlock = some g → F g
  lt : ∀ k, F k → k < w.heap.size
  d01 : ∀ g, v0.ownBlock = some g → v1.ownBlock ≠ some g
  d02 : ∀ g, v0.ownBlock = some g → v2.ownBlock ≠ some g
  d03 : ∀ g, v0.ownBlock = some g → v3.ownBlock ≠ some g
  d12 : ∀ g, v1.ownBlock = some g → v2.ownBlock ≠ some g
  d13 : ∀ g, v1.ownBlock = some g → v3.ownBlock ≠ some g
  d23 : ∀ g, v2.ownBlock = some g → v3.ownBlock ≠ some g

def LinkAt (w : World) (F : Nat → Prop) (p : Nat) (L : LS) : Prop := L.ok ∧ ∃ v0 v1 v2 v3, Rep w F p L v0 v1 v2 v3

theorem Rep.kept {F G : Nat → Prop} {w w' : World} {p : Nat} {L : LS} {v0 v1 v2 v3 : Value} (r : Rep w F p L v0 v1 v2 v3) (k : Kept G w w') (hd : ∀ x, F x → ¬ G x) : Rep w' F p L v0 v1 v2 v3 :=
  ⟨k.blk r.blk (hd _ r.fp), k.own r.o0 fun g hg => hd _ (r.f0 g hg), k.own r.o1 fun g hg => hd _ (r.f1 g hg), k.own r.o2 fun g hg => hd _ (r.f2 g hg),
    k.own r.o3 fun g hg => hd _ (r.f3 g hg), r.fp, r.f0, r.f1, r.f2, r.f3, fun x hx => Nat.lt_of_lt_of_le (r.lt x hx) k.size, r.d01, r.d02, r.d03, r.d12, r.d13, r.d23⟩
theorem Rep.keptN {F : Nat → Prop} {w w' : World} {p : Nat} {L : LS} {v0 v1 v2 v3 : Value} (r : Rep w F p L v0 v1 v2 v3) (k : Kept NoF w w') : Rep w' F p L v0 v1 v2 v3 := r.kept k fun _ _ h => h
theorem LinkAt.kept {F G : Nat → Prop} {w w' : World} {p : Nat} {L : LS} (h : LinkAt w F p L) (k : Kept G w w') (hd : ∀ x, F x → ¬ G x) : LinkAt w' F p L := by
  obtain ⟨hok, v0, v1, v2, v3, r⟩ := h
  exact ⟨hok, v0, v1, v2, v3, k.blk r.blk (hd _ r.fp), k.own r.o0 fun g hg => hd _ (r.f0 g hg), k.own r.o1 fun g hg => hd _ (r.f1 g hg), k.own r.o2 fun g hg => hd _ (r.f2 g hg),
    k.own r.o3 fun g hg => hd _ (r.f3 g hg), r.fp, r.f0, r.f1, r.f2, r.f3, fun x hx => Nat.lt_of_lt_of_le (r.lt x hx) k.size, r.d01, r.d02, r.d03, r.d12, r.d13, r.d23⟩
theorem LinkAt.lt {F : Nat → Prop} {w : World} {p : Nat} {L : LS} (h : LinkAt w F p L) : ∀ k, F k → k < w.heap.size := by
  obtain ⟨_, v0, v1, v2, v3, r⟩ := h
  exact r.lt
theorem LinkAt.drewN {F : Nat → Prop} {w : World} {p : Nat} {L : LS} (h : LinkAt w F p L) (n : Nat) : LinkAt (w.drewN n) F p L :=
  h.kept (G := NoF) ((Kept.refl _ _).drewN n) (fun _ _ hf => hf)

theorem own_form {w : World} {base : Nat} {e : TypeId} {size n : Nat} {v : Value} {xs : List Value} (h : w.ownsRow base e size v n xs) : ∃ A c, v = .slice A n c ∧ n ≤ c ∧ (∀ ad, A = some ad → ad = ⟨ad.block, 0, none⟩) := by
  rcases h.2 with ⟨rfl, rfl⟩ | ⟨g, cap, cur, rfl, _, _, hl, _⟩
  · exact ⟨none, 0, rfl, Nat.le_refl _, fun _ h => by cases h⟩
  · exact ⟨_, _, rfl, hl, fun ad h => by injection h with h; subst h; rfl⟩

/-- Behind a call on a link: the blocks that it may lie in now. -/
def More (F : Nat → Prop) (w w' : World) : Nat → Prop := fun k => F k ∨ (w.heap.size ≤ k ∧ k < w'.heap.size)

end Go.Proofs.Ytchchgdkejolaaa
