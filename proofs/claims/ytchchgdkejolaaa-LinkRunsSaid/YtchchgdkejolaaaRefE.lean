/- The reference's Send: the loop (printed by genrefE.py). -/
import Derived.Test.YtchchgdkejolaaaRefC
import Derived.Deep.DeepCutAuto
namespace Go.Proofs.Ytchchgdkejolaaa
open Go.RowKit

/-- The blocks of the link and the two that the call itself made. -/
def FB (F : Nat → Prop) (p : Nat) : Nat → Prop := fun k => F k ∨ k = p ∨ k = p + 1

theorem Src.box {w w' : World} {F : Nat → Prop} {A : Option Addr} {xs : List UInt8} (h : Src w F A xs) (k : Kept NoF w w') : Src w' (FB F w.heap.size) A xs := by
  refine ⟨k.src h.1 (fun _ _ _ h => h), fun ad e hp hm => ?_⟩
  obtain ⟨ad', e', hb, _⟩ := h.1.2 hp
  rw [e] at e'
  injection e' with e'
  subst e'
  rcases hm with hm | hm | hm
  · exact h.2 ad e hp hm
  · omega
  · omega
theorem RefOk.box {w w' : World} {F : Nat → Prop} {L : LS} {r : RV} (h : RefOk w F L r) (k : Kept NoF w w') : RefOk w' (FB F w.heap.size) L r :=
  ⟨h.s0.box k, h.s1.box k, h.w0.box k, h.w1.box k, h.b2, h.b3⟩
theorem Src.unbox {w : World} {F : Nat → Prop} {p : Nat} {A : Option Addr} {xs : List UInt8} (h : Src w (FB F p) A xs) : Src w F A xs := ⟨h.1, fun ad e hp hf => h.2 ad e hp (.inl hf)⟩
theorem RefOk.unbox {w : World} {F : Nat → Prop} {p : Nat} {L : LS} {r : RV} (h : RefOk w (FB F p) L r) : RefOk w F L r :=
  ⟨h.s0.unbox, h.s1.unbox, h.w0.unbox, h.w1.unbox, h.b2, h.b3⟩

theorem RefOk.fin {w wd w9 : World} {F : Nat → Prop} {M M' : LS} {r : RV} (h : RefOk wd (FB F w.heap.size) M r) (kd : Kept NoF w wd) (k : Kept (fun k => k = w.heap.size + 1) wd w9) (e0 : M'.s0 = M.s0) (e1 : M'.s1 = M.s1) (e2 : M'.w0 = M.w0) (e3 : M'.w1 = M.w1) :
    RefOk w9 F M' r ∧ Kept NoF w w9 := by
  have h9 := (h.kept k (fun x h => .inr (.inr h))).unbox
  exact ⟨⟨e0 ▸ h9.s0, e1 ▸ h9.s1, e2 ▸ h9.w0, e3 ▸ h9.w1, e2 ▸ h9.b2, e3 ▸ h9.b3⟩, kd.trans k (fun x h => .inr (by omega))⟩

/-- The loop of the reference's Send: behind j bytes. -/
def RSRel (w : World) (F : Nat → Prop) (L : LS) (k : Int) (xs : List UInt8) (i : Value) (wr : World) : Prop :=
  ∃ (j : Nat) (r : RV), j ≤ xs.length ∧ i = .int .i64 (j : Int) ∧ Blk wr w.heap.size 46 (r.cells (L.put k (xs.take j) false)) ∧ Blk wr (w.heap.size + 1) 46 #[.int .i64 0, .int .i64 0, .slice none 0 0, .slice none 0 0, .slice none 0 0, .slice none 0 0, .bool false] ∧
    RefOk wr (FB F w.heap.size) (L.put k (xs.take j) false) r ∧ Kept NoF w wr ∧ w.heap.size + 2 ≤ wr.heap.size ∧ (0 ≤ L.cut → L.total + j ≤ L.cut)

theorem mkE (W : World) : (W.alloc (.cells #[] 5)).ownsRow 0 5 1 (.slice (some ⟨W.heap.size, 0, none⟩) 0 0) 0 [] := World.ownsRow_made W #[] 0 (Nat.zero_le _) (by simp only [maxLen]; omega) rfl
theorem mkB (W : World) (b : UInt8) : Reads (W.alloc (.cells #[.int .u8 (b.toNat : Int)] 5)) (W.alloc (.cells #[.int .u8 (b.toNat : Int)] 5)).heap.size 1 (some ⟨W.heap.size, 0, none⟩) 1 (bvs [b]) := by
  refine Reads.of_own (base := 0) (e := 5) (c := 1) ⟨rfl, .inr ⟨W.heap.size, 1, _, rfl, Nat.zero_le _, heap_alloc_new W _, Nat.le_refl _, by simp only [maxLen]; omega, rfl, ?_⟩⟩
  simp [bvs, bv]
theorem hb_new {wy : World} {g : Nat} (h : wy.heap.size ≤ g) : ∀ g', (Value.slice (some ⟨g, 0, none⟩) 0 0).ownBlock = some g' → wy.heap.size ≤ g' := by
  intro g' hg
  simp only [Value.ownBlock] at hg
  injection hg with hg
  omega
theorem hb_next {wy W : World} {v v' : Value} (hb : ∀ g, v.ownBlock = some g → wy.heap.size ≤ g) (hs : wy.heap.size ≤ W.heap.size) (hat : v'.ownBlock = v.ownBlock ∨ v'.ownBlock = some W.heap.size) : ∀ g, v'.ownBlock = some g → wy.heap.size ≤ g := by
  intro g hg
  rcases hat with h | h
  · exact hb g (h.symm.trans hg)
  · rw [h] at hg; injection hg with hg; omega
theorem rd_next {W W' : World} {v : Value} {ad : Addr} {n : Nat} {xs : List Value} (h : Reads W W.heap.size 1 (some ad) n xs) (g6 : W.grownBy W' v.ownBlock) (hne : ∀ g, v.ownBlock = some g → ad.block ≠ g) : Reads W' W'.heap.size 1 (some ad) n xs :=
  ((Kept.refl (fun k => v.ownBlock = some k) W).grown g6 (fun g hg => .inl hg)).src h (fun ad' e _ hv => by injection e with e; exact hne _ hv (e ▸ rfl))

theorem own_block_some {w : World} {base : Nat} {e : TypeId} {size n c : Nat} {ad : Addr} {A : Option Addr} {xs : List Value} (h : w.ownsRow base e size (.slice A n c) n xs) (hA : A = some ad) : (Value.slice A n c).ownBlock = some ad.block := by
  subst hA
  obtain ⟨A', c', e', _, hA'⟩ := own_form h
  injection e' with e' _ _
  subst e'
  rw [hA' ad rfl]
  rfl

theorem ref_app_s0 {w wy w8 : World} {F : Nat → Prop} {p : Nat} {M : LS} {r' : RV} {b : UInt8} {A8 : Option Addr} {c8 : Nat} (hMd : M.down = false) (roy : RefOk wy (FB F p) M r') (hly : ∀ k, FB F p k → k < wy.heap.size)
    (by_ : Blk wy p 46 #[.int .i64 M.budget, .int .i64 M.cut, .slice r'.A0 M.s0.length r'.c0, .slice r'.A1 M.s1.length r'.c1, .slice r'.A2 M.w0.length r'.c2, .slice r'.A3 M.w1.length r'.c3, .bool false]) (bzy : Blk wy (p + 1) 46 #[.int .i64 0, .int .i64 0, .slice none 0 0, .slice none 0 0, .slice none 0 0, .slice none 0 0, .bool false]) (k8 : Kept NoF wy w8)
    (own8 : w8.ownsRow 0 5 1 (.slice A8 (M.s0.length + 1) c8) (M.s0.length + 1) (bvs M.s0 ++ bvs [b])) (hb8 : ∀ g, (Value.slice A8 (M.s0.length + 1) c8).ownBlock = some g → wy.heap.size ≤ g)
    (kwy : Kept NoF w wy) (hp : w.heap.size ≤ p) :
    ∃ r1 : RV, Blk (w8.setCell ⟨p, 2, none⟩ (.slice A8 (M.s0.length + 1) c8)) p 46 (r1.cells { M with s0 := M.s0 ++ [b] }) ∧ Blk (w8.setCell ⟨p, 2, none⟩ (.slice A8 (M.s0.length + 1) c8)) (p + 1) 46 #[.int .i64 0, .int .i64 0, .slice none 0 0, .slice none 0 0, .slice none 0 0, .slice none 0 0, .bool false] ∧
      RefOk (w8.setCell ⟨p, 2, none⟩ (.slice A8 (M.s0.length + 1) c8)) (FB F p) { M with s0 := M.s0 ++ [b] } r1 ∧ Kept NoF w (w8.setCell ⟨p, 2, none⟩ (.slice A8 (M.s0.length + 1) c8)) ∧ p + 2 ≤ (w8.setCell ⟨p, 2, none⟩ (.slice A8 (M.s0.length + 1) c8)).heap.size := by
  have hlen : M.s0.length + 1 = (M.s0 ++ [b]).length := by simp
  have hbv : bvs M.s0 ++ bvs [b] = bvs (M.s0 ++ [b]) := by rw [bvs_append]
  rw [hbv] at own8
  rw [hlen] at own8 hb8 ⊢
  have hcap : (M.s0 ++ [b]).length ≤ c8 := by
    obtain ⟨A, c, e, h, _⟩ := own_form own8
    injection e with _ _ e
    omega
  have hz : p + 2 ≤ wy.heap.size := by have := hly (p + 1) (.inr (.inr rfl)); omega
  have ks := Kept.set1 w8 p 2 (.slice A8 (M.s0 ++ [b]).length c8)
  have hbk := (k8.blk by_ (fun h => h)).set_ 2 (.slice A8 (M.s0 ++ [b]).length c8)
  have hzk := (k8.blk bzy (fun h => h)).far (p := ⟨p, 2, none⟩) (by simp) (.slice A8 (M.s0 ++ [b]).length c8)
  have hk := (roy.keptN k8).kept ks (fun x h => .inr (.inl h))
  have hs := k8.size
  have hrd : ∀ ad, A8 = some ad → 0 < (M.s0 ++ [b]).length → wy.heap.size ≤ ad.block := by
    intro ad e hpos
    subst e
    exact hb8 ad.block (own_block_some own8 rfl)
  have hn : Src (w8.setCell ⟨p, 2, none⟩ (.slice A8 (M.s0 ++ [b]).length c8)) (FB F p) A8 (M.s0 ++ [b]) := by
    refine ⟨ks.src (Reads.of_own own8) (fun ad e hpos h => ?_), fun ad e hpos hf => ?_⟩
    · have := hrd ad e hpos; omega
    · have := hrd ad e hpos; have := hly _ hf; omega
  refine ⟨{ r' with A0 := A8, c0 := c8 }, ?_, hzk, ⟨hn, hk.s1, hk.w0, hk.w1, roy.b2, roy.b3⟩, (kwy.trans k8 (fun _ h => .inl h)).trans ks (fun x h => .inr (by omega)), by rw [size_setCell]; omega⟩
  rw [RV.cells]
  simp only [hMd]
  exact hbk

theorem ref_app_s1 {w wy w8 : World} {F : Nat → Prop} {p : Nat} {M : LS} {r' : RV} {b : UInt8} {A8 : Option Addr} {c8 : Nat} (hMd : M.down = false) (roy : RefOk wy (FB F p) M r') (hly : ∀ k, FB F p k → k < wy.heap.size)
    (by_ : Blk wy p 46 #[.int .i64 M.budget, .int .i64 M.cut, .slice r'.A0 M.s0.length r'.c0, .slice r'.A1 M.s1.length r'.c1, .slice r'.A2 M.w0.length r'.c2, .slice r'.A3 M.w1.length r'.c3, .bool false]) (bzy : Blk wy (p + 1) 46 #[.int .i64 0, .int .i64 0, .slice none 0 0, .slice none 0 0, .slice none 0 0, .slice none 0 0, .bool false]) (k8 : Kept NoF wy w8)
    (own8 : w8.ownsRow 0 5 1 (.slice A8 (M.s1.length + 1) c8) (M.s1.length + 1) (bvs M.s1 ++ bvs [b])) (hb8 : ∀ g, (Value.slice A8 (M.s1.length + 1) c8).ownBlock = some g → wy.heap.size ≤ g)
    (kwy : Kept NoF w wy) (hp : w.heap.size ≤ p) :
    ∃ r1 : RV, Blk (w8.setCell ⟨p, 3, none⟩ (.slice A8 (M.s1.length + 1) c8)) p 46 (r1.cells { M with s1 := M.s1 ++ [b] }) ∧ Blk (w8.setCell ⟨p, 3, none⟩ (.slice A8 (M.s1.length + 1) c8)) (p + 1) 46 #[.int .i64 0, .int .i64 0, .slice none 0 0, .slice none 0 0, .slice none 0 0, .slice none 0 0, .bool false] ∧
      RefOk (w8.setCell ⟨p, 3, none⟩ (.slice A8 (M.s1.length + 1) c8)) (FB F p) { M with s1 := M.s1 ++ [b] } r1 ∧ Kept NoF w (w8.setCell ⟨p, 3, none⟩ (.slice A8 (M.s1.length + 1) c8)) ∧ p + 2 ≤ (w8.setCell ⟨p, 3, none⟩ (.slice A8 (M.s1.length + 1) c8)).heap.size := by
  have hlen : M.s1.length + 1 = (M.s1 ++ [b]).length := by simp
  have hbv : bvs M.s1 ++ bvs [b] = bvs (M.s1 ++ [b]) := by rw [bvs_append]
  rw [hbv] at own8
  rw [hlen] at own8 hb8 ⊢
  have hcap : (M.s1 ++ [b]).length ≤ c8 := by
    obtain ⟨A, c, e, h, _⟩ := own_form own8
    injection e with _ _ e
    omega
  have hz : p + 2 ≤ wy.heap.size := by have := hly (p + 1) (.inr (.inr rfl)); omega
  have ks := Kept.set1 w8 p 3 (.slice A8 (M.s1 ++ [b]).length c8)
  have hbk := (k8.blk by_ (fun h => h)).set_ 3 (.slice A8 (M.s1 ++ [b]).length c8)
  have hzk := (k8.blk bzy (fun h => h)).far (p := ⟨p, 3, none⟩) (by simp) (.slice A8 (M.s1 ++ [b]).length c8)
  have hk := (roy.keptN k8).kept ks (fun x h => .inr (.inl h))
  have hs := k8.size
  have hrd : ∀ ad, A8 = some ad → 0 < (M.s1 ++ [b]).length → wy.heap.size ≤ ad.block := by
    intro ad e hpos
    subst e
    exact hb8 ad.block (own_block_some own8 rfl)
  have hn : Src (w8.setCell ⟨p, 3, none⟩ (.slice A8 (M.s1 ++ [b]).length c8)) (FB F p) A8 (M.s1 ++ [b]) := by
    refine ⟨ks.src (Reads.of_own own8) (fun ad e hpos h => ?_), fun ad e hpos hf => ?_⟩
    · have := hrd ad e hpos; omega
    · have := hrd ad e hpos; have := hly _ hf; omega
  refine ⟨{ r' with A1 := A8, c1 := c8 }, ?_, hzk, ⟨hk.s0, hn, hk.w0, hk.w1, roy.b2, roy.b3⟩, (kwy.trans k8 (fun _ h => .inl h)).trans ks (fun x h => .inr (by omega)), by rw [size_setCell]; omega⟩
  rw [RV.cells]
  simp only [hMd]
  exact hbk

theorem ref_app_w0 {w wy w8 : World} {F : Nat → Prop} {p : Nat} {M : LS} {r' : RV} {b : UInt8} {A8 : Option Addr} {c8 : Nat} (hMd : M.down = false) (roy : RefOk wy (FB F p) M r') (hly : ∀ k, FB F p k → k < wy.heap.size)
    (by_ : Blk wy p 46 #[.int .i64 M.budget, .int .i64 M.cut, .slice r'.A0 M.s0.length r'.c0, .slice r'.A1 M.s1.length r'.c1, .slice r'.A2 M.w0.length r'.c2, .slice r'.A3 M.w1.length r'.c3, .bool false]) (bzy : Blk wy (p + 1) 46 #[.int .i64 0, .int .i64 0, .slice none 0 0, .slice none 0 0, .slice none 0 0, .slice none 0 0, .bool false]) (k8 : Kept NoF wy w8)
    (own8 : w8.ownsRow 0 5 1 (.slice A8 (M.w0.length + 1) c8) (M.w0.length + 1) (bvs M.w0 ++ bvs [b])) (hb8 : ∀ g, (Value.slice A8 (M.w0.length + 1) c8).ownBlock = some g → wy.heap.size ≤ g)
    (kwy : Kept NoF w wy) (hp : w.heap.size ≤ p) :
    ∃ r1 : RV, Blk (w8.setCell ⟨p, 4, none⟩ (.slice A8 (M.w0.length + 1) c8)) p 46 (r1.cells { M with w0 := M.w0 ++ [b] }) ∧ Blk (w8.setCell ⟨p, 4, none⟩ (.slice A8 (M.w0.length + 1) c8)) (p + 1) 46 #[.int .i64 0, .int .i64 0, .slice none 0 0, .slice none 0 0, .slice none 0 0, .slice none 0 0, .bool false] ∧
      RefOk (w8.setCell ⟨p, 4, none⟩ (.slice A8 (M.w0.length + 1) c8)) (FB F p) { M with w0 := M.w0 ++ [b] } r1 ∧ Kept NoF w (w8.setCell ⟨p, 4, none⟩ (.slice A8 (M.w0.length + 1) c8)) ∧ p + 2 ≤ (w8.setCell ⟨p, 4, none⟩ (.slice A8 (M.w0.length + 1) c8)).heap.size := by
  have hlen : M.w0.length + 1 = (M.w0 ++ [b]).length := by simp
  have hbv : bvs M.w0 ++ bvs [b] = bvs (M.w0 ++ [b]) := by rw [bvs_append]
  rw [hbv] at own8
  rw [hlen] at own8 hb8 ⊢
  have hcap : (M.w0 ++ [b]).length ≤ c8 := by
    obtain ⟨A, c, e, h, _⟩ := own_form own8
    injection e with _ _ e
    omega
  have hz : p + 2 ≤ wy.heap.size := by have := hly (p + 1) (.inr (.inr rfl)); omega
  have ks := Kept.set1 w8 p 4 (.slice A8 (M.w0 ++ [b]).length c8)
  have hbk := (k8.blk by_ (fun h => h)).set_ 4 (.slice A8 (M.w0 ++ [b]).length c8)
  have hzk := (k8.blk bzy (fun h => h)).far (p := ⟨p, 4, none⟩) (by simp) (.slice A8 (M.w0 ++ [b]).length c8)
  have hk := (roy.keptN k8).kept ks (fun x h => .inr (.inl h))
  have hs := k8.size
  have hrd : ∀ ad, A8 = some ad → 0 < (M.w0 ++ [b]).length → wy.heap.size ≤ ad.block := by
    intro ad e hpos
    subst e
    exact hb8 ad.block (own_block_some own8 rfl)
  have hn : Src (w8.setCell ⟨p, 4, none⟩ (.slice A8 (M.w0 ++ [b]).length c8)) (FB F p) A8 (M.w0 ++ [b]) := by
    refine ⟨ks.src (Reads.of_own own8) (fun ad e hpos h => ?_), fun ad e hpos hf => ?_⟩
    · have := hrd ad e hpos; omega
    · have := hrd ad e hpos; have := hly _ hf; omega
  refine ⟨{ r' with A2 := A8, c2 := c8 }, ?_, hzk, ⟨hk.s0, hk.s1, hn, hk.w1, hcap, roy.b3⟩, (kwy.trans k8 (fun _ h => .inl h)).trans ks (fun x h => .inr (by omega)), by rw [size_setCell]; omega⟩
  rw [RV.cells]
  simp only [hMd]
  exact hbk

theorem ref_app_w1 {w wy w8 : World} {F : Nat → Prop} {p : Nat} {M : LS} {r' : RV} {b : UInt8} {A8 : Option Addr} {c8 : Nat} (hMd : M.down = false) (roy : RefOk wy (FB F p) M r') (hly : ∀ k, FB F p k → k < wy.heap.size)
    (by_ : Blk wy p 46 #[.int .i64 M.budget, .int .i64 M.cut, .slice r'.A0 M.s0.length r'.c0, .slice r'.A1 M.s1.length r'.c1, .slice r'.A2 M.w0.length r'.c2, .slice r'.A3 M.w1.length r'.c3, .bool false]) (bzy : Blk wy (p + 1) 46 #[.int .i64 0, .int .i64 0, .slice none 0 0, .slice none 0 0, .slice none 0 0, .slice none 0 0, .bool false]) (k8 : Kept NoF wy w8)
    (own8 : w8.ownsRow 0 5 1 (.slice A8 (M.w1.length + 1) c8) (M.w1.length + 1) (bvs M.w1 ++ bvs [b])) (hb8 : ∀ g, (Value.slice A8 (M.w1.length + 1) c8).ownBlock = some g → wy.heap.size ≤ g)
    (kwy : Kept NoF w wy) (hp : w.heap.size ≤ p) :
    ∃ r1 : RV, Blk (w8.setCell ⟨p, 5, none⟩ (.slice A8 (M.w1.length + 1) c8)) p 46 (r1.cells { M with w1 := M.w1 ++ [b] }) ∧ Blk (w8.setCell ⟨p, 5, none⟩ (.slice A8 (M.w1.length + 1) c8)) (p + 1) 46 #[.int .i64 0, .int .i64 0, .slice none 0 0, .slice none 0 0, .slice none 0 0, .slice none 0 0, .bool false] ∧
      RefOk (w8.setCell ⟨p, 5, none⟩ (.slice A8 (M.w1.length + 1) c8)) (FB F p) { M with w1 := M.w1 ++ [b] } r1 ∧ Kept NoF w (w8.setCell ⟨p, 5, none⟩ (.slice A8 (M.w1.length + 1) c8)) ∧ p + 2 ≤ (w8.setCell ⟨p, 5, none⟩ (.slice A8 (M.w1.length + 1) c8)).heap.size := by
  have hlen : M.w1.length + 1 = (M.w1 ++ [b]).length := by simp
  have hbv : bvs M.w1 ++ bvs [b] = bvs (M.w1 ++ [b]) := by rw [bvs_append]
  rw [hbv] at own8
  rw [hlen] at own8 hb8 ⊢
  have hcap : (M.w1 ++ [b]).length ≤ c8 := by
    obtain ⟨A, c, e, h, _⟩ := own_form own8
    injection e with _ _ e
    omega
  have hz : p + 2 ≤ wy.heap.size := by have := hly (p + 1) (.inr (.inr rfl)); omega
  have ks := Kept.set1 w8 p 5 (.slice A8 (M.w1 ++ [b]).length c8)
  have hbk := (k8.blk by_ (fun h => h)).set_ 5 (.slice A8 (M.w1 ++ [b]).length c8)
  have hzk := (k8.blk bzy (fun h => h)).far (p := ⟨p, 5, none⟩) (by simp) (.slice A8 (M.w1 ++ [b]).length c8)
  have hk := (roy.keptN k8).kept ks (fun x h => .inr (.inl h))
  have hs := k8.size
  have hrd : ∀ ad, A8 = some ad → 0 < (M.w1 ++ [b]).length → wy.heap.size ≤ ad.block := by
    intro ad e hpos
    subst e
    exact hb8 ad.block (own_block_some own8 rfl)
  have hn : Src (w8.setCell ⟨p, 5, none⟩ (.slice A8 (M.w1 ++ [b]).length c8)) (FB F p) A8 (M.w1 ++ [b]) := by
    refine ⟨ks.src (Reads.of_own own8) (fun ad e hpos h => ?_), fun ad e hpos hf => ?_⟩
    · have := hrd ad e hpos; omega
    · have := hrd ad e hpos; have := hly _ hf; omega
  refine ⟨{ r' with A3 := A8, c3 := c8 }, ?_, hzk, ⟨hk.s0, hk.s1, hk.w0, hn, roy.b2, hcap⟩, (kwy.trans k8 (fun _ h => .inl h)).trans ks (fun x h => .inr (by omega)), by rw [size_setCell]; omega⟩
  rw [RV.cells]
  simp only [hMd]
  exact hbk

theorem xs_snoc (L : LS) (k : Int) (xs : List UInt8) (j : Nat) (h : j < xs.length) : L.put k (xs.take (j + 1)) false = (L.put k (xs.take j) false).put k [xs[j]] false := by
  rw [List.take_succ_eq_append_getElem h]
  unfold LS.put
  split <;> simp [LS.put0, LS.put1]

theorem send_now (L : LS) (k : Int) (xs : List UInt8) (j : Nat) (M : LS) (hM : L.put k (xs.take j) false = M) (hMc : M.cut = L.cut) (hMt : M.total = L.total + (j : Int)) (hj : j < xs.length)
    (hcn : 0 ≤ M.cut ∧ M.cut ≤ (M.s0.length : Int) + M.s1.length) (hk : IsSide k) (hd : L.down = false) (hf : ¬ L.budget - L.total < xs.length) (hle : L.total + j ≤ L.cut) : L.send k xs = ({ M with down := true }, (j : Int), 15) := by
  have ht : M.total = (M.s0.length : Int) + M.s1.length := rfl
  rw [send_cut_eq hk hd hf (by omega) (by omega)]
  have hjj : L.cut - L.total = (j : Int) := by omega
  rw [hjj, Int.toNat_natCast, ← hM]
  unfold LS.put
  split <;> rfl

theorem put_nil {L : LS} (k : Int) (hd : L.down = false) : L.put k [] false = L := by
  unfold LS.put LS.put0 LS.put1
  cases L
  simp only at hd
  subst hd
  split <;> simp

theorem RSRel.next {w w9 : World} {F : Nat → Prop} {L M M2 : LS} {k : Int} {xs : List UInt8} {j : Nat} {b : UInt8} {r2 : RV} (hlt : j < xs.length) (hsn : L.put k (xs.take (j + 1)) false = M.put k [b] false) (hM2 : M2 = M.put k [b] false)
    (hcn : ¬ (0 ≤ M.cut ∧ M.cut ≤ (M.s0.length : Int) + M.s1.length)) (hMc : M.cut = L.cut) (hMt : M.total = L.total + (j : Int)) (hcj : 0 ≤ L.cut → L.total + j ≤ L.cut)
    (cb : Blk w9 w.heap.size 46 (r2.cells M2)) (cz : Blk w9 (w.heap.size + 1) 46 #[.int .i64 0, .int .i64 0, .slice none 0 0, .slice none 0 0, .slice none 0 0, .slice none 0 0, .bool false]) (cr : RefOk w9 (FB F w.heap.size) M2 r2) (ck : Kept NoF w w9) (chz : w.heap.size + 2 ≤ w9.heap.size) :
    RSRel w F L k xs (.int .i64 ((j : Int) + 1)) w9 := by
  rw [hM2, ← hsn] at cb cr
  refine ⟨j + 1, r2, hlt, by go_num, cb, cz, cr, ck, chz, fun h => ?_⟩
  have h4 := hcj h
  have h5 : M.total = (M.s0.length : Int) + M.s1.length := rfl
  omega

set_option maxHeartbeats 4000000 in
set_option maxRecDepth 100000 in
theorem rsend_go0 {F : Nat → Prop} (X : Option Addr) (cx : Nat) (xs : List UInt8) (r : RV) (L : LS) (w : World) (hok : L.ok) (hr : RefOk w F L r) (hF : ∀ k, F k → k < w.heap.size) (hd : L.down = false)
    (hx : Reads w w.heap.size 1 X xs.length (bvs xs)) (hf : (xs.length : Int) ≤ L.budget - ((L.s0.length : Int) + L.s1.length)) :
    Calls Try.prog 21 #[.agg (r.cells L), .int .i64 0, .slice X xs.length cx] w fun e w' => ∃ r', e = .returned (.tuple #[.agg (r'.cells (L.send 0 xs).1), .int .i64 (L.send 0 xs).2.1, .int .i64 (L.send 0 xs).2.2]) ∧ RefOk w' F (L.send 0 xs).1 r' ∧ Kept NoF w w' := by
  obtain ⟨i0, hi0, hz0, hz1, hz2⟩ := info_parts info5
  have hput := put_nil 0 hd
  have hcells : r.cells L = #[.int .i64 L.budget, .int .i64 L.cut, .slice r.A0 L.s0.length r.c0, .slice r.A1 L.s1.length r.c1, .slice r.A2 L.w0.length r.c2, .slice r.A3 L.w1.length r.c3, .bool false] := by rw [RV.cells, hd]
  rw [hcells]
  have HD := Lib.hid hd
  clear hd
  have b0 := hok.b0
  have b1 := hok.b1
  have b2 := hok.tot
  have l0 := hok.c0
  have l1 := hok.c1
  have kW : Kept NoF w ((w.alloc (.cells #[.int .i64 L.budget, .int .i64 L.cut, .slice r.A0 L.s0.length r.c0, .slice r.A1 L.s1.length r.c1, .slice r.A2 L.w0.length r.c2, .slice r.A3 L.w1.length r.c3, .bool false] 46)).alloc (.cells #[.int .i64 0, .int .i64 0, .slice none 0 0, .slice none 0 0, .slice none 0 0, .slice none 0 0, .bool false] 46)) := ((Kept.refl NoF w).alloc _).alloc _
  have bx : Blk ((w.alloc (.cells #[.int .i64 L.budget, .int .i64 L.cut, .slice r.A0 L.s0.length r.c0, .slice r.A1 L.s1.length r.c1, .slice r.A2 L.w0.length r.c2, .slice r.A3 L.w1.length r.c3, .bool false] 46)).alloc (.cells #[.int .i64 0, .int .i64 0, .slice none 0 0, .slice none 0 0, .slice none 0 0, .slice none 0 0, .bool false] 46)) w.heap.size 46 #[.int .i64 L.budget, .int .i64 L.cut, .slice r.A0 L.s0.length r.c0, .slice r.A1 L.s1.length r.c1, .slice r.A2 L.w0.length r.c2, .slice r.A3 L.w1.length r.c3, .bool false] := (Blk.new w 46 _).alloc _
  have bz : Blk ((w.alloc (.cells #[.int .i64 L.budget, .int .i64 L.cut, .slice r.A0 L.s0.length r.c0, .slice r.A1 L.s1.length r.c1, .slice r.A2 L.w0.length r.c2, .slice r.A3 L.w1.length r.c3, .bool false] 46)).alloc (.cells #[.int .i64 0, .int .i64 0, .slice none 0 0, .slice none 0 0, .slice none 0 0, .slice none 0 0, .bool false] 46)) (w.heap.size + 1) 46 #[.int .i64 0, .int .i64 0, .slice none 0 0, .slice none 0 0, .slice none 0 0, .slice none 0 0, .bool false] := by
    have := Blk.new (w.alloc (.cells #[.int .i64 L.budget, .int .i64 L.cut, .slice r.A0 L.s0.length r.c0, .slice r.A1 L.s1.length r.c1, .slice r.A2 L.w0.length r.c2, .slice r.A3 L.w1.length r.c3, .bool false] 46)) 46 #[.int .i64 0, .int .i64 0, .slice none 0 0, .slice none 0 0, .slice none 0 0, .slice none 0 0, .bool false]
    rwa [show (w.alloc (.cells #[.int .i64 L.budget, .int .i64 L.cut, .slice r.A0 L.s0.length r.c0, .slice r.A1 L.s1.length r.c1, .slice r.A2 L.w0.length r.c2, .slice r.A3 L.w1.length r.c3, .bool false] 46)).heap.size = w.heap.size + 1 by simp] at this
  have hsz : w.heap.size + 2 ≤ ((w.alloc (.cells #[.int .i64 L.budget, .int .i64 L.cut, .slice r.A0 L.s0.length r.c0, .slice r.A1 L.s1.length r.c1, .slice r.A2 L.w0.length r.c2, .slice r.A3 L.w1.length r.c3, .bool false] 46)).alloc (.cells #[.int .i64 0, .int .i64 0, .slice none 0 0, .slice none 0 0, .slice none 0 0, .slice none 0 0, .bool false] 46)).heap.size := by simp
  have KW := Lib.hid kW
  have BX := Lib.hid bx
  have BZ := Lib.hid bz
  have HZ := Lib.hid hsz
  clear kW bx bz hsz
  go_enter Try.func21, Try.ntmps21
  go_upto_region 5 with (go_at_call 27; refine (side_yes 0 _ (.inl rfl)).mono ?_; rintro e w' ⟨rfl, rfl⟩)
  have kw2 := KW.out
  have bx2 := BX.out
  have bz2 := BZ.out
  have hzz2 := HZ.out
  clear KW BX BZ HZ
  generalize (w.alloc (.cells #[.int .i64 L.budget, .int .i64 L.cut, .slice r.A0 L.s0.length r.c0, .slice r.A1 L.s1.length r.c1, .slice r.A2 L.w0.length r.c2, .slice r.A3 L.w1.length r.c3, .bool false] 46)).alloc (.cells #[.int .i64 0, .int .i64 0, .slice none 0 0, .slice none 0 0, .slice none 0 0, .slice none 0 0, .bool false] 46) = w2 at kw2 bx2 bz2 hzz2 ⊢
  have q0 : w2.cell? ⟨w.heap.size, 0, none⟩ = some (.int .i64 L.budget) := (bx2.cell 0).trans rfl
  have q1 : w2.cell? ⟨w.heap.size, 1, none⟩ = some (.int .i64 L.cut) := (bx2.cell 1).trans rfl
  have q2 : w2.cell? ⟨w.heap.size, 2, none⟩ = some (.slice r.A0 L.s0.length r.c0) := (bx2.cell 2).trans rfl
  have q3 : w2.cell? ⟨w.heap.size, 3, none⟩ = some (.slice r.A1 L.s1.length r.c1) := (bx2.cell 3).trans rfl
  have q4 : w2.cell? ⟨w.heap.size, 4, none⟩ = some (.slice r.A2 L.w0.length r.c2) := (bx2.cell 4).trans rfl
  have q5 : w2.cell? ⟨w.heap.size, 5, none⟩ = some (.slice r.A3 L.w1.length r.c3) := (bx2.cell 5).trans rfl
  have q6 : w2.cell? ⟨w.heap.size, 6, none⟩ = some (.bool false) := (bx2.cell 6).trans rfl
  have sall : ∀ W, Kept NoF w2 W → (fun w' => w'.cell? ⟨w.heap.size, 0, none⟩ = some (.int .i64 L.budget) ∧ w'.cell? ⟨w.heap.size, 1, none⟩ = some (.int .i64 L.cut) ∧ w'.cell? ⟨w.heap.size, 2, none⟩ = some (.slice r.A0 L.s0.length r.c0) ∧ w'.cell? ⟨w.heap.size, 3, none⟩ = some (.slice r.A1 L.s1.length r.c1) ∧ w'.cell? ⟨w.heap.size, 4, none⟩ = some (.slice r.A2 L.w0.length r.c2) ∧ w'.cell? ⟨w.heap.size, 5, none⟩ = some (.slice r.A3 L.w1.length r.c3) ∧ w'.cell? ⟨w.heap.size, 6, none⟩ = some (.bool false)) W := fun W k => ⟨k.cell q0 (fun h => h), k.cell q1 (fun h => h), k.cell q2 (fun h => h), k.cell q3 (fun h => h), k.cell q4 (fun h => h), k.cell q5 (fun h => h), k.cell q6 (fun h => h)⟩
  have SA := Lib.hid sall
  have kd := (Kept.refl NoF w2).drew
  clear sall
  have hwr : IntKind.i64.wrap (L.budget - ((L.s0.length : Int) + L.s1.length)) = L.budget - ((L.s0.length : Int) + L.s1.length) := by rw [IntKind.wrap_i64]; omega
  go_region_held3 (fun w' => w'.cell? ⟨w.heap.size, 0, none⟩ = some (.int .i64 L.budget) ∧ w'.cell? ⟨w.heap.size, 1, none⟩ = some (.int .i64 L.cut) ∧ w'.cell? ⟨w.heap.size, 2, none⟩ = some (.slice r.A0 L.s0.length r.c0) ∧ w'.cell? ⟨w.heap.size, 3, none⟩ = some (.slice r.A1 L.s1.length r.c1) ∧ w'.cell? ⟨w.heap.size, 4, none⟩ = some (.slice r.A2 L.w0.length r.c2) ∧ w'.cell? ⟨w.heap.size, 5, none⟩ = some (.slice r.A3 L.w1.length r.c3) ∧ w'.cell? ⟨w.heap.size, 6, none⟩ = some (.bool false)) (first | exact SA.out _ kd | exact SA.out _ (kd.trans k3 (fun _ h => .inl h)))
    (first | (go_at_call 28; refine (rtotal_walk L.budget L.cut r.A0 r.A1 r.A2 r.A3 L.s0.length r.c0 L.s1.length r.c1 L.w0.length r.c2 L.w1.length r.c3 false _ (by omega)).mono ?_; rintro e w3 ⟨rfl, k3⟩))
  clear hwr
  have kw3 := kd.trans k3 (fun _ h => .inl h)
  have bx3 := kw3.blk bx2 (fun h => h)
  have bz3 := kw3.blk bz2 (fun h => h)
  have kw03 := kw2.trans kw3 (fun _ h => .inl h)
  have hz3 : w.heap.size + 2 ≤ w3.heap.size := by have := kw3.size; omega
  clear q0 q1 q2 q3 q4 q5 q6 SA
  go_wp2_with fail
  go_loopw [9] (RSRel w F L 0 xs) (fun i _ => xs.length - (intOf i).toNat)
  case atStart =>
    refine ⟨0, r, Nat.zero_le _, rfl, ?_, bz3, ?_, kw03, hz3, ?_⟩
    · rw [List.take_zero, hput, hcells]; exact bx3
    · rw [List.take_zero, hput]; exact hr.box kw03
    · intro h; have := hok.cuts h; unfold LS.total; omega
  case round =>
    obtain ⟨j, r', hj, rfl, bx, bz, ro, kr, hzr, hcj⟩ := hrel
    have hMok : (L.put 0 (xs.take j) false).ok := by
      refine LS.put_ok hok _ _ _ ?_ ?_
      · rw [List.length_take]; unfold LS.total; omega
      · intro h; have := hcj h; rw [List.length_take]; omega
    have hMb := put_budget L 0 (xs.take j) false
    have hMc := put_cut L 0 (xs.take j) false
    have hMd := put_down L 0 (xs.take j) false
    have hMt := put_total L 0 (xs.take j) false
    rw [List.length_take, Nat.min_eq_left hj] at hMt
    by_cases hlt : j < xs.length
    · have hsnoc := xs_snoc L 0 xs j hlt
      generalize hM : L.put 0 (xs.take j) false = M at hMok hMb hMc hMd hMt bx ro hsnoc
      have HM := Lib.hid hM
      have HMb := Lib.hid hMb
      have HMc := Lib.hid hMc
      have HMd := Lib.hid hMd
      have HMt := Lib.hid hMt
      have HSN := Lib.hid hsnoc
      have bx' : Blk wr w.heap.size 46 #[.int .i64 M.budget, .int .i64 M.cut, .slice r'.A0 M.s0.length r'.c0, .slice r'.A1 M.s1.length r'.c1, .slice r'.A2 M.w0.length r'.c2, .slice r'.A3 M.w1.length r'.c3, .bool false] := by rw [RV.cells, hMd] at bx; exact bx
      clear bx hM hMb hMc hMd hMt hsnoc
      have m1 := hMok.tot
      have m2 := hMok.b1
      have m3 := hMok.c0
      have m4 := hMok.c1
      have m5 := hMok.b0
      have m6 := hMok.q0
      have m7 := hMok.q1
      obtain ⟨adx, ub, hXe, _, hub, hx0⟩ := hx.at_ hlt
      subst hXe
      rw [bvs_get _ _ hlt] at hub
      injection hub with hub
      subst hub
      generalize hxb : xs[j] = b at hx0 HSN
      have hx0' : w.cell? (adx.add j) = some (.int .u8 (b.toNat : Int)) := hx0
      have hxc := kr.cell hx0' (fun h => h)
      have HX0 := Lib.hid hx0'
      clear hx0 hx0'
      have HXB := Lib.hid hxb
      clear hxb
      have q0 : wr.cell? ⟨w.heap.size, 0, none⟩ = some (.int .i64 M.budget) := (bx'.cell 0).trans rfl
      have q1 : wr.cell? ⟨w.heap.size, 1, none⟩ = some (.int .i64 M.cut) := (bx'.cell 1).trans rfl
      have q2 : wr.cell? ⟨w.heap.size, 2, none⟩ = some (.slice r'.A0 M.s0.length r'.c0) := (bx'.cell 2).trans rfl
      have q3 : wr.cell? ⟨w.heap.size, 3, none⟩ = some (.slice r'.A1 M.s1.length r'.c1) := (bx'.cell 3).trans rfl
      have q4 : wr.cell? ⟨w.heap.size, 4, none⟩ = some (.slice r'.A2 M.w0.length r'.c2) := (bx'.cell 4).trans rfl
      have q5 : wr.cell? ⟨w.heap.size, 5, none⟩ = some (.slice r'.A3 M.w1.length r'.c3) := (bx'.cell 5).trans rfl
      have q6 : wr.cell? ⟨w.heap.size, 6, none⟩ = some (.bool false) := (bx'.cell 6).trans rfl
      have sall : ∀ W, Kept NoF wr W → (fun w' => w'.cell? ⟨w.heap.size, 0, none⟩ = some (.int .i64 M.budget) ∧ w'.cell? ⟨w.heap.size, 1, none⟩ = some (.int .i64 M.cut) ∧ w'.cell? ⟨w.heap.size, 2, none⟩ = some (.slice r'.A0 M.s0.length r'.c0) ∧ w'.cell? ⟨w.heap.size, 3, none⟩ = some (.slice r'.A1 M.s1.length r'.c1) ∧ w'.cell? ⟨w.heap.size, 4, none⟩ = some (.slice r'.A2 M.w0.length r'.c2) ∧ w'.cell? ⟨w.heap.size, 5, none⟩ = some (.slice r'.A3 M.w1.length r'.c3) ∧ w'.cell? ⟨w.heap.size, 6, none⟩ = some (.bool false)) W := fun W k => ⟨k.cell q0 (fun h => h), k.cell q1 (fun h => h), k.cell q2 (fun h => h), k.cell q3 (fun h => h), k.cell q4 (fun h => h), k.cell q5 (fun h => h), k.cell q6 (fun h => h)⟩
      have SA := Lib.hid sall
      clear sall
      go_upto_region 10 with fail
      go_cut [41] (fun s41 wx => s41 = .bool (decide (0 ≤ M.cut ∧ M.cut ≤ (M.s0.length : Int) + M.s1.length)) ∧ Kept NoF wr wx)
      case first =>
        by_cases hc : 0 ≤ M.cut
        · have kd' := (Kept.refl NoF wr).drew
          have hcd : decide (0 ≤ M.cut) = true := by simpa using hc
          go_region_held3 (fun w' => w'.cell? ⟨w.heap.size, 0, none⟩ = some (.int .i64 M.budget) ∧ w'.cell? ⟨w.heap.size, 1, none⟩ = some (.int .i64 M.cut) ∧ w'.cell? ⟨w.heap.size, 2, none⟩ = some (.slice r'.A0 M.s0.length r'.c0) ∧ w'.cell? ⟨w.heap.size, 3, none⟩ = some (.slice r'.A1 M.s1.length r'.c1) ∧ w'.cell? ⟨w.heap.size, 4, none⟩ = some (.slice r'.A2 M.w0.length r'.c2) ∧ w'.cell? ⟨w.heap.size, 5, none⟩ = some (.slice r'.A3 M.w1.length r'.c3) ∧ w'.cell? ⟨w.heap.size, 6, none⟩ = some (.bool false)) (first | exact SA.out _ kd' | exact SA.out _ (kd'.trans k4 (fun _ h => .inl h)))
            (first | (go_at_call 28; refine (rtotal_walk M.budget M.cut r'.A0 r'.A1 r'.A2 r'.A3 M.s0.length r'.c0 M.s1.length r'.c1 M.w0.length r'.c2 M.w1.length r'.c3 false _ (by omega)).mono ?_; rintro e w4 ⟨rfl, k4⟩))
          go_wp2_with fail
          go_meet
          case rel => exact ⟨by congr 1; simp [hc], kd'.trans k4 (fun _ h => .inl h)⟩
        · have hcd : decide (0 ≤ M.cut) = false := by simpa using hc
          go_quiet (fail)
          go_wp2_with fail
          go_meet
          case rel => exact ⟨congrArg Value.bool (decide_eq_false (p := 0 ≤ M.cut ∧ M.cut ≤ (M.s0.length : Int) + M.s1.length) (by omega)).symm, (Kept.refl NoF wr).drewN nq⟩
      case rest =>
        obtain ⟨rfl, kx⟩ := hcut
        clear q0 q1 q2 q3 q4 q5 q6
        by_cases hcn : 0 ≤ M.cut ∧ M.cut ≤ (M.s0.length : Int) + M.s1.length
        · have hcn' : decide (0 ≤ M.cut ∧ M.cut ≤ (M.s0.length : Int) + M.s1.length) = true := by simpa using hcn
          have bxx := kx.blk bx' (fun h => h)
          have bzx := kx.blk bz (fun h => h)
          have rox := ro.keptN kx
          have kwx := kr.trans kx (fun _ h => .inl h)
          have hzx : w.heap.size + 2 ≤ wc.heap.size := by have := kx.size; omega
          rw [hcn']
          clear hcn'
          have p6 : wc.cell? ⟨w.heap.size, 6, none⟩ = some (.bool false) := (bxx.cell 6).trans rfl
          have f6 : wc.frozen? ⟨w.heap.size, 6, none⟩ = false := bxx.frozen 6
          go_upto_region 12 with fail
          have bxd := bxx.set_ 6 (.bool true)
          have bzd := bzx.far (p := ⟨w.heap.size, 6, none⟩) (by simp) (.bool true)
          have kwd := kwx.setCell (p := ⟨w.heap.size, 6, none⟩) (.inr (Nat.le_refl _)) (.bool true)
          have rod := rox.kept (Kept.set1 wc w.heap.size 6 (.bool true)) (fun x h => .inr (.inl h))
          clear p6 f6
          generalize wc.setCell ⟨w.heap.size, 6, none⟩ (.bool true) = wd at bxd bzd kwd rod ⊢
          have bxe : Blk wd w.heap.size 46 #[.int .i64 M.budget, .int .i64 M.cut, .slice r'.A0 M.s0.length r'.c0, .slice r'.A1 M.s1.length r'.c1, .slice r'.A2 M.w0.length r'.c2, .slice r'.A3 M.w1.length r'.c3, .bool true] := bxd
          have q0 : wd.cell? ⟨w.heap.size, 0, none⟩ = some (.int .i64 M.budget) := (bxe.cell 0).trans rfl
          have q1 : wd.cell? ⟨w.heap.size, 1, none⟩ = some (.int .i64 M.cut) := (bxe.cell 1).trans rfl
          have q2 : wd.cell? ⟨w.heap.size, 2, none⟩ = some (.slice r'.A0 M.s0.length r'.c0) := (bxe.cell 2).trans rfl
          have q3 : wd.cell? ⟨w.heap.size, 3, none⟩ = some (.slice r'.A1 M.s1.length r'.c1) := (bxe.cell 3).trans rfl
          have q4 : wd.cell? ⟨w.heap.size, 4, none⟩ = some (.slice r'.A2 M.w0.length r'.c2) := (bxe.cell 4).trans rfl
          have q5 : wd.cell? ⟨w.heap.size, 5, none⟩ = some (.slice r'.A3 M.w1.length r'.c3) := (bxe.cell 5).trans rfl
          have q6 : wd.cell? ⟨w.heap.size, 6, none⟩ = some (.bool true) := (bxe.cell 6).trans rfl
          have y0 : wd.cell? ⟨w.heap.size + 1, 0, none⟩ = some (.int .i64 0) := (bzd.cell 0).trans rfl
          have y1 : wd.cell? ⟨w.heap.size + 1, 1, none⟩ = some (.int .i64 0) := (bzd.cell 1).trans rfl
          have y2 : wd.cell? ⟨w.heap.size + 1, 2, none⟩ = some (.slice none 0 0) := (bzd.cell 2).trans rfl
          have y3 : wd.cell? ⟨w.heap.size + 1, 3, none⟩ = some (.slice none 0 0) := (bzd.cell 3).trans rfl
          have y4 : wd.cell? ⟨w.heap.size + 1, 4, none⟩ = some (.slice none 0 0) := (bzd.cell 4).trans rfl
          have y5 : wd.cell? ⟨w.heap.size + 1, 5, none⟩ = some (.slice none 0 0) := (bzd.cell 5).trans rfl
          have y6 : wd.cell? ⟨w.heap.size + 1, 6, none⟩ = some (.bool false) := (bzd.cell 6).trans rfl
          have z : ∀ i, wd.frozen? ⟨w.heap.size + 1, i, none⟩ = false := fun i => bzd.frozen i
          have hfin := send_now L 0 xs j M HM.out HMc.out HMt.out hlt hcn (.inl rfl) HD.out (by unfold LS.total; omega) (hcj (by rw [← HMc.out]; exact hcn.1))
          have HFIN := Lib.hid hfin
          clear hfin bxd bxe bzd bxx bzx
          go_wp2_with fail
          refine bodyPost_ret (v := .tuple #[.agg #[.int .i64 M.budget, .int .i64 M.cut, .slice r'.A0 M.s0.length r'.c0, .slice r'.A1 M.s1.length r'.c1, .slice r'.A2 M.w0.length r'.c2, .slice r'.A3 M.w1.length r'.c3, .bool true], .int .i64 (j : Int), .int .i64 15]) (by simp [results, Try.results21, go_sem, y0, y1, y2, y3, y4, y5, y6]) rfl ?_
          rw [HFIN.out]
          exact ⟨r', rfl, rod.fin kwd (Kept.seven _ _ _ _ _ _ _ _ _) rfl rfl rfl rfl⟩
        · have hcn' : decide (0 ≤ M.cut ∧ M.cut ≤ (M.s0.length : Int) + M.s1.length) = false := by simpa using hcn
          have by_ := kx.blk bx' (fun h => h)
          have bzy := kx.blk bz (fun h => h)
          have roy := ro.keptN kx
          have kwy := kr.trans kx (fun _ h => .inl h)
          have hzy : w.heap.size + 2 ≤ wc.heap.size := by have := kx.size; omega
          have hxy : wc.cell? (adx.add j) = some (.int .u8 (b.toNat : Int)) := kx.cell hxc (fun h => h)
          rw [hcn']
          have HCN := Lib.hid hcn
          clear hcn' hcn bx' bz ro SA hxc
          go_upto_region 13 with fail
          obtain ⟨wy, hwy⟩ : ∃ wy, wy = wc := ⟨_, rfl⟩
          rw [← hwy] at by_ bzy roy kwy hzy hxy ⊢
          clear hwy kx
          have hly : ∀ k, FB F w.heap.size k → k < wy.heap.size := by
            rintro x (h | h | h)
            · have := hF x h; omega
            · omega
            · omega
          go_cut [9] (fun s9 wx => s9 = .int .i64 (j : Int) ∧ ∃ r1 : RV, Blk wx w.heap.size 46 (r1.cells { M with s0 := M.s0 ++ [b] }) ∧ Blk wx (w.heap.size + 1) 46 #[.int .i64 0, .int .i64 0, .slice none 0 0, .slice none 0 0, .slice none 0 0, .slice none 0 0, .bool false] ∧
            RefOk wx (FB F w.heap.size) { M with s0 := M.s0 ++ [b] } r1 ∧ Kept NoF w wx ∧ w.heap.size + 2 ≤ wx.heap.size)
          case first =>
            have sy : ∀ W, Kept NoF wy W → (fun w' => Kept NoF wy w' ∧ w'.cell? ⟨w.heap.size, 2, none⟩ = some (.slice r'.A0 M.s0.length r'.c0) ∧ w'.cell? (adx.add j) = some (.int .u8 (b.toNat : Int))) W := fun W k => ⟨k, k.cell ((by_.cell 2).trans rfl) (fun h => h), k.cell hxy (fun h => h)⟩
            have SY := Lib.hid sy
            clear sy
            refine wp_region_noPanic ?_
            refine wp_region_until (by kernel_rfl) 14 (fun w' => Kept NoF wy w' ∧ w'.cell? ⟨w.heap.size, 2, none⟩ = some (.slice r'.A0 M.s0.length r'.c0) ∧ w'.cell? (adx.add j) = some (.int .u8 (b.toNat : Int))) (SY.out _ (Kept.refl NoF wy).drew) (fun hHeld => ?_)
            refine wpAnyU_take (i := 0) (v := ?_) rfl (by kernel_rfl) (by kernel_rfl) (by kernel_rfl) (by kernel_rfl) (by kernel_rfl) (fun _ _ _ h => h) (Or.inl ⟨by rfl, ?_⟩) hHeld ?_
            rotate_left
            · (intro w hSw; (try dsimp only at hSw); go_simp; try (with_reducible rfl))
            simp only [Act.put, List.getElem_toArray, List.getElem_cons_zero, List.setIfInBounds_toArray, List.set_cons_zero, List.set_cons_succ]
            refine wpAnyU_take (i := 2) (v := ?_) rfl (by kernel_rfl) (by kernel_rfl) (by kernel_rfl) (by kernel_rfl) (by kernel_rfl) (fun _ _ _ h => h) (Or.inl ⟨by rfl, ?_⟩) hHeld ?_
            rotate_left
            · (intro w hSw; (try dsimp only at hSw); go_simp; try (with_reducible rfl))
            simp only [Act.put, List.getElem_toArray, List.getElem_cons_zero, List.getElem_cons_succ, List.setIfInBounds_toArray, List.set_cons_zero, List.set_cons_succ]
            refine wpAnyU_take (i := 3) (v := ?_) rfl (by kernel_rfl) (by kernel_rfl) (by kernel_rfl) (by kernel_rfl) (by kernel_rfl) (fun _ _ _ h => h) (Or.inl ⟨by rfl, ?_⟩) hHeld ?_
            rotate_left
            · (intro w hSw; (try dsimp only at hSw); go_simp; try (with_reducible rfl))
            simp only [Act.put, List.getElem_toArray, List.getElem_cons_zero, List.getElem_cons_succ, List.setIfInBounds_toArray, List.set_cons_zero, List.set_cons_succ]
            refine wpAnyU_take (i := 4) (v := ?_) rfl (by kernel_rfl) (by kernel_rfl) (by kernel_rfl) (by kernel_rfl) (by kernel_rfl) (fun _ _ _ h => h) (Or.inl ⟨by rfl, ?_⟩) hHeld ?_
            rotate_left
            · (intro w hSw; (try dsimp only at hSw); go_simp; try (with_reducible rfl))
            simp only [Act.put, List.getElem_toArray, List.getElem_cons_zero, List.getElem_cons_succ, List.setIfInBounds_toArray, List.set_cons_zero, List.set_cons_succ]
            refine wpAnyU_take (i := 5) (v := ?_) rfl (by kernel_rfl) (by kernel_rfl) (by kernel_rfl) (by kernel_rfl) (by kernel_rfl) (fun _ _ _ h => h) (Or.inl ⟨by rfl, ?_⟩) hHeld ?_
            rotate_left
            · (intro w hSw; (try dsimp only at hSw); go_simp; try (with_reducible rfl))
            simp only [Act.put, List.getElem_toArray, List.getElem_cons_zero, List.getElem_cons_succ, List.setIfInBounds_toArray, List.set_cons_zero, List.set_cons_succ]
            refine wpAnyU_take (i := 7) (v := ?_) rfl (by kernel_rfl) (by kernel_rfl) (by kernel_rfl) (by kernel_rfl) (by kernel_rfl) (fun _ _ _ h => h) (Or.inl ⟨by rfl, ?_⟩) hHeld ?_
            rotate_left
            · (intro w hSw; (try dsimp only at hSw); go_simp; try (with_reducible rfl))
            simp only [Act.put, List.getElem_toArray, List.getElem_cons_zero, List.getElem_cons_succ, List.setIfInBounds_toArray, List.set_cons_zero, List.set_cons_succ]
            refine wpAnyU_take (i := 8) (v := ?_) rfl (by kernel_rfl) (by kernel_rfl) (by kernel_rfl) (by kernel_rfl) (by kernel_rfl) (fun _ _ _ h => h) (Or.inl ⟨by rfl, ?_⟩) hHeld ?_
            rotate_left
            · (intro w hSw; (try dsimp only at hSw); go_simp; try (with_reducible rfl))
            simp only [Act.put, List.getElem_toArray, List.getElem_cons_zero, List.getElem_cons_succ, List.setIfInBounds_toArray, List.set_cons_zero, List.set_cons_succ]
            refine wpAnyU_take (i := 9) (v := ?_) rfl (by kernel_rfl) (by kernel_rfl) (by kernel_rfl) (by kernel_rfl) (by kernel_rfl) (fun _ _ _ h => h) (Or.inl ⟨by rfl, ?_⟩) hHeld ?_
            rotate_left
            · (intro w hSw; (try dsimp only at hSw); go_simp; try (with_reducible rfl))
            simp only [Act.put, List.getElem_toArray, List.getElem_cons_zero, List.getElem_cons_succ, List.setIfInBounds_toArray, List.set_cons_zero, List.set_cons_succ]
            refine wpAnyU_take (i := 10) (v := ?_) rfl (by kernel_rfl) (by kernel_rfl) (by kernel_rfl) (by kernel_rfl) (by kernel_rfl) (fun _ _ _ h => h) (Or.inl ⟨by rfl, ?_⟩) hHeld ?_
            rotate_left
            · (intro w hSw; (try dsimp only at hSw); go_simp; try (with_reducible rfl))
            simp only [Act.put, List.getElem_toArray, List.getElem_cons_zero, List.getElem_cons_succ, List.setIfInBounds_toArray, List.set_cons_zero, List.set_cons_succ]
            refine wpAnyU_take (i := 13) (v := ?_) rfl (by kernel_rfl) (by kernel_rfl) (by kernel_rfl) (by kernel_rfl) (by kernel_rfl) (fun _ _ _ h => h) (Or.inl ⟨by rfl, ?_⟩) hHeld ?_
            rotate_left
            · (intro w hSw; (try dsimp only at hSw); go_simp; try (with_reducible rfl))
            simp only [Act.put, List.getElem_toArray, List.getElem_cons_zero, List.getElem_cons_succ, List.setIfInBounds_toArray, List.set_cons_zero, List.set_cons_succ]
            refine wpAnyU_two (i := 1) (k := 11) (by kernel_rfl) rfl rfl (fun K hK => ?_) (fun K hK => ?_)
            · go_simp
              have kE := ((Kept.refl NoF wy).alloc (.cells #[] 5)).drew
              have ownE := (Kept.refl NoF _).drew.own (mkE wy) (fun _ _ h => h)
              have hbE := hb_new (wy := wy) (Nat.le_refl wy.heap.size)
              refine hK.out _ _ (fun _ => SY.out _ kE) ?_
              clear hK K
              try simp only [Act.put, List.getElem_toArray, List.getElem_cons_zero, List.getElem_cons_succ, List.setIfInBounds_toArray, List.set_cons_zero, List.set_cons_succ]
              generalize (wy.alloc (.cells #[] 5)).drew = wE at kE ownE ⊢
              refine wpAnyU_two (i := 6) (k := 11) (by kernel_rfl) rfl rfl (fun K hK => ?_) (fun K hK => ?_)
              · skip
                refine step_append_any _ rfl (.tmp 46) (.tmp 50) 22 rfl 0 5 i0 (.int .u8 0) 1 1 Try.underlying22 hi0 hz0 hz1 hz2 rfl (by omega) (.slice (some ⟨wy.heap.size, 0, none⟩) 0 0) 0 [] rfl ownE _ r'.A0 M.s0.length r'.c0 (bvs M.s0) rfl (kE.src roy.s0.1 (fun _ _ _ h => h)) (bvs_one _) (by unfold maxLen; omega) (by omega) (Nat.zero_le _) ?_
                intro v6 w6 own6 g6 at6
                rw [Nat.zero_add, List.nil_append] at own6
                obtain ⟨A6, c6, rfl, _⟩ := own_form own6
                have k6 : Kept NoF wy w6 := kE.grown g6 (fun g hg => .inr (hbE g hg))
                have hb6 := hb_next hbE kE.size at6
                refine hK.out _ _ (fun _ => SY.out _ k6) ?_
                clear hK K
                try simp only [Act.put, List.getElem_toArray, List.getElem_cons_zero, List.getElem_cons_succ, List.setIfInBounds_toArray, List.set_cons_zero, List.set_cons_succ]
                clear g6 at6
                refine wpAnyU_alone (i := 11) (by kernel_rfl) rfl (fun K hK => ?_)
                go_simp
                have kB := k6.alloc (.cells #[.int .u8 (b.toNat : Int)] 5)
                have ownB := ((Kept.refl NoF w6).alloc (.cells #[.int .u8 (b.toNat : Int)] 5)).own own6 (fun _ _ h => h)
                have rdB := mkB w6 b
                refine hK.out _ _ (fun _ => SY.out _ kB) ?_
                clear hK K
                try simp only [Act.put, List.getElem_toArray, List.getElem_cons_zero, List.getElem_cons_succ, List.setIfInBounds_toArray, List.set_cons_zero, List.set_cons_succ]
                generalize w6.alloc (.cells #[.int .u8 (b.toNat : Int)] 5) = wB at kB ownB rdB ⊢
                refine wpAnyU_alone (i := 12) (by kernel_rfl) rfl (fun K hK => ?_)
                refine step_append_any _ rfl (.tmp 51) (.tmp 56) 22 rfl 0 5 i0 (.int .u8 0) 1 1 Try.underlying22 hi0 hz0 hz1 hz2 rfl (by omega) (.slice A6 (M.s0.length) c6) (M.s0.length) (bvs M.s0) rfl ownB _ _ 1 1 (bvs [b]) rfl rdB (bvs_one _) (by unfold maxLen; omega) (by omega) (Nat.zero_le _) ?_
                intro v8 w8 own8 g8 at8
                obtain ⟨A8, c8, rfl, _⟩ := own_form own8
                have k8 : Kept NoF wy w8 := kB.grown g8 (fun g hg => .inr (hb6 g hg))
                have hb8 := hb_next hb6 kB.size at8
                have qc : w8.cell? ⟨w.heap.size, 2, none⟩ = some (.slice r'.A0 M.s0.length r'.c0) := (SY.out _ k8).2.1
                have zc : w8.frozen? ⟨w.heap.size, 2, none⟩ = false := (k8.blk by_ (fun h => h)).frozen 2
                refine hK.out _ _ (fun _ => SY.out _ k8) ?_
                clear hK K
                try simp only [Act.put, List.getElem_toArray, List.getElem_cons_zero, List.getElem_cons_succ, List.setIfInBounds_toArray, List.set_cons_zero, List.set_cons_succ]
                clear g8 at8
                refine wpAnyU_alone (i := 14) (by kernel_rfl) rfl (fun K hK => ?_)
                go_simp
                refine hK.out _ _ (fun h => (Bool.false_ne_true (h.symm.trans (by kernel_rfl))).elim) ?_
                clear hK K
                try simp only [Act.put, List.getElem_toArray, List.getElem_cons_zero, List.getElem_cons_succ, List.setIfInBounds_toArray, List.set_cons_zero, List.set_cons_succ]
                refine wpAnyU_alone (i := 15) (by kernel_rfl) rfl (fun K hK => ?_)
                go_simp
                refine hK.out _ _ (fun h => (Bool.false_ne_true (h.symm.trans (by kernel_rfl))).elim) ?_
                clear hK K
                try simp only [Act.put, List.getElem_toArray, List.getElem_cons_zero, List.getElem_cons_succ, List.setIfInBounds_toArray, List.set_cons_zero, List.set_cons_succ]
                refine wpAnyU_done (by kernel_rfl) ?_ _
                refine NoPanic.normal ?_
                go_wp2_with fail
                go_meet
                case rel => exact ⟨rfl, ref_app_s0 HMd.out roy hly by_ bzy k8 own8 hb8 kwy (Nat.le_refl _)⟩
              · go_simp
                have kB := kE.alloc (.cells #[.int .u8 (b.toNat : Int)] 5)
                have ownB := ((Kept.refl NoF wE).alloc (.cells #[.int .u8 (b.toNat : Int)] 5)).own ownE (fun _ _ h => h)
                have rdB := mkB wE b
                have hne : ∀ g, (Value.slice (some ⟨wy.heap.size, 0, none⟩) 0 0).ownBlock = some g → (⟨wE.heap.size, 0, none⟩ : Addr).block ≠ g := fun g hg => Nat.ne_of_gt (own_lt ownE hg)
                refine hK.out _ _ (fun _ => SY.out _ kB) ?_
                clear hK K
                try simp only [Act.put, List.getElem_toArray, List.getElem_cons_zero, List.getElem_cons_succ, List.setIfInBounds_toArray, List.set_cons_zero, List.set_cons_succ]
                generalize wE.alloc (.cells #[.int .u8 (b.toNat : Int)] 5) = wB at kB ownB rdB ⊢
                refine wpAnyU_alone (i := 6) (by kernel_rfl) rfl (fun K hK => ?_)
                refine step_append_any _ rfl (.tmp 46) (.tmp 50) 22 rfl 0 5 i0 (.int .u8 0) 1 1 Try.underlying22 hi0 hz0 hz1 hz2 rfl (by omega) (.slice (some ⟨wy.heap.size, 0, none⟩) 0 0) 0 [] rfl ownB _ r'.A0 M.s0.length r'.c0 (bvs M.s0) rfl (kB.src roy.s0.1 (fun _ _ _ h => h)) (bvs_one _) (by unfold maxLen; omega) (by omega) (Nat.zero_le _) ?_
                intro v6 w6 own6 g6 at6
                rw [Nat.zero_add, List.nil_append] at own6
                obtain ⟨A6, c6, rfl, _⟩ := own_form own6
                have k6 : Kept NoF wy w6 := kB.grown g6 (fun g hg => .inr (hbE g hg))
                have hb6 := hb_next hbE kB.size at6
                have rd6 := rd_next rdB g6 hne
                refine hK.out _ _ (fun _ => SY.out _ k6) ?_
                clear hK K
                try simp only [Act.put, List.getElem_toArray, List.getElem_cons_zero, List.getElem_cons_succ, List.setIfInBounds_toArray, List.set_cons_zero, List.set_cons_succ]
                clear g6 at6
                refine wpAnyU_alone (i := 12) (by kernel_rfl) rfl (fun K hK => ?_)
                refine step_append_any _ rfl (.tmp 51) (.tmp 56) 22 rfl 0 5 i0 (.int .u8 0) 1 1 Try.underlying22 hi0 hz0 hz1 hz2 rfl (by omega) (.slice A6 (M.s0.length) c6) (M.s0.length) (bvs M.s0) rfl own6 _ _ 1 1 (bvs [b]) rfl rd6 (bvs_one _) (by unfold maxLen; omega) (by omega) (Nat.zero_le _) ?_
                intro v8 w8 own8 g8 at8
                obtain ⟨A8, c8, rfl, _⟩ := own_form own8
                have k8 : Kept NoF wy w8 := k6.grown g8 (fun g hg => .inr (hb6 g hg))
                have hb8 := hb_next hb6 k6.size at8
                have qc : w8.cell? ⟨w.heap.size, 2, none⟩ = some (.slice r'.A0 M.s0.length r'.c0) := (SY.out _ k8).2.1
                have zc : w8.frozen? ⟨w.heap.size, 2, none⟩ = false := (k8.blk by_ (fun h => h)).frozen 2
                refine hK.out _ _ (fun _ => SY.out _ k8) ?_
                clear hK K
                try simp only [Act.put, List.getElem_toArray, List.getElem_cons_zero, List.getElem_cons_succ, List.setIfInBounds_toArray, List.set_cons_zero, List.set_cons_succ]
                clear g8 at8
                refine wpAnyU_alone (i := 14) (by kernel_rfl) rfl (fun K hK => ?_)
                go_simp
                refine hK.out _ _ (fun h => (Bool.false_ne_true (h.symm.trans (by kernel_rfl))).elim) ?_
                clear hK K
                try simp only [Act.put, List.getElem_toArray, List.getElem_cons_zero, List.getElem_cons_succ, List.setIfInBounds_toArray, List.set_cons_zero, List.set_cons_succ]
                refine wpAnyU_alone (i := 15) (by kernel_rfl) rfl (fun K hK => ?_)
                go_simp
                refine hK.out _ _ (fun h => (Bool.false_ne_true (h.symm.trans (by kernel_rfl))).elim) ?_
                clear hK K
                try simp only [Act.put, List.getElem_toArray, List.getElem_cons_zero, List.getElem_cons_succ, List.setIfInBounds_toArray, List.set_cons_zero, List.set_cons_succ]
                refine wpAnyU_done (by kernel_rfl) ?_ _
                refine NoPanic.normal ?_
                go_wp2_with fail
                go_meet
                case rel => exact ⟨rfl, ref_app_s0 HMd.out roy hly by_ bzy k8 own8 hb8 kwy (Nat.le_refl _)⟩
            · go_simp
              have kC := ((Kept.refl NoF wy).alloc (.cells #[.int .u8 (b.toNat : Int)] 5)).drew
              have rdC := (Kept.refl NoF _).drew.src (mkB wy b) (fun _ _ _ h => h)
              have hcl : wy.heap.size < (wy.alloc (.cells #[.int .u8 (b.toNat : Int)] 5)).drew.heap.size := (Blk.new wy 5 #[.int .u8 (b.toNat : Int)]).drew.lt
              refine hK.out _ _ (fun _ => SY.out _ kC) ?_
              clear hK K
              try simp only [Act.put, List.getElem_toArray, List.getElem_cons_zero, List.getElem_cons_succ, List.setIfInBounds_toArray, List.set_cons_zero, List.set_cons_succ]
              generalize (wy.alloc (.cells #[.int .u8 (b.toNat : Int)] 5)).drew = wE at kC rdC hcl ⊢
              refine wpAnyU_alone (i := 1) (by kernel_rfl) rfl (fun K hK => ?_)
              go_simp
              have kB := kC.alloc (.cells #[] 5)
              have ownB := mkE wE
              have hbE := hb_new (wy := wy) kC.size
              have rdB := ((Kept.refl NoF wE).alloc (.cells #[] 5)).src rdC (fun _ _ _ h => h)
              have hne : ∀ g, (Value.slice (some ⟨wE.heap.size, 0, none⟩) 0 0).ownBlock = some g → (⟨wy.heap.size, 0, none⟩ : Addr).block ≠ g := fun g hg => by
                simp only [Value.ownBlock] at hg
                injection hg with hg
                exact Nat.ne_of_lt (hg ▸ hcl)
              refine hK.out _ _ (fun _ => SY.out _ kB) ?_
              clear hK K
              try simp only [Act.put, List.getElem_toArray, List.getElem_cons_zero, List.getElem_cons_succ, List.setIfInBounds_toArray, List.set_cons_zero, List.set_cons_succ]
              generalize wE.alloc (.cells #[] 5) = wB at kB ownB rdB ⊢
              refine wpAnyU_alone (i := 6) (by kernel_rfl) rfl (fun K hK => ?_)
              refine step_append_any _ rfl (.tmp 46) (.tmp 50) 22 rfl 0 5 i0 (.int .u8 0) 1 1 Try.underlying22 hi0 hz0 hz1 hz2 rfl (by omega) (.slice (some ⟨wE.heap.size, 0, none⟩) 0 0) 0 [] rfl ownB _ r'.A0 M.s0.length r'.c0 (bvs M.s0) rfl (kB.src roy.s0.1 (fun _ _ _ h => h)) (bvs_one _) (by unfold maxLen; omega) (by omega) (Nat.zero_le _) ?_
              intro v6 w6 own6 g6 at6
              rw [Nat.zero_add, List.nil_append] at own6
              obtain ⟨A6, c6, rfl, _⟩ := own_form own6
              have k6 : Kept NoF wy w6 := kB.grown g6 (fun g hg => .inr (hbE g hg))
              have hb6 := hb_next hbE kB.size at6
              have rd6 := rd_next rdB g6 hne
              refine hK.out _ _ (fun _ => SY.out _ k6) ?_
              clear hK K
              try simp only [Act.put, List.getElem_toArray, List.getElem_cons_zero, List.getElem_cons_succ, List.setIfInBounds_toArray, List.set_cons_zero, List.set_cons_succ]
              clear g6 at6
              refine wpAnyU_alone (i := 12) (by kernel_rfl) rfl (fun K hK => ?_)
              refine step_append_any _ rfl (.tmp 51) (.tmp 56) 22 rfl 0 5 i0 (.int .u8 0) 1 1 Try.underlying22 hi0 hz0 hz1 hz2 rfl (by omega) (.slice A6 (M.s0.length) c6) (M.s0.length) (bvs M.s0) rfl own6 _ _ 1 1 (bvs [b]) rfl rd6 (bvs_one _) (by unfold maxLen; omega) (by omega) (Nat.zero_le _) ?_
              intro v8 w8 own8 g8 at8
              obtain ⟨A8, c8, rfl, _⟩ := own_form own8
              have k8 : Kept NoF wy w8 := k6.grown g8 (fun g hg => .inr (hb6 g hg))
              have hb8 := hb_next hb6 k6.size at8
              have qc : w8.cell? ⟨w.heap.size, 2, none⟩ = some (.slice r'.A0 M.s0.length r'.c0) := (SY.out _ k8).2.1
              have zc : w8.frozen? ⟨w.heap.size, 2, none⟩ = false := (k8.blk by_ (fun h => h)).frozen 2
              refine hK.out _ _ (fun _ => SY.out _ k8) ?_
              clear hK K
              try simp only [Act.put, List.getElem_toArray, List.getElem_cons_zero, List.getElem_cons_succ, List.setIfInBounds_toArray, List.set_cons_zero, List.set_cons_succ]
              clear g8 at8
              refine wpAnyU_alone (i := 14) (by kernel_rfl) rfl (fun K hK => ?_)
              go_simp
              refine hK.out _ _ (fun h => (Bool.false_ne_true (h.symm.trans (by kernel_rfl))).elim) ?_
              clear hK K
              try simp only [Act.put, List.getElem_toArray, List.getElem_cons_zero, List.getElem_cons_succ, List.setIfInBounds_toArray, List.set_cons_zero, List.set_cons_succ]
              refine wpAnyU_alone (i := 15) (by kernel_rfl) rfl (fun K hK => ?_)
              go_simp
              refine hK.out _ _ (fun h => (Bool.false_ne_true (h.symm.trans (by kernel_rfl))).elim) ?_
              clear hK K
              try simp only [Act.put, List.getElem_toArray, List.getElem_cons_zero, List.getElem_cons_succ, List.setIfInBounds_toArray, List.set_cons_zero, List.set_cons_succ]
              refine wpAnyU_done (by kernel_rfl) ?_ _
              refine NoPanic.normal ?_
              go_wp2_with fail
              go_meet
              case rel => exact ⟨rfl, ref_app_s0 HMd.out roy hly by_ bzy k8 own8 hb8 kwy (Nat.le_refl _)⟩
          case rest =>
            obtain ⟨rfl, r1, cb, bzy, roy, kwy, hzy⟩ := hcut
            obtain ⟨M1, hM1⟩ : ∃ M1 : LS, M1 = { M with s0 := M.s0 ++ [b] } := ⟨_, rfl⟩
            rw [← hM1] at cb roy
            have hq : M1.w1.length ≤ M.w1.length := by rw [hM1]; exact Nat.le_refl _
            have hMd1 : M1.down = false := by rw [hM1]; exact HMd.out
            have HMd1 := Lib.hid hMd1
            have HM1 := Lib.hid hM1
            have by_ : Blk wc w.heap.size 46 #[.int .i64 M1.budget, .int .i64 M1.cut, .slice r1.A0 M1.s0.length r1.c0, .slice r1.A1 M1.s1.length r1.c1, .slice r1.A2 M1.w0.length r1.c2, .slice r1.A3 M1.w1.length r1.c3, .bool false] := by rw [RV.cells, hMd1] at cb; exact cb
            have hxy : wc.cell? (adx.add j) = some (.int .u8 (b.toNat : Int)) := kwy.cell HX0.out (fun h => h)
            clear hM1 hMd1 cb
            have hw1 : IntKind.i64.wrap 1 = 1 := by rw [IntKind.wrap_i64]; omega
            go_upto_region 14 with fail
            obtain ⟨wy, hwy⟩ : ∃ wy, wy = wc := ⟨_, rfl⟩
            rw [← hwy] at by_ bzy roy kwy hzy hxy ⊢
            clear hwy
            have hly : ∀ k, FB F w.heap.size k → k < wy.heap.size := by
              rintro x (h | h | h)
              · have := hF x h; omega
              · omega
              · omega
            have sy : ∀ W, Kept NoF wy W → (fun w' => Kept NoF wy w' ∧ w'.cell? ⟨w.heap.size, 5, none⟩ = some (.slice r1.A3 M1.w1.length r1.c3) ∧ w'.cell? (adx.add j) = some (.int .u8 (b.toNat : Int))) W := fun W k => ⟨k, k.cell ((by_.cell 5).trans rfl) (fun h => h), k.cell hxy (fun h => h)⟩
            have SY := Lib.hid sy
            clear sy
            refine wp_region_noPanic ?_
            refine wp_region_until (by kernel_rfl) 16 (fun w' => Kept NoF wy w' ∧ w'.cell? ⟨w.heap.size, 5, none⟩ = some (.slice r1.A3 M1.w1.length r1.c3) ∧ w'.cell? (adx.add j) = some (.int .u8 (b.toNat : Int))) (SY.out _ (Kept.refl NoF wy).drew) (fun hHeld => ?_)
            refine wpAnyU_take (i := 0) (v := ?_) rfl (by kernel_rfl) (by kernel_rfl) (by kernel_rfl) (by kernel_rfl) (by kernel_rfl) (fun _ _ _ h => h) (Or.inl ⟨by rfl, ?_⟩) hHeld ?_
            rotate_left
            · (intro w hSw; (try dsimp only at hSw); go_simp; try (with_reducible rfl))
            simp only [Act.put, List.getElem_toArray, List.getElem_cons_zero, List.setIfInBounds_toArray, List.set_cons_zero, List.set_cons_succ]
            refine wpAnyU_take (i := 1) (v := ?_) rfl (by kernel_rfl) (by kernel_rfl) (by kernel_rfl) (by kernel_rfl) (by kernel_rfl) (fun _ _ _ h => h) (Or.inl ⟨by rfl, ?_⟩) hHeld ?_
            rotate_left
            · (intro w hSw; (try dsimp only at hSw); go_simp; try (with_reducible rfl))
            simp only [Act.put, List.getElem_toArray, List.getElem_cons_zero, List.getElem_cons_succ, List.setIfInBounds_toArray, List.set_cons_zero, List.set_cons_succ]
            refine wpAnyU_take (i := 3) (v := ?_) rfl (by kernel_rfl) (by kernel_rfl) (by kernel_rfl) (by kernel_rfl) (by kernel_rfl) (fun _ _ _ h => h) (Or.inl ⟨by rfl, ?_⟩) hHeld ?_
            rotate_left
            · (intro w hSw; (try dsimp only at hSw); go_simp; try (with_reducible rfl))
            simp only [Act.put, List.getElem_toArray, List.getElem_cons_zero, List.getElem_cons_succ, List.setIfInBounds_toArray, List.set_cons_zero, List.set_cons_succ]
            refine wpAnyU_take (i := 4) (v := ?_) rfl (by kernel_rfl) (by kernel_rfl) (by kernel_rfl) (by kernel_rfl) (by kernel_rfl) (fun _ _ _ h => h) (Or.inl ⟨by rfl, ?_⟩) hHeld ?_
            rotate_left
            · (intro w hSw; (try dsimp only at hSw); go_simp; try (with_reducible rfl))
            simp only [Act.put, List.getElem_toArray, List.getElem_cons_zero, List.getElem_cons_succ, List.setIfInBounds_toArray, List.set_cons_zero, List.set_cons_succ]
            refine wpAnyU_take (i := 5) (v := ?_) rfl (by kernel_rfl) (by kernel_rfl) (by kernel_rfl) (by kernel_rfl) (by kernel_rfl) (fun _ _ _ h => h) (Or.inl ⟨by rfl, ?_⟩) hHeld ?_
            rotate_left
            · (intro w hSw; (try dsimp only at hSw); go_simp; try (with_reducible rfl))
            simp only [Act.put, List.getElem_toArray, List.getElem_cons_zero, List.getElem_cons_succ, List.setIfInBounds_toArray, List.set_cons_zero, List.set_cons_succ]
            refine wpAnyU_take (i := 6) (v := ?_) rfl (by kernel_rfl) (by kernel_rfl) (by kernel_rfl) (by kernel_rfl) (by kernel_rfl) (fun _ _ _ h => h) (Or.inl ⟨by rfl, ?_⟩) hHeld ?_
            rotate_left
            · (intro w hSw; (try dsimp only at hSw); go_simp; try (with_reducible rfl))
            simp only [Act.put, List.getElem_toArray, List.getElem_cons_zero, List.getElem_cons_succ, List.setIfInBounds_toArray, List.set_cons_zero, List.set_cons_succ]
            refine wpAnyU_take (i := 7) (v := ?_) rfl (by kernel_rfl) (by kernel_rfl) (by kernel_rfl) (by kernel_rfl) (by kernel_rfl) (fun _ _ _ h => h) (Or.inl ⟨by rfl, ?_⟩) hHeld ?_
            rotate_left
            · (intro w hSw; (try dsimp only at hSw); go_simp; try (with_reducible rfl))
            simp only [Act.put, List.getElem_toArray, List.getElem_cons_zero, List.getElem_cons_succ, List.setIfInBounds_toArray, List.set_cons_zero, List.set_cons_succ]
            refine wpAnyU_take (i := 9) (v := ?_) rfl (by kernel_rfl) (by kernel_rfl) (by kernel_rfl) (by kernel_rfl) (by kernel_rfl) (fun _ _ _ h => h) (Or.inl ⟨by rfl, ?_⟩) hHeld ?_
            rotate_left
            · (intro w hSw; (try dsimp only at hSw); go_simp; try (with_reducible rfl))
            simp only [Act.put, List.getElem_toArray, List.getElem_cons_zero, List.getElem_cons_succ, List.setIfInBounds_toArray, List.set_cons_zero, List.set_cons_succ]
            refine wpAnyU_take (i := 10) (v := ?_) rfl (by kernel_rfl) (by kernel_rfl) (by kernel_rfl) (by kernel_rfl) (by kernel_rfl) (fun _ _ _ h => h) (Or.inl ⟨by rfl, ?_⟩) hHeld ?_
            rotate_left
            · (intro w hSw; (try dsimp only at hSw); go_simp; try (with_reducible rfl))
            simp only [Act.put, List.getElem_toArray, List.getElem_cons_zero, List.getElem_cons_succ, List.setIfInBounds_toArray, List.set_cons_zero, List.set_cons_succ]
            refine wpAnyU_take (i := 11) (v := ?_) rfl (by kernel_rfl) (by kernel_rfl) (by kernel_rfl) (by kernel_rfl) (by kernel_rfl) (fun _ _ _ h => h) (Or.inl ⟨by rfl, ?_⟩) hHeld ?_
            rotate_left
            · (intro w hSw; (try dsimp only at hSw); go_simp; try (with_reducible rfl))
            simp only [Act.put, List.getElem_toArray, List.getElem_cons_zero, List.getElem_cons_succ, List.setIfInBounds_toArray, List.set_cons_zero, List.set_cons_succ]
            refine wpAnyU_take (i := 12) (v := ?_) rfl (by kernel_rfl) (by kernel_rfl) (by kernel_rfl) (by kernel_rfl) (by kernel_rfl) (fun _ _ _ h => h) (Or.inl ⟨by rfl, ?_⟩) hHeld ?_
            rotate_left
            · (intro w hSw; (try dsimp only at hSw); go_simp; try (with_reducible rfl))
            simp only [Act.put, List.getElem_toArray, List.getElem_cons_zero, List.getElem_cons_succ, List.setIfInBounds_toArray, List.set_cons_zero, List.set_cons_succ]
            refine wpAnyU_take (i := 15) (v := ?_) rfl (by kernel_rfl) (by kernel_rfl) (by kernel_rfl) (by kernel_rfl) (by kernel_rfl) (fun _ _ _ h => h) (Or.inl ⟨by rfl, ?_⟩) hHeld ?_
            rotate_left
            · (intro w hSw; (try dsimp only at hSw); go_simp; try (with_reducible rfl))
            simp only [Act.put, List.getElem_toArray, List.getElem_cons_zero, List.getElem_cons_succ, List.setIfInBounds_toArray, List.set_cons_zero, List.set_cons_succ]
            refine wpAnyU_two (i := 2) (k := 13) (by kernel_rfl) rfl rfl (fun K hK => ?_) (fun K hK => ?_)
            · go_simp
              have kE := ((Kept.refl NoF wy).alloc (.cells #[] 5)).drew
              have ownE := (Kept.refl NoF _).drew.own (mkE wy) (fun _ _ h => h)
              have hbE := hb_new (wy := wy) (Nat.le_refl wy.heap.size)
              refine hK.out _ _ (fun _ => SY.out _ kE) ?_
              clear hK K
              try simp only [Act.put, List.getElem_toArray, List.getElem_cons_zero, List.getElem_cons_succ, List.setIfInBounds_toArray, List.set_cons_zero, List.set_cons_succ]
              generalize (wy.alloc (.cells #[] 5)).drew = wE at kE ownE ⊢
              refine wpAnyU_two (i := 8) (k := 13) (by kernel_rfl) rfl rfl (fun K hK => ?_) (fun K hK => ?_)
              · skip
                refine step_append_any _ rfl (.tmp 62) (.tmp 67) 22 rfl 0 5 i0 (.int .u8 0) 1 1 Try.underlying22 hi0 hz0 hz1 hz2 rfl (by omega) (.slice (some ⟨wy.heap.size, 0, none⟩) 0 0) 0 [] rfl ownE _ r1.A3 M1.w1.length r1.c3 (bvs M1.w1) rfl (kE.src roy.w1.1 (fun _ _ _ h => h)) (bvs_one _) (by unfold maxLen; omega) (by omega) (Nat.zero_le _) ?_
                intro v6 w6 own6 g6 at6
                rw [Nat.zero_add, List.nil_append] at own6
                obtain ⟨A6, c6, rfl, _⟩ := own_form own6
                have k6 : Kept NoF wy w6 := kE.grown g6 (fun g hg => .inr (hbE g hg))
                have hb6 := hb_next hbE kE.size at6
                refine hK.out _ _ (fun _ => SY.out _ k6) ?_
                clear hK K
                try simp only [Act.put, List.getElem_toArray, List.getElem_cons_zero, List.getElem_cons_succ, List.setIfInBounds_toArray, List.set_cons_zero, List.set_cons_succ]
                clear g6 at6
                refine wpAnyU_alone (i := 13) (by kernel_rfl) rfl (fun K hK => ?_)
                go_simp
                have kB := k6.alloc (.cells #[.int .u8 (b.toNat : Int)] 5)
                have ownB := ((Kept.refl NoF w6).alloc (.cells #[.int .u8 (b.toNat : Int)] 5)).own own6 (fun _ _ h => h)
                have rdB := mkB w6 b
                refine hK.out _ _ (fun _ => SY.out _ kB) ?_
                clear hK K
                try simp only [Act.put, List.getElem_toArray, List.getElem_cons_zero, List.getElem_cons_succ, List.setIfInBounds_toArray, List.set_cons_zero, List.set_cons_succ]
                generalize w6.alloc (.cells #[.int .u8 (b.toNat : Int)] 5) = wB at kB ownB rdB ⊢
                refine wpAnyU_alone (i := 14) (by kernel_rfl) rfl (fun K hK => ?_)
                refine step_append_any _ rfl (.tmp 68) (.tmp 73) 22 rfl 0 5 i0 (.int .u8 0) 1 1 Try.underlying22 hi0 hz0 hz1 hz2 rfl (by omega) (.slice A6 (M1.w1.length) c6) (M1.w1.length) (bvs M1.w1) rfl ownB _ _ 1 1 (bvs [b]) rfl rdB (bvs_one _) (by unfold maxLen; omega) (by omega) (Nat.zero_le _) ?_
                intro v8 w8 own8 g8 at8
                obtain ⟨A8, c8, rfl, _⟩ := own_form own8
                have k8 : Kept NoF wy w8 := kB.grown g8 (fun g hg => .inr (hb6 g hg))
                have hb8 := hb_next hb6 kB.size at8
                have qc : w8.cell? ⟨w.heap.size, 5, none⟩ = some (.slice r1.A3 M1.w1.length r1.c3) := (SY.out _ k8).2.1
                have zc : w8.frozen? ⟨w.heap.size, 5, none⟩ = false := (k8.blk by_ (fun h => h)).frozen 5
                refine hK.out _ _ (fun _ => SY.out _ k8) ?_
                clear hK K
                try simp only [Act.put, List.getElem_toArray, List.getElem_cons_zero, List.getElem_cons_succ, List.setIfInBounds_toArray, List.set_cons_zero, List.set_cons_succ]
                clear g8 at8
                refine wpAnyU_alone (i := 16) (by kernel_rfl) rfl (fun K hK => ?_)
                go_simp
                refine hK.out _ _ (fun h => (Bool.false_ne_true (h.symm.trans (by kernel_rfl))).elim) ?_
                clear hK K
                try simp only [Act.put, List.getElem_toArray, List.getElem_cons_zero, List.getElem_cons_succ, List.setIfInBounds_toArray, List.set_cons_zero, List.set_cons_succ]
                refine wpAnyU_alone (i := 17) (by kernel_rfl) rfl (fun K hK => ?_)
                go_simp
                refine hK.out _ _ (fun h => (Bool.false_ne_true (h.symm.trans (by kernel_rfl))).elim) ?_
                clear hK K
                try simp only [Act.put, List.getElem_toArray, List.getElem_cons_zero, List.getElem_cons_succ, List.setIfInBounds_toArray, List.set_cons_zero, List.set_cons_succ]
                refine wpAnyU_done (by kernel_rfl) ?_ _
                refine NoPanic.normal ?_
                obtain ⟨r2, cb, cz, cr, ck, chz⟩ := ref_app_w1 HMd1.out roy hly by_ bzy k8 own8 hb8 kwy (Nat.le_refl _)
                generalize w8.setCell ⟨w.heap.size, 5, none⟩ (.slice A8 (M1.w1.length + 1) c8) = w9 at cb cz cr ck chz ⊢
                go_wp2_with fail
                go_roundw
                case rel => exact RSRel.next hlt HSN.out (by rw [HM1.out]; simp [LS.put, LS.put0, HMd.out]) HCN.out HMc.out HMt.out hcj cb cz cr ck chz
                case measure => simp [intOf]; omega
              · go_simp
                have kB := kE.alloc (.cells #[.int .u8 (b.toNat : Int)] 5)
                have ownB := ((Kept.refl NoF wE).alloc (.cells #[.int .u8 (b.toNat : Int)] 5)).own ownE (fun _ _ h => h)
                have rdB := mkB wE b
                have hne : ∀ g, (Value.slice (some ⟨wy.heap.size, 0, none⟩) 0 0).ownBlock = some g → (⟨wE.heap.size, 0, none⟩ : Addr).block ≠ g := fun g hg => Nat.ne_of_gt (own_lt ownE hg)
                refine hK.out _ _ (fun _ => SY.out _ kB) ?_
                clear hK K
                try simp only [Act.put, List.getElem_toArray, List.getElem_cons_zero, List.getElem_cons_succ, List.setIfInBounds_toArray, List.set_cons_zero, List.set_cons_succ]
                generalize wE.alloc (.cells #[.int .u8 (b.toNat : Int)] 5) = wB at kB ownB rdB ⊢
                refine wpAnyU_alone (i := 8) (by kernel_rfl) rfl (fun K hK => ?_)
                refine step_append_any _ rfl (.tmp 62) (.tmp 67) 22 rfl 0 5 i0 (.int .u8 0) 1 1 Try.underlying22 hi0 hz0 hz1 hz2 rfl (by omega) (.slice (some ⟨wy.heap.size, 0, none⟩) 0 0) 0 [] rfl ownB _ r1.A3 M1.w1.length r1.c3 (bvs M1.w1) rfl (kB.src roy.w1.1 (fun _ _ _ h => h)) (bvs_one _) (by unfold maxLen; omega) (by omega) (Nat.zero_le _) ?_
                intro v6 w6 own6 g6 at6
                rw [Nat.zero_add, List.nil_append] at own6
                obtain ⟨A6, c6, rfl, _⟩ := own_form own6
                have k6 : Kept NoF wy w6 := kB.grown g6 (fun g hg => .inr (hbE g hg))
                have hb6 := hb_next hbE kB.size at6
                have rd6 := rd_next rdB g6 hne
                refine hK.out _ _ (fun _ => SY.out _ k6) ?_
                clear hK K
                try simp only [Act.put, List.getElem_toArray, List.getElem_cons_zero, List.getElem_cons_succ, List.setIfInBounds_toArray, List.set_cons_zero, List.set_cons_succ]
                clear g6 at6
                refine wpAnyU_alone (i := 14) (by kernel_rfl) rfl (fun K hK => ?_)
                refine step_append_any _ rfl (.tmp 68) (.tmp 73) 22 rfl 0 5 i0 (.int .u8 0) 1 1 Try.underlying22 hi0 hz0 hz1 hz2 rfl (by omega) (.slice A6 (M1.w1.length) c6) (M1.w1.length) (bvs M1.w1) rfl own6 _ _ 1 1 (bvs [b]) rfl rd6 (bvs_one _) (by unfold maxLen; omega) (by omega) (Nat.zero_le _) ?_
                intro v8 w8 own8 g8 at8
                obtain ⟨A8, c8, rfl, _⟩ := own_form own8
                have k8 : Kept NoF wy w8 := k6.grown g8 (fun g hg => .inr (hb6 g hg))
                have hb8 := hb_next hb6 k6.size at8
                have qc : w8.cell? ⟨w.heap.size, 5, none⟩ = some (.slice r1.A3 M1.w1.length r1.c3) := (SY.out _ k8).2.1
                have zc : w8.frozen? ⟨w.heap.size, 5, none⟩ = false := (k8.blk by_ (fun h => h)).frozen 5
                refine hK.out _ _ (fun _ => SY.out _ k8) ?_
                clear hK K
                try simp only [Act.put, List.getElem_toArray, List.getElem_cons_zero, List.getElem_cons_succ, List.setIfInBounds_toArray, List.set_cons_zero, List.set_cons_succ]
                clear g8 at8
                refine wpAnyU_alone (i := 16) (by kernel_rfl) rfl (fun K hK => ?_)
                go_simp
                refine hK.out _ _ (fun h => (Bool.false_ne_true (h.symm.trans (by kernel_rfl))).elim) ?_
                clear hK K
                try simp only [Act.put, List.getElem_toArray, List.getElem_cons_zero, List.getElem_cons_succ, List.setIfInBounds_toArray, List.set_cons_zero, List.set_cons_succ]
                refine wpAnyU_alone (i := 17) (by kernel_rfl) rfl (fun K hK => ?_)
                go_simp
                refine hK.out _ _ (fun h => (Bool.false_ne_true (h.symm.trans (by kernel_rfl))).elim) ?_
                clear hK K
                try simp only [Act.put, List.getElem_toArray, List.getElem_cons_zero, List.getElem_cons_succ, List.setIfInBounds_toArray, List.set_cons_zero, List.set_cons_succ]
                refine wpAnyU_done (by kernel_rfl) ?_ _
                refine NoPanic.normal ?_
                obtain ⟨r2, cb, cz, cr, ck, chz⟩ := ref_app_w1 HMd1.out roy hly by_ bzy k8 own8 hb8 kwy (Nat.le_refl _)
                generalize w8.setCell ⟨w.heap.size, 5, none⟩ (.slice A8 (M1.w1.length + 1) c8) = w9 at cb cz cr ck chz ⊢
                go_wp2_with fail
                go_roundw
                case rel => exact RSRel.next hlt HSN.out (by rw [HM1.out]; simp [LS.put, LS.put0, HMd.out]) HCN.out HMc.out HMt.out hcj cb cz cr ck chz
                case measure => simp [intOf]; omega
            · go_simp
              have kC := ((Kept.refl NoF wy).alloc (.cells #[.int .u8 (b.toNat : Int)] 5)).drew
              have rdC := (Kept.refl NoF _).drew.src (mkB wy b) (fun _ _ _ h => h)
              have hcl : wy.heap.size < (wy.alloc (.cells #[.int .u8 (b.toNat : Int)] 5)).drew.heap.size := (Blk.new wy 5 #[.int .u8 (b.toNat : Int)]).drew.lt
              refine hK.out _ _ (fun _ => SY.out _ kC) ?_
              clear hK K
              try simp only [Act.put, List.getElem_toArray, List.getElem_cons_zero, List.getElem_cons_succ, List.setIfInBounds_toArray, List.set_cons_zero, List.set_cons_succ]
              generalize (wy.alloc (.cells #[.int .u8 (b.toNat : Int)] 5)).drew = wE at kC rdC hcl ⊢
              refine wpAnyU_alone (i := 2) (by kernel_rfl) rfl (fun K hK => ?_)
              go_simp
              have kB := kC.alloc (.cells #[] 5)
              have ownB := mkE wE
              have hbE := hb_new (wy := wy) kC.size
              have rdB := ((Kept.refl NoF wE).alloc (.cells #[] 5)).src rdC (fun _ _ _ h => h)
              have hne : ∀ g, (Value.slice (some ⟨wE.heap.size, 0, none⟩) 0 0).ownBlock = some g → (⟨wy.heap.size, 0, none⟩ : Addr).block ≠ g := fun g hg => by
                simp only [Value.ownBlock] at hg
                injection hg with hg
                exact Nat.ne_of_lt (hg ▸ hcl)
              refine hK.out _ _ (fun _ => SY.out _ kB) ?_
              clear hK K
              try simp only [Act.put, List.getElem_toArray, List.getElem_cons_zero, List.getElem_cons_succ, List.setIfInBounds_toArray, List.set_cons_zero, List.set_cons_succ]
              generalize wE.alloc (.cells #[] 5) = wB at kB ownB rdB ⊢
              refine wpAnyU_alone (i := 8) (by kernel_rfl) rfl (fun K hK => ?_)
              refine step_append_any _ rfl (.tmp 62) (.tmp 67) 22 rfl 0 5 i0 (.int .u8 0) 1 1 Try.underlying22 hi0 hz0 hz1 hz2 rfl (by omega) (.slice (some ⟨wE.heap.size, 0, none⟩) 0 0) 0 [] rfl ownB _ r1.A3 M1.w1.length r1.c3 (bvs M1.w1) rfl (kB.src roy.w1.1 (fun _ _ _ h => h)) (bvs_one _) (by unfold maxLen; omega) (by omega) (Nat.zero_le _) ?_
              intro v6 w6 own6 g6 at6
              rw [Nat.zero_add, List.nil_append] at own6
              obtain ⟨A6, c6, rfl, _⟩ := own_form own6
              have k6 : Kept NoF wy w6 := kB.grown g6 (fun g hg => .inr (hbE g hg))
              have hb6 := hb_next hbE kB.size at6
              have rd6 := rd_next rdB g6 hne
              refine hK.out _ _ (fun _ => SY.out _ k6) ?_
              clear hK K
              try simp only [Act.put, List.getElem_toArray, List.getElem_cons_zero, List.getElem_cons_succ, List.setIfInBounds_toArray, List.set_cons_zero, List.set_cons_succ]
              clear g6 at6
              refine wpAnyU_alone (i := 14) (by kernel_rfl) rfl (fun K hK => ?_)
              refine step_append_any _ rfl (.tmp 68) (.tmp 73) 22 rfl 0 5 i0 (.int .u8 0) 1 1 Try.underlying22 hi0 hz0 hz1 hz2 rfl (by omega) (.slice A6 (M1.w1.length) c6) (M1.w1.length) (bvs M1.w1) rfl own6 _ _ 1 1 (bvs [b]) rfl rd6 (bvs_one _) (by unfold maxLen; omega) (by omega) (Nat.zero_le _) ?_
              intro v8 w8 own8 g8 at8
              obtain ⟨A8, c8, rfl, _⟩ := own_form own8
              have k8 : Kept NoF wy w8 := k6.grown g8 (fun g hg => .inr (hb6 g hg))
              have hb8 := hb_next hb6 k6.size at8
              have qc : w8.cell? ⟨w.heap.size, 5, none⟩ = some (.slice r1.A3 M1.w1.length r1.c3) := (SY.out _ k8).2.1
              have zc : w8.frozen? ⟨w.heap.size, 5, none⟩ = false := (k8.blk by_ (fun h => h)).frozen 5
              refine hK.out _ _ (fun _ => SY.out _ k8) ?_
              clear hK K
              try simp only [Act.put, List.getElem_toArray, List.getElem_cons_zero, List.getElem_cons_succ, List.setIfInBounds_toArray, List.set_cons_zero, List.set_cons_succ]
              clear g8 at8
              refine wpAnyU_alone (i := 16) (by kernel_rfl) rfl (fun K hK => ?_)
              go_simp
              refine hK.out _ _ (fun h => (Bool.false_ne_true (h.symm.trans (by kernel_rfl))).elim) ?_
              clear hK K
              try simp only [Act.put, List.getElem_toArray, List.getElem_cons_zero, List.getElem_cons_succ, List.setIfInBounds_toArray, List.set_cons_zero, List.set_cons_succ]
              refine wpAnyU_alone (i := 17) (by kernel_rfl) rfl (fun K hK => ?_)
              go_simp
              refine hK.out _ _ (fun h => (Bool.false_ne_true (h.symm.trans (by kernel_rfl))).elim) ?_
              clear hK K
              try simp only [Act.put, List.getElem_toArray, List.getElem_cons_zero, List.getElem_cons_succ, List.setIfInBounds_toArray, List.set_cons_zero, List.set_cons_succ]
              refine wpAnyU_done (by kernel_rfl) ?_ _
              refine NoPanic.normal ?_
              obtain ⟨r2, cb, cz, cr, ck, chz⟩ := ref_app_w1 HMd1.out roy hly by_ bzy k8 own8 hb8 kwy (Nat.le_refl _)
              generalize w8.setCell ⟨w.heap.size, 5, none⟩ (.slice A8 (M1.w1.length + 1) c8) = w9 at cb cz cr ck chz ⊢
              go_wp2_with fail
              go_roundw
              case rel => exact RSRel.next hlt HSN.out (by rw [HM1.out]; simp [LS.put, LS.put0, HMd.out]) HCN.out HMc.out HMt.out hcj cb cz cr ck chz
              case measure => simp [intOf]; omega
    · obtain rfl : j = xs.length := by omega
      have hte : xs.take xs.length = xs := List.take_length
      rw [hte] at bx ro hMb hMc hMd hMt hMok
      have hfin : L.send 0 xs = (L.put 0 xs false, (xs.length : Int), 0) := send_all_eq (.inl rfl) HD.out (by unfold LS.total; omega) (fun h => by have := hcj h.1; omega)
      have HFIN := Lib.hid hfin
      clear hfin
      generalize hM : L.put 0 xs false = M at hMok hMb hMc hMd hMt bx ro HFIN
      have bx' : Blk wr w.heap.size 46 #[.int .i64 M.budget, .int .i64 M.cut, .slice r'.A0 M.s0.length r'.c0, .slice r'.A1 M.s1.length r'.c1, .slice r'.A2 M.w0.length r'.c2, .slice r'.A3 M.w1.length r'.c3, .bool false] := by rw [RV.cells, hMd] at bx; exact bx
      have hcm : r'.cells M = #[.int .i64 M.budget, .int .i64 M.cut, .slice r'.A0 M.s0.length r'.c0, .slice r'.A1 M.s1.length r'.c1, .slice r'.A2 M.w0.length r'.c2, .slice r'.A3 M.w1.length r'.c3, .bool false] := by rw [RV.cells, hMd]
      have HCM := Lib.hid hcm
      have q0 : wr.cell? ⟨w.heap.size, 0, none⟩ = some (.int .i64 M.budget) := (bx'.cell 0).trans rfl
      have q1 : wr.cell? ⟨w.heap.size, 1, none⟩ = some (.int .i64 M.cut) := (bx'.cell 1).trans rfl
      have q2 : wr.cell? ⟨w.heap.size, 2, none⟩ = some (.slice r'.A0 M.s0.length r'.c0) := (bx'.cell 2).trans rfl
      have q3 : wr.cell? ⟨w.heap.size, 3, none⟩ = some (.slice r'.A1 M.s1.length r'.c1) := (bx'.cell 3).trans rfl
      have q4 : wr.cell? ⟨w.heap.size, 4, none⟩ = some (.slice r'.A2 M.w0.length r'.c2) := (bx'.cell 4).trans rfl
      have q5 : wr.cell? ⟨w.heap.size, 5, none⟩ = some (.slice r'.A3 M.w1.length r'.c3) := (bx'.cell 5).trans rfl
      have q6 : wr.cell? ⟨w.heap.size, 6, none⟩ = some (.bool false) := (bx'.cell 6).trans rfl
      have y0 : wr.cell? ⟨w.heap.size + 1, 0, none⟩ = some (.int .i64 0) := (bz.cell 0).trans rfl
      have y1 : wr.cell? ⟨w.heap.size + 1, 1, none⟩ = some (.int .i64 0) := (bz.cell 1).trans rfl
      have y2 : wr.cell? ⟨w.heap.size + 1, 2, none⟩ = some (.slice none 0 0) := (bz.cell 2).trans rfl
      have y3 : wr.cell? ⟨w.heap.size + 1, 3, none⟩ = some (.slice none 0 0) := (bz.cell 3).trans rfl
      have y4 : wr.cell? ⟨w.heap.size + 1, 4, none⟩ = some (.slice none 0 0) := (bz.cell 4).trans rfl
      have y5 : wr.cell? ⟨w.heap.size + 1, 5, none⟩ = some (.slice none 0 0) := (bz.cell 5).trans rfl
      have y6 : wr.cell? ⟨w.heap.size + 1, 6, none⟩ = some (.bool false) := (bz.cell 6).trans rfl
      have z : ∀ i, wr.frozen? ⟨w.heap.size + 1, i, none⟩ = false := fun i => bz.frozen i
      clear bx bx' hM hMb hMc hMd hMt hMok hcm hte
      go_wp2_with fail
      refine bodyPost_ret (v := .tuple #[.agg #[.int .i64 M.budget, .int .i64 M.cut, .slice r'.A0 M.s0.length r'.c0, .slice r'.A1 M.s1.length r'.c1, .slice r'.A2 M.w0.length r'.c2, .slice r'.A3 M.w1.length r'.c3, .bool false], .int .i64 (xs.length : Int), .int .i64 0]) (by simp [results, Try.results21, go_sem, y0, y1, y2, y3, y4, y5, y6]) rfl ?_
      rw [HFIN.out]
      exact ⟨r', by rw [HCM.out], ro.fin kr (Kept.seven _ _ _ _ _ _ _ _ _) rfl rfl rfl rfl⟩

end Go.Proofs.Ytchchgdkejolaaa
