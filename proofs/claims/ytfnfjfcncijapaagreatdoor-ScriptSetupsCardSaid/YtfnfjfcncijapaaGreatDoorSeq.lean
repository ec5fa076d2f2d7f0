/- A range over an iterator that keeps a variable of its own in a cell: the loop's law at the fence that asks nothing, and what an iterator promises. After the library's laws for iterators without such a variable. -/
import Derived.Test.YtfnfjfcncijapaaGreatDoorRep
import Derived.RangeFuncNested
import Derived.RangeFuncBound
import Derived.RangeFuncCalls
import Derived.RangeFuncLeaves
namespace Go.Proofs.YtfnfjfcncijapaaGreatDoor
open Go.RowKit

/-- The blocks in S lie as they lay. -/
def Same (S : Nat → Prop) (W W' : World) : Prop := W.heap.size ≤ W'.heap.size ∧ ∀ k, S k → W'.heap[k]? = W.heap[k]?
theorem Same.refl (S : Nat → Prop) (W : World) : Same S W W := ⟨Nat.le_refl _, fun _ _ => rfl⟩
theorem Same.trans {S : Nat → Prop} {A B C : World} (h : Same S A B) (k : Same S B C) : Same S A C := ⟨Nat.le_trans h.1 k.1, fun i hi => (k.2 i hi).trans (h.2 i hi)⟩
theorem Same.of_kept {S F : Nat → Prop} {A B : World} (h : Kept F A B) (hS : ∀ k, S k → k < A.heap.size) (hd : ∀ k, S k → ¬ F k) : Same S A B := ⟨h.size, fun k hk => h.block k (hS k hk) (hd k hk)⟩
theorem Same.mono {S T : Nat → Prop} {A B : World} (h : Same S A B) (hT : ∀ k, T k → S k) : Same T A B := ⟨h.1, fun k hk => h.2 k (hT k hk)⟩

/-- J does not mind new blocks, nor whatever becomes of the blocks in S. -/
def Free (S : Nat → Prop) (J : World → Prop) : Prop := ∀ A B, J A → Kept S A B → J B
theorem Free.mono {S T : Nat → Prop} {J : World → Prop} (h : Free S J) (hT : ∀ k, T k → S k) : Free T J := fun A B hj hk => h A B hj (hk.mono hT)

theorem Kept.putObj {S : Nat → Prop} {W : World} {l : Nat} (o : Obj) (hl : S l) : Kept S W (W.putObj l o) :=
  ⟨rfl, rfl, rfl, by simp, fun k _ hk => World.putObj_heap_other (fun e => hk (e ▸ hl))⟩

theorem RoundIn.wide {m m' : Nat} {P : Program} {l : Nat} {f : FuncId} {tmps : Array Value} {assign body : Code} {W : World} {R : Ending → World → Prop} (h : RoundIn Fence.wide m P l f tmps assign body W R) : RoundIn Fence.wide m' P l f tmps assign body W R :=
  ⟨h.1, fun c cs _ => h.2 c cs (room_wide _)⟩

/-- A call of yield in world W. -/
def YieldsTo (P : Program) (l : Nat) (args : Array Value) (W : World) (R : Ending → World → Prop) : Prop := YieldAt Fence.wide 0 P l args W R

/-- What an iterator promises: it hands vs over, one after the other, as long as the rounds say 'more'; of what lay it turns the blocks in S alone. -/
def Iter (P : Program) (g : Nat) (lb : Array Value) (vs : List (Array Value)) (S : Nat → Prop) (W : World) : Prop :=
  ∀ (l : Nat) (J Jx : Nat → World → Prop), (∀ i, Free S (J i)) → (∀ i, Free S (Jx i)) →
    (∀ (i : Nat) (h : i < vs.length) (W1 : World), J i W1 → (∀ k, S k → k < W1.heap.size) → YieldsTo P l vs[i] W1 fun e W' =>
      (e = .returned (.bool true) ∧ J (i + 1) W' ∧ Same S W1 W') ∨ (e = .returned (.bool false) ∧ Jx (i + 1) W' ∧ Same S W1 W')) →
    J 0 W →
    Calls P g (#[.func (.yield l) #[] #[]] ++ lb) W fun e W' => (∃ v, e = .returned v) ∧ (J vs.length W' ∨ ∃ i, i < vs.length ∧ Jx (i + 1) W')

/-- How the body of a round may be left. -/
def outPost (S : Nat → Prop) (I : Nat → World → Prop) (Ix : Code → Nat → World → Prop) (i : Nat) (W : World) : Exit → Act → World → Prop
  | .normal, _, W' => Same S W W' ∧ I i W'
  | .ret, _, W' => Same S W W' ∧ Ix .ret i W'
  | .exit id, _, W' => Same S W W' ∧ Ix (.exit id) i W'
  | .goto t, _, W' => Same S W W' ∧ Ix (.goto t) i W'
  | .panic _, _, _ => False
  | .outgrown, _, _ => False

/-- The blocks that the body of a loop that begins in a world of n blocks leaves alone: the loop's own two and the iterator's. -/
def Priv (n : Nat) (S : Nat → Prop) : Nat → Prop := fun k => k = n ∨ k = n + 1 ∨ S k

theorem wp_range {P : Program} {g : Operand} {ps : Array Tmp} {assign body : Code} {Q : Exit → Act → World → Prop} {a : Act} {w : World} {gf : Nat} {lb : Array Value}
    (hg : a.eval g = .func (.func gf) #[] lb) (eg : ∀ args w, (callFunc gf args).run P w = .ok (.enter gf args) w) {vs : List (Array Value)} {S : Nat → Prop}
    (hseq : ∀ r, Iter P gf lb vs S ((w.alloc (.deferred (some []))).alloc (.loop r))) (hS : ∀ k, S k → k ≠ w.heap.size ∧ k ≠ w.heap.size + 1) (hps : ∀ v ∈ vs, v.size = ps.size)
    (I : Nat → World → Prop) (Ix : Code → Nat → World → Prop) (hI : ∀ i, Free (Priv w.heap.size S) (I i)) (hIx : ∀ c i, Free (Priv w.heap.size S) (Ix c i)) (h0 : I 0 w) (a₁ : Nat → Act)
    (hassign : ∀ (l : Nat) (i : Nat) (h : i < vs.length) (W : World) (K : Act → World → Prop), K (a₁ i) W →
      assign.wpIn (Fence.wide.inRound l) 0 P (Exit.then K (fun _ _ _ => False)) { tmps := (ps.zip vs[i]).foldl (fun t (p, v) => t.setIfInBounds p v) a.tmps, defers := [] } W)
    (hbody : ∀ (l : Nat) (i : Nat) (h : i < vs.length) (W : World), I i W → (∀ k, Priv w.heap.size S k → k < W.heap.size) → body.wpIn (Fence.wide.inRound l) 0 P (outPost (Priv w.heap.size S) I Ix (i + 1) W) (a₁ i) W)
    (hdone : ∀ (W : World), I vs.length W → W.heap[w.heap.size]? = some (.deferred (some [])) → Q .normal { a with defers := { target := .collected w.heap.size, args := #[] } :: a.defers } W)
    (hstop : ∀ (c : Code) (i : Nat) (W : World), i < vs.length → Ix c (i + 1) W → W.heap[w.heap.size]? = some (.deferred (some [])) → c.wpIn Fence.wide 0 P Q { a with defers := { target := .collected w.heap.size, args := #[] } :: a.defers } W) :
    (Code.rangeFunc g ps assign body).wpIn Fence.wide 0 P Q a w := by
  refine wpIn_rangeFunc ?_
  intro fn hfn
  obtain ⟨rec, hrec⟩ : ∃ rec : LoopState → Option Code → Loop, rec = fun st pe => { state := st, pending := pe, fn, tmps := a.tmps, params := ps, assign, body, defers := w.heap.size } := ⟨_, rfl⟩
  have hIter := hseq (rec .ready none)
  obtain ⟨W1, hW1⟩ : ∃ W1, (w.alloc (.deferred (some []))).alloc (.loop (rec .ready none)) = W1 := ⟨_, rfl⟩
  rw [hW1] at hIter
  have hk1 : Kept NoF w W1 := by rw [← hW1]; exact ((Kept.refl _ _).alloc _).alloc _
  have hL1 : W1.heap[w.heap.size + 1]? = some (.loop (rec .ready none)) := by
    rw [← hW1]; have := World.alloc_heap_new (w.alloc (.deferred (some []))) (.loop (rec .ready none)); rwa [World.size_alloc] at this
  have hD1 : W1.heap[w.heap.size]? = some (.deferred (some [])) := by
    rw [← hW1]; exact (Below.heap_alloc _ _ _ (by simp)).trans (World.alloc_heap_new w _)
  have hI1 : I 0 W1 := hI 0 _ _ h0 (hk1.mono (fun _ h => h.elim))
  have pD : Priv w.heap.size S w.heap.size := .inl rfl
  have pL : Priv w.heap.size S (w.heap.size + 1) := .inr (.inl rfl)
  refine ⟨w.heap.size + 1, [{ target := .collected w.heap.size, args := #[] }], W1, { target := .fn (.func gf) lb, args := #[.func (.yield (w.heap.size + 1)) #[] #[]] }, W1, gf,
    #[.func (.yield (w.heap.size + 1)) #[] #[]] ++ lb, W1, ?_, ?_, fun _ _ => trivial, ?_, fun h => by simp [Fence.wide] at h, ?_⟩
  · rw [← hW1, hrec]; exact run_enterLoop_outer _ _ _ _ _
  · simp only [resolve, hg]
    simp [go_sem]
  · simp [invoke, go_sem, eg]
  · have keep : ∀ {A B : World} {k : Nat} {o : Obj}, A.heap[k]? = some o → Kept S A B → (k = w.heap.size ∨ k = w.heap.size + 1) → B.heap[k]? = some o := fun {A B k o} hk hAB he =>
      (hAB.block k (Array.getElem?_eq_some_iff.1 hk).1 (fun hs => by have := hS k hs; rcases he with rfl | rfl; exact this.1 rfl; exact this.2 rfl)).trans hk
    refine callsIn_wide.2 ((hIter (w.heap.size + 1)
      (fun i W => I i W ∧ W.heap[w.heap.size + 1]? = some (.loop (rec .ready none)) ∧ W.heap[w.heap.size]? = some (.deferred (some [])))
      (fun i W => ∃ c, Ix c i W ∧ W.heap[w.heap.size + 1]? = some (.loop (rec .done (some c))) ∧ W.heap[w.heap.size]? = some (.deferred (some [])))
      (fun i A B hs hAB => ⟨hI i A B hs.1 (hAB.mono (fun _ h => .inr (.inr h))), keep hs.2.1 hAB (.inr rfl), keep hs.2.2 hAB (.inl rfl)⟩)
      (fun i A B hs hAB => by
        obtain ⟨c, hc, hl, hk⟩ := hs
        exact ⟨c, hIx c i A B hc (hAB.mono (fun _ h => .inr (.inr h))), keep hl hAB (.inr rfl), keep hk hAB (.inl rfl)⟩)
      ?_ ⟨hI1, hL1, hD1⟩).mono ?_)
    · rintro i hi W ⟨hi0, hl, hk⟩ hSW
      have hlt : w.heap.size + 1 < W.heap.size := (Array.getElem?_eq_some_iff.1 hl).1
      have hy := run_yield (P := P) (args := vs[i]) hl (by rw [hrec]; exact hps _ (List.getElem_mem hi))
      rw [hrec] at hy
      refine ⟨fn, _, assign, body, hy, roundIn_of_wpIn hfn (hassign _ i hi W _ ?_)⟩
      clear hy
      refine ⟨_, run_beginRound hl (by rw [hrec]), ?_⟩
      have kb : Kept (Priv w.heap.size S) W (W.putObj (w.heap.size + 1) (.loop { rec .ready none with state := .busy })) := Kept.putObj _ pL
      have hl2 : (W.putObj (w.heap.size + 1) (.loop { rec .ready none with state := .busy })).heap[w.heap.size + 1]? = some (.loop { rec .ready none with state := .busy }) := World.putObj_heap_same hlt
      have hk2 : (W.putObj (w.heap.size + 1) (.loop { rec .ready none with state := .busy })).heap[w.heap.size]? = some (.deferred (some [])) := (World.putObj_heap_other (by omega)).trans hk
      have hs2 : Same S W (W.putObj (w.heap.size + 1) (.loop { rec .ready none with state := .busy })) := ⟨by simp, fun k hk => World.putObj_heap_other (hS k hk).2⟩
      refine wpIn_mono (hbody _ i hi _ (hI i _ _ hi0 kb) (fun k hk => by
        rw [World.putObj_size]
        rcases hk with rfl | rfl | hk
        · omega
        · exact hlt
        · exact hSW k hk)) ?_
      have fin : ∀ (jump : Option Code) (W3 : World), Same (Priv w.heap.size S) (W.putObj (w.heap.size + 1) (.loop { rec .ready none with state := .busy })) W3 →
          (Instr.endRound (w.heap.size + 1) jump).run P W3 = .ok (.bool jump.isNone) (W3.putObj (w.heap.size + 1) (.loop (rec (if jump.isNone then .ready else .done) jump))) ∧
          (W3.putObj (w.heap.size + 1) (.loop (rec (if jump.isNone then .ready else .done) jump))).heap[w.heap.size + 1]? = some (.loop (rec (if jump.isNone then .ready else .done) jump)) ∧
          (W3.putObj (w.heap.size + 1) (.loop (rec (if jump.isNone then .ready else .done) jump))).heap[w.heap.size]? = some (.deferred (some [])) ∧
          Same S W (W3.putObj (w.heap.size + 1) (.loop (rec (if jump.isNone then .ready else .done) jump))) := fun jump W3 hk3 => by
        have hl3 := (hk3.2 _ pL).trans hl2
        have := run_endRound (P := P) jump hl3
        rw [hrec] at this ⊢
        refine ⟨this, World.putObj_heap_same (Array.getElem?_eq_some_iff.1 hl3).1, (World.putObj_heap_other (by omega)).trans ((hk3.2 _ pD).trans hk2), ?_⟩
        rw [hrec] at hs2 hk3
        exact (hs2.trans (hk3.mono (fun _ h => .inr (.inr h)))).trans ⟨by simp, fun k hk => World.putObj_heap_other (hS k hk).2⟩
      rintro e a3 W3 hp
      cases e with
      | normal =>
        obtain ⟨hk3, hi3⟩ := hp
        obtain ⟨hr, hl4, hk4, hs4⟩ := fin none W3 hk3
        exact ⟨_, _, hr, .inl ⟨rfl, ⟨hI _ _ _ hi3 (Kept.putObj _ pL), hl4, hk4⟩, hs4⟩⟩
      | ret =>
        obtain ⟨hk3, hi3⟩ := hp
        obtain ⟨hr, hl4, hk4, hs4⟩ := fin (some .ret) W3 hk3
        exact ⟨_, _, hr, .inr ⟨rfl, ⟨.ret, hIx _ _ _ _ hi3 (Kept.putObj _ pL), hl4, hk4⟩, hs4⟩⟩
      | exit id =>
        obtain ⟨hk3, hi3⟩ := hp
        obtain ⟨hr, hl4, hk4, hs4⟩ := fin (some (.exit id)) W3 hk3
        exact ⟨_, _, hr, .inr ⟨rfl, ⟨.exit id, hIx _ _ _ _ hi3 (Kept.putObj _ pL), hl4, hk4⟩, hs4⟩⟩
      | goto t =>
        obtain ⟨hk3, hi3⟩ := hp
        obtain ⟨hr, hl4, hk4, hs4⟩ := fin (some (.goto t)) W3 hk3
        exact ⟨_, _, hr, .inr ⟨rfl, ⟨.goto t, hIx _ _ _ _ hi3 (Kept.putObj _ pL), hl4, hk4⟩, hs4⟩⟩
      | panic ch => exact hp.elim
      | outgrown => exact hp.elim
    · rintro e W2 ⟨⟨v, rfl⟩, (⟨hi, hl, hk⟩ | ⟨i, hil, c, hi, hl, hk⟩)⟩
      · exact ⟨none, _, by have := run_endLoop (P := P) hl (by rw [hrec]; simp); rw [hrec] at this; exact this, hdone _ (hI _ _ _ hi (Kept.putObj _ pL)) ((World.putObj_heap_other (by omega)).trans hk)⟩
      · exact ⟨some c, _, by have := run_endLoop (P := P) hl (by rw [hrec]; simp); rw [hrec] at this; exact this, hstop c i _ hil (hIx _ _ _ _ hi (Kept.putObj _ pL)) ((World.putObj_heap_other (by omega)).trans hk)⟩

/-- The same law outside every fence. -/
theorem wp_rangeP {P : Program} {g : Operand} {ps : Array Tmp} {assign body : Code} {Q : Exit → Act → World → Prop} {a : Act} {w : World} {gf : Nat} {lb : Array Value}
    (hg : a.eval g = .func (.func gf) #[] lb) (eg : ∀ args w, (callFunc gf args).run P w = .ok (.enter gf args) w) {vs : List (Array Value)} {S : Nat → Prop}
    (hseq : ∀ r, Iter P gf lb vs S ((w.alloc (.deferred (some []))).alloc (.loop r))) (hS : ∀ k, S k → k ≠ w.heap.size ∧ k ≠ w.heap.size + 1) (hps : ∀ v ∈ vs, v.size = ps.size)
    (I : Nat → World → Prop) (Ix : Code → Nat → World → Prop) (hI : ∀ i, Free (Priv w.heap.size S) (I i)) (hIx : ∀ c i, Free (Priv w.heap.size S) (Ix c i)) (h0 : I 0 w) (a₁ : Nat → Act)
    (hassign : ∀ (l : Nat) (i : Nat) (h : i < vs.length) (W : World) (K : Act → World → Prop), K (a₁ i) W →
      assign.wpIn (Fence.wide.inRound l) 0 P (Exit.then K (fun _ _ _ => False)) { tmps := (ps.zip vs[i]).foldl (fun t (p, v) => t.setIfInBounds p v) a.tmps, defers := [] } W)
    (hbody : ∀ (l : Nat) (i : Nat) (h : i < vs.length) (W : World), I i W → (∀ k, Priv w.heap.size S k → k < W.heap.size) → body.wpIn (Fence.wide.inRound l) 0 P (outPost (Priv w.heap.size S) I Ix (i + 1) W) (a₁ i) W)
    (hdone : ∀ (W : World), I vs.length W → W.heap[w.heap.size]? = some (.deferred (some [])) → Q .normal { a with defers := { target := .collected w.heap.size, args := #[] } :: a.defers } W)
    (hstop : ∀ (c : Code) (i : Nat) (W : World), i < vs.length → Ix c (i + 1) W → W.heap[w.heap.size]? = some (.deferred (some [])) → c.wp P Q { a with defers := { target := .collected w.heap.size, args := #[] } :: a.defers } W) :
    (Code.rangeFunc g ps assign body).wp P Q a w :=
  wpIn_wide.1 (wp_range hg eg hseq hS hps I Ix hI hIx h0 a₁ hassign hbody hdone (fun c i W h1 h2 h3 => wpIn_wide.2 (hstop c i W h1 h2 h3)))

/-- A function that holds such a loop, walked outside every fence. -/
theorem calls_marks {P : Program} {f : FuncId} {fn : Func} {c : Code} {args : Array Value} {w : World} {R : Ending → World → Prop} (hf : P.funcs[f]? = some fn) (hb : fn.body = some c)
    (h : c.wp P (bodyPostM Fence.wide 0 P fn R) { tmps := args ++ Array.replicate (fn.ntmps - args.size) undef, defers := [] } w) : Calls P f args w R :=
  (callsIn_wide (n := 0)).1 (callsIn_of_wp_marks hf hb trivial (wpIn_wide.2 h) rfl)

end Go.Proofs.YtfnfjfcncijapaaGreatDoor
