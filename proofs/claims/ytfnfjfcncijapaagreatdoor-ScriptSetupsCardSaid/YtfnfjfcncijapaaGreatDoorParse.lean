/- script.Parse (printed by genparse.py). -/
import Derived.Test.YtfnfjfcncijapaaGreatDoorLine
namespace Go.Proofs.YtfnfjfcncijapaaGreatDoor
open Go.RowKit Go.Shelf
attribute [local go_sem] Oper.semAt_some

/-- The steps of lines, or the first wrong line. -/
def parseL : PD → List (List UInt8) → Nat → List StepD × Int × Int
  | P, [], _ => (P.steps, 0, 0)
  | P, l :: ls, n => if (lineS P l).2 = 0 then parseL (lineS P l).1 ls (n + 1) else ([], (n : Int) + 1, (lineS P l).2)
def P0 : PD := ⟨[], 0, false⟩
def parseS (s : List UInt8) : List StepD × Int × Int := if 65536 < s.length then ([], 0, 2) else parseL P0 (parts 10 s) 0

/-- Steps lie at A. -/
def StepsAt (w : World) (A : Option Addr) (steps : List StepD) : Prop := ∃ sv, sv.map (·.1) = steps ∧ Reads w w.heap.size 2 A steps.length (svCells sv) ∧ ∀ x ∈ sv, StrsAt w x.2.1 x.1.args
def ParsePost (r : List StepD × Int × Int) (w : World) (e : Ending) (w' : World) : Prop :=
  ∃ A c, e = .returned (.tuple #[.slice A r.1.length c, .int .i64 r.2.1, .int .i64 r.2.2]) ∧ r.1.length ≤ c ∧ StepsAt w' A r.1 ∧ Below w.heap.size w w'

set_option maxHeartbeats 400000 in
theorem parse1_ok (be bn bs bl : Nat) (u : FrameMode) (w : World) (h : w.cell? ⟨be, 0, none⟩ = some (.int .i64 0)) :
    CallsDIn Fence.wide 0 Tryz.prog 28 #[.pointer (some ⟨be, 0, none⟩), .pointer (some ⟨bn, 0, none⟩), .pointer (some ⟨bs, 0, none⟩), .pointer (some ⟨bl, 0, none⟩)] u w fun e u' w' => u' = u ∧ (∃ v, e = .returned v) ∧ w = w' := by
  refine callsDIn_of_wp (R := fun e w' => (∃ v, e = .returned v) ∧ w = w') Tryz.func28 rfl trivial (wpIn_wide.2 ?_)
  simp only [Tryz.ntmps28, List.size_toArray, List.length_cons, List.length_nil, Nat.reduceAdd, Nat.reduceSub, Array.replicate_succ, Array.replicate_zero, List.push_toArray, List.append_toArray, List.nil_append, List.cons_append]
  go_wp2
  go_end0
  exact ⟨⟨_, rfl⟩, rfl⟩

set_option maxHeartbeats 400000 in
theorem parse1_err (be bn bs bl : Nat) (u : FrameMode) (w : World) (k n l : Int) (v : Value) (h : w.cell? ⟨be, 0, none⟩ = some (.int .i64 k)) (hk : (k != 0) = true) (hn : w.cell? ⟨bn, 0, none⟩ = some (.int .i64 n))
    (hs : w.cell? ⟨bs, 0, none⟩ = some v) (hl : w.cell? ⟨bl, 0, none⟩ = some (.int .i64 l)) (fs : w.frozen? ⟨bs, 0, none⟩ = false) (fl : w.frozen? ⟨bl, 0, none⟩ = false) (hne : bs ≠ bl) :
    CallsDIn Fence.wide 0 Tryz.prog 28 #[.pointer (some ⟨be, 0, none⟩), .pointer (some ⟨bn, 0, none⟩), .pointer (some ⟨bs, 0, none⟩), .pointer (some ⟨bl, 0, none⟩)] u w fun e u' w' => u' = u ∧ (∃ v, e = .returned v) ∧ (w.setCell ⟨bs, 0, none⟩ (.slice none 0 0)).setCell ⟨bl, 0, none⟩ (.int .i64 n) = w' := by
  refine callsDIn_of_wp (R := fun e w' => (∃ v, e = .returned v) ∧ (w.setCell ⟨bs, 0, none⟩ (.slice none 0 0)).setCell ⟨bl, 0, none⟩ (.int .i64 n) = w') Tryz.func28 rfl trivial (wpIn_wide.2 ?_)
  simp only [Tryz.ntmps28, List.size_toArray, List.length_cons, List.length_nil, Nat.reduceAdd, Nat.reduceSub, Array.replicate_succ, Array.replicate_zero, List.push_toArray, List.append_toArray, List.nil_append, List.cons_append]
  go_wp2
  go_end0
  exact ⟨⟨_, rfl⟩, rfl⟩

theorem lineS_steps (P : PD) (s : List UInt8) : (lineS P s).1.steps.length ≤ P.steps.length + 1 := by
  unfold lineS
  split
  · simp
  · split
    · simp
    · split
      · simp
      · split
        · simp
        · split
          · simp
          · rw [add_steps]; simp
theorem lineS_vaults (P : PD) (s : List UInt8) : (lineS P s).1.vaults ≤ P.vaults + 1 := by
  unfold lineS
  split
  · simp
  · split
    · simp
    · split
      · simp
      · split
        · simp
        · split
          · simp
          · dsimp only
            unfold PD.add
            split
            · dsimp only; split <;> simp
            · simp
theorem parseL_step {P : PD} {ls : List (List UInt8)} {i : Nat} (h : i < ls.length) : parseL P (ls.drop i) i = if (lineS P ls[i]).2 = 0 then parseL (lineS P ls[i]).1 (ls.drop (i + 1)) (i + 1) else ([], (i : Int) + 1, (lineS P ls[i]).2) := by
  rw [List.drop_eq_getElem_cons h]; rfl
theorem kept_set (W : World) (b i : Nat) (v : Value) : Kept (fun k => k = b) W (W.setCell ⟨b, i, none⟩ v) := Kept.setCell (F := fun k => k = b) (p := ⟨b, i, none⟩) (Kept.refl _ W) (.inl rfl) v
theorem at_size {W : World} {a b : Nat} {t : TypeId} {cs : Array Value} (e : a = b) (h : Blk W a t cs) : Blk W b t cs := e ▸ h

set_option maxHeartbeats 1000000 in
theorem results_parse (W : World) (tmps : Array Value) (a b c : Nat) (v1 v2 v3 : Value)
    (h2 : tmps.getD 2 undef = .pointer (some ⟨a, 0, none⟩)) (h3 : tmps.getD 3 undef = .pointer (some ⟨b, 0, none⟩)) (h4 : tmps.getD 4 undef = .pointer (some ⟨c, 0, none⟩))
    (c1 : W.cell? ⟨a, 0, none⟩ = some v1) (c2 : W.cell? ⟨b, 0, none⟩ = some v2) (c3 : W.cell? ⟨c, 0, none⟩ = some v3) :
    (results Tryz.f10 tmps).run Tryz.prog W = .ok (.tuple #[v1, v2, v3]) W := by
  have hr : Tryz.f10.results = #[ResultVar.cell 2 23, ResultVar.cell 3 3, ResultVar.cell 4 24] := rfl
  simp only [results, hr]
  have h2' : tmps[2]?.getD undef = .pointer (some ⟨a, 0, none⟩) := by simpa using h2
  have h3' : tmps[3]?.getD undef = .pointer (some ⟨b, 0, none⟩) := by simpa using h3
  have h4' : tmps[4]?.getD undef = .pointer (some ⟨c, 0, none⟩) := by simpa using h4
  simp [go_sem, h2', h3', h4', c1, c2, c3, asAddr, loadVar, Result.andThen]

def outs (n D : Nat) : List Deferred := [{ target := .collected D, args := #[] }, { target := .fn (.func 28) #[.pointer (some ⟨n + 2, 0, none⟩), .pointer (some ⟨n + 3, 0, none⟩), .pointer (some ⟨n, 0, none⟩), .pointer (some ⟨n + 1, 0, none⟩)], args := #[] }]
theorem enter28 (W : World) (n : Nat) : (invoke (.fn (.func 28) #[.pointer (some ⟨n + 2, 0, none⟩), .pointer (some ⟨n + 3, 0, none⟩), .pointer (some ⟨n, 0, none⟩), .pointer (some ⟨n + 1, 0, none⟩)]) #[]).run Tryz.prog W = .ok (.enter 28 #[.pointer (some ⟨n + 2, 0, none⟩), .pointer (some ⟨n + 3, 0, none⟩), .pointer (some ⟨n, 0, none⟩), .pointer (some ⟨n + 1, 0, none⟩)]) W := by
  simp [invoke, go_sem]
/-- The way out, without an error. -/
theorem parse_leave_ok {W : World} {n D : Nat} {tmps : Array Value} {R : Ending → World → Prop} {v : Value} {l : Int} (h2 : tmps.getD 2 undef = .pointer (some ⟨n, 0, none⟩)) (h3 : tmps.getD 3 undef = .pointer (some ⟨n + 1, 0, none⟩)) (h4 : tmps.getD 4 undef = .pointer (some ⟨n + 2, 0, none⟩))
    (hD : W.heap[D]? = some (.deferred (some []))) (hnD : n + 4 ≤ D) (bS : Blk W n 23 #[v]) (bL : Blk W (n + 1) 3 #[.int .i64 l]) (bE : Blk W (n + 2) 24 #[.int .i64 0])
    (hR : ∀ W', Kept (fun k => k = D) W W' → R (.returned (.tuple #[v, .int .i64 l, .int .i64 0])) W') : LeavesInM Fence.wide 0 Tryz.prog Tryz.f10 tmps R (outs n D) .returning W := by
  have k : Kept (fun k => k = D) W (W.putObj D (.deferred none)) := Kept.putObj _ rfl
  have bS1 := k.blk bS (by omega)
  have bL1 := k.blk bL (by omega)
  have bE1 := k.blk bE (by omega)
  refine ⟨by simp, .inl ⟨_, _, rfl, run_takeDeferred hD, ?_⟩⟩
  refine ⟨by simp, .inr ⟨fun h => by simp [Fence.wide] at h, _, _, 28, _, rfl, enter28 _ _, fun _ _ => trivial, (parse1_ok (n + 2) (n + 3) n (n + 1) _ _ ((bE1.cell 0).trans rfl)).mono ?_⟩⟩
  rintro e u' w' ⟨rfl, ⟨x, rfl⟩, rfl⟩
  exact ⟨_, results_parse _ tmps n (n + 1) (n + 2) _ _ _ h2 h3 h4 ((bS1.cell 0).trans rfl) ((bL1.cell 0).trans rfl) ((bE1.cell 0).trans rfl), hR _ k⟩
/-- The way out, with an error. -/
theorem parse_leave_err {W : World} {n D : Nat} {tmps : Array Value} {R : Ending → World → Prop} {v : Value} {l i er : Int} (h2 : tmps.getD 2 undef = .pointer (some ⟨n, 0, none⟩)) (h3 : tmps.getD 3 undef = .pointer (some ⟨n + 1, 0, none⟩)) (h4 : tmps.getD 4 undef = .pointer (some ⟨n + 2, 0, none⟩))
    (hD : W.heap[D]? = some (.deferred (some []))) (hnD : n + 4 ≤ D) (he : (er != 0) = true) (bS : Blk W n 23 #[v]) (bL : Blk W (n + 1) 3 #[.int .i64 l]) (bE : Blk W (n + 2) 24 #[.int .i64 er]) (bN : Blk W (n + 3) 3 #[.int .i64 i])
    (hR : ∀ W', Kept (fun k => k = D ∨ k = n ∨ k = n + 1) W W' → R (.returned (.tuple #[.slice none 0 0, .int .i64 i, .int .i64 er])) W') : LeavesInM Fence.wide 0 Tryz.prog Tryz.f10 tmps R (outs n D) .returning W := by
  have k : Kept (fun k => k = D ∨ k = n ∨ k = n + 1) W (W.putObj D (.deferred none)) := Kept.putObj _ (.inl rfl)
  have k0 : Kept (fun k => k = D) W (W.putObj D (.deferred none)) := Kept.putObj _ rfl
  have bS1 := k0.blk bS (by omega)
  have bL1 := k0.blk bL (by omega)
  have bE1 := k0.blk bE (by omega)
  have bN1 := k0.blk bN (by omega)
  refine ⟨by simp, .inl ⟨_, _, rfl, run_takeDeferred hD, ?_⟩⟩
  generalize W.putObj D (.deferred none) = W1 at k k0 bS1 bL1 bE1 bN1 ⊢
  refine ⟨by simp, .inr ⟨fun h => by simp [Fence.wide] at h, _, _, 28, _, rfl, enter28 _ _, fun _ _ => trivial, (parse1_err (n + 2) (n + 3) n (n + 1) _ _ er i l v ((bE1.cell 0).trans rfl) he ((bN1.cell 0).trans rfl) ((bS1.cell 0).trans rfl) ((bL1.cell 0).trans rfl) (bS1.frozen 0) (bL1.frozen 0) (by omega)).mono ?_⟩⟩
  rintro e u' w' ⟨rfl, ⟨x, rfl⟩, rfl⟩
  have kA := kept_set W1 n 0 (.slice none 0 0)
  have bS4 : Blk _ n 23 #[.slice none 0 0] := bS1.set_ 0 (.slice none 0 0)
  have bL4 := kA.blk bL1 (by simp)
  have bE4 := kA.blk bE1 (by simp)
  generalize W1.setCell ⟨n, 0, none⟩ (.slice none 0 0) = W4 at kA bS4 bL4 bE4 ⊢
  have kB := kept_set W4 (n + 1) 0 (.int .i64 i)
  have bL5 : Blk _ (n + 1) 3 #[.int .i64 i] := bL4.set_ 0 (.int .i64 i)
  have bS5 := kB.blk bS4 (by simp)
  have bE5 := kB.blk bE4 (by simp)
  exact ⟨_, results_parse _ tmps n (n + 1) (n + 2) _ _ _ h2 h3 h4 ((bS5.cell 0).trans rfl) ((bL5.cell 0).trans rfl) ((bE5.cell 0).trans rfl), hR _ ((k.trans kA (fun x hx => .inl (.inr (.inl hx)))).trans kB (fun x hx => .inl (.inr (.inr hx))))⟩

theorem three {W : World} {n : Nat} {v u : Value} {l l' e e' : Int} (bS : Blk W n 23 #[v]) (bL : Blk W (n + 1) 3 #[.int .i64 l]) (bE : Blk W (n + 2) 24 #[.int .i64 e]) :
    ∃ W', ((W.setCell ⟨n, 0, none⟩ u).setCell ⟨n + 1, 0, none⟩ (.int .i64 l')).setCell ⟨n + 2, 0, none⟩ (.int .i64 e') = W' ∧ Blk W' n 23 #[u] ∧ Blk W' (n + 1) 3 #[.int .i64 l'] ∧ Blk W' (n + 2) 24 #[.int .i64 e'] ∧ Kept (fun k => k = n ∨ k = n + 1 ∨ k = n + 2) W W' := by
  have kA := kept_set W n 0 u
  have bS4 : Blk _ n 23 #[u] := bS.set_ 0 u
  have bL4 := kA.blk bL (by simp)
  have bE4 := kA.blk bE (by simp)
  have kA' : Kept (fun k => k = n ∨ k = n + 1 ∨ k = n + 2) _ _ := kA.mono (fun x hx => .inl hx)
  generalize W.setCell ⟨n, 0, none⟩ u = W4 at kA bS4 bL4 bE4 kA' ⊢
  have kB := kept_set W4 (n + 1) 0 (.int .i64 l')
  have bL5 : Blk _ (n + 1) 3 #[.int .i64 l'] := bL4.set_ 0 (.int .i64 l')
  have bS5 := kB.blk bS4 (by simp)
  have bE5 := kB.blk bE4 (by simp)
  have kB' := kA'.trans kB (fun x hx => .inl (.inr (.inl hx)))
  generalize W4.setCell ⟨n + 1, 0, none⟩ (.int .i64 l') = W5 at kB bS5 bL5 bE5 kB' ⊢
  have kC := kept_set W5 (n + 2) 0 (.int .i64 e')
  have bE6 : Blk _ (n + 2) 24 #[.int .i64 e'] := bE5.set_ 0 (.int .i64 e')
  exact ⟨_, rfl, kC.blk bS5 (by simp), kC.blk bL5 (by simp), bE6, kB'.trans kC (fun x hx => .inl (.inr (.inr hx)))⟩

/-- Between two lines. -/
def ReadI (w : World) (ls : List (List UInt8)) (i : Nat) (W : World) : Prop :=
  ∃ (P : PD) (G : Nat → Prop), parseL P0 ls 0 = parseL P (ls.drop i) i ∧ PAt W G (w.heap.size + 10) (w.heap.size + 4) P ∧ P.steps.length ≤ i ∧ P.vaults ≤ i ∧ (∀ k, G k → w.heap.size + 4 ≤ k ∧ ¬ (w.heap.size + 5 ≤ k ∧ k < w.heap.size + 10)) ∧
    Blk W w.heap.size 23 #[.slice none 0 0] ∧ Blk W (w.heap.size + 1) 3 #[.int .i64 0] ∧ Blk W (w.heap.size + 2) 24 #[.int .i64 0] ∧ Blk W (w.heap.size + 3) 3 #[.int .i64 (i : Int)] ∧ Below w.heap.size w W
/-- Behind a wrong line. -/
def ReadX (w : World) (ls : List (List UInt8)) (i : Nat) (W : World) : Prop :=
  ∃ e : Int, e ≠ 0 ∧ parseL P0 ls 0 = ([], (i : Int), e) ∧
    Blk W w.heap.size 23 #[.slice none 0 0] ∧ Blk W (w.heap.size + 1) 3 #[.int .i64 0] ∧ Blk W (w.heap.size + 2) 24 #[.int .i64 e] ∧ Blk W (w.heap.size + 3) 3 #[.int .i64 (i : Int)] ∧ Below w.heap.size w W
theorem ReadI.free {w X Y : World} {ls : List (List UInt8)} {i : Nat} {S : Nat → Prop} (h : ReadI w ls i X) (hk : Kept S X Y) (hS : ∀ k, S k → w.heap.size + 5 ≤ k ∧ k < w.heap.size + 10) : ReadI w ls i Y := by
  obtain ⟨P, G, hp, pa, n1, n2, hG, bS, bL, bE, bN, b⟩ := h
  have q : ∀ k, k < w.heap.size + 5 → ¬ S k := fun k hk h => by have := hS k h; omega
  exact ⟨P, G, hp, pa.apart hk (fun x hx hg => (hG x hg).2 (hS x hx)) (fun x hx => (hS x hx).2), n1, n2, hG, hk.blk bS (q _ (by omega)), hk.blk bL (q _ (by omega)), hk.blk bE (q _ (by omega)), hk.blk bN (q _ (by omega)), Below.after b hk (fun x hx => by have := hS x hx; omega) (Nat.le_refl _)⟩
theorem ReadX.free {w X Y : World} {ls : List (List UInt8)} {i : Nat} {S : Nat → Prop} (h : ReadX w ls i X) (hk : Kept S X Y) (hS : ∀ k, S k → w.heap.size + 5 ≤ k ∧ k < w.heap.size + 10) : ReadX w ls i Y := by
  obtain ⟨e, he, hp, bS, bL, bE, bN, b⟩ := h
  have q : ∀ k, k < w.heap.size + 5 → ¬ S k := fun k hk h => by have := hS k h; omega
  exact ⟨e, he, hp, hk.blk bS (q _ (by omega)), hk.blk bL (q _ (by omega)), hk.blk bE (q _ (by omega)), hk.blk bN (q _ (by omega)), Below.after b hk (fun x hx => by have := hS x hx; omega) (Nat.le_refl _)⟩

set_option maxHeartbeats 4000000 in
set_option maxRecDepth 100000 in
theorem parse_small (s : ByteArray) (w : World) (hE : Env w) (hs : s.size ≤ 65536) :
    Calls Tryz.prog 10 #[.string s] w (ParsePost (parseL P0 (parts 10 s.data.toList) 0) w) := by
  have hle : decide ((65536 : Int) < (s.size : Int)) = false := by simp; omega
  refine calls_marks Tryz.func10 rfl ?_
  simp only [Tryz.ntmps10, List.size_toArray, List.length_cons, List.length_nil, Nat.reduceAdd, Nat.reduceSub, Array.replicate_succ, Array.replicate_zero, List.push_toArray, List.append_toArray, List.nil_append, List.cons_append]
  go_wp2_with fail
  refine (splitSeq_call s 10 _).mono ?_
  rintro e w8 ⟨rfl, hw8⟩
  have bS : Blk w8 w.heap.size 23 #[.slice none 0 0] := by rw [← hw8]; exact (((((((Blk.new w 23 _).alloc _).alloc _).alloc _).alloc _).alloc _).alloc _).alloc _
  have bL : Blk w8 (w.heap.size + 1) 3 #[.int .i64 0] := by rw [← hw8]; exact at_size (by simp) ((((((Blk.new _ 3 _).alloc _).alloc _).alloc _).alloc _).alloc _ |>.alloc _)
  have bE : Blk w8 (w.heap.size + 2) 24 #[.int .i64 0] := by rw [← hw8]; exact at_size (by simp) (((((Blk.new _ 24 _).alloc _).alloc _).alloc _).alloc _ |>.alloc _)
  have bN : Blk w8 (w.heap.size + 3) 3 #[.int .i64 0] := by rw [← hw8]; exact at_size (by simp) ((((Blk.new _ 3 _).alloc _).alloc _).alloc _ |>.alloc _)
  have bP : Blk w8 (w.heap.size + 4) 73 #[.slice none 0 0, .int .i64 0, .bool false] := by rw [← hw8]; exact at_size (by simp) (((Blk.new _ 73 _).alloc _).alloc _ |>.alloc _)
  have b5 : Blk w8 (w.heap.size + 5) 9 #[.string s] := by rw [← hw8]; exact at_size (by simp) ((Blk.new _ 9 _).alloc _ |>.alloc _)
  have b6 : Blk w8 (w.heap.size + 6) 9 #[.string ⟨#[10]⟩] := by rw [← hw8]; exact at_size (by simp) ((Blk.new _ 9 _).alloc _)
  have b7 : Blk w8 (w.heap.size + 7) 3 #[.int .i64 0] := by rw [← hw8]; exact at_size (by simp) (Blk.new _ 3 _)
  have hsz : w8.heap.size = w.heap.size + 8 := by rw [← hw8]; simp
  have k8 : Kept NoF w w8 := by rw [← hw8]; exact ((((((((Kept.refl _ _).alloc _).alloc _).alloc _).alloc _).alloc _).alloc _).alloc _).alloc _
  have b8 : Below w.heap.size w w8 := k8.below (Nat.le_refl _) (fun _ h => h.elim)
  have HSZ := Lib.hid hsz
  clear hsz hw8 k8
  simp only [World.size_alloc, Nat.add_assoc, Nat.reduceAdd]
  go_wp2_with fail
  have hpr : ∀ k, Priv w8.heap.size (SplitB (w.heap.size + 5)) k → w.heap.size + 5 ≤ k ∧ k < w.heap.size + 10 := fun k hk => by
    have := HSZ.out
    rcases hk with h | h | h
    · omega
    · omega
    · unfold SplitB at h; omega
  refine wp_rangeP (gf := 85) (lb := #[.pointer (some ⟨w.heap.size + 6, 0, none⟩), .pointer (some ⟨w.heap.size + 5, 0, none⟩), .pointer (some ⟨w.heap.size + 7, 0, none⟩)]) (vs := (parts 10 s.data.toList).map (fun p => #[.string (ba p)])) (S := SplitB (w.heap.size + 5)) rfl (enters_of Tryz.func85 (by kernel_rfl) rfl)
    (fun r => split_iter (w.heap.size + 5) 10 s _ ((b5.alloc _).alloc _) ((b6.alloc _).alloc _) ((b7.alloc _).alloc _) (by omega)) ?hS ?hps
    (ReadI w (parts 10 s.data.toList)) (fun c i W => c = .ret ∧ ReadX w (parts 10 s.data.toList) i W) ?hI ?hIx ?h0
    (fun i => { tmps := #[.string s, undef, .pointer (some ⟨w.heap.size, 0, none⟩), .pointer (some ⟨w.heap.size + 1, 0, none⟩), .pointer (some ⟨w.heap.size + 2, 0, none⟩), .pointer (some ⟨w.heap.size + 3, 0, none⟩), .pointer (some ⟨w.heap.size + 4, 0, none⟩), .string (ba ((parts 10 s.data.toList).getD i [])), .string s, .int .i64 (s.size : Int), .bool false, .func (.func 28) #[] #[.pointer (some ⟨w.heap.size + 2, 0, none⟩), .pointer (some ⟨w.heap.size + 3, 0, none⟩), .pointer (some ⟨w.heap.size, 0, none⟩), .pointer (some ⟨w.heap.size + 1, 0, none⟩)], .string s, .func (.func 85) #[] #[.pointer (some ⟨w.heap.size + 6, 0, none⟩), .pointer (some ⟨w.heap.size + 5, 0, none⟩), .pointer (some ⟨w.heap.size + 7, 0, none⟩)], .string (ba ((parts 10 s.data.toList).getD i [])), undef, undef, undef, undef, undef, undef, undef, undef, undef], defers := [] }) ?hassign ?hbody ?hdone ?hstop
  case hS =>
    intro k hk
    have := HSZ.out
    unfold SplitB at hk
    omega
  case hps =>
    intro v hv
    obtain ⟨p, _, rfl⟩ := List.mem_map.1 hv
    rfl
  case hI => intro i X Y h hk; exact h.free hk hpr
  case hIx => rintro c i X Y ⟨hc, h⟩ hk; exact ⟨hc, h.free hk hpr⟩
  case h0 =>
    refine ⟨P0, fun k => k = w.heap.size + 4, rfl, ⟨_, [], rfl, bP, World.ownsRow_nil _ _ _ _, rfl, fun g hg => by simp [Value.ownBlock] at hg, fun x hx => by simp at hx, fun k hk => by have := bP.lt; omega⟩, by simp [P0], by simp [P0], fun k hk => ⟨by omega, fun h => by omega⟩, bS, bL, bE, bN, b8⟩
  case hassign =>
    intro l' i h Wc K hK
    have hlen : i < (parts 10 s.data.toList).length := by simpa using h
    have hg : (parts 10 s.data.toList).getD i [] = (parts 10 s.data.toList)[i] := by simp [hlen]
    rw [hg] at hK
    simp only [List.getElem_map]
    generalize (parts 10 s.data.toList)[i] = p at hK ⊢
    gi_wp2
    exact hK
  case hbody =>
    rintro l' i h Wc ⟨P, G, hp, pa, n1, n2, hG, bS, bL, bE, bN, b⟩ hlt
    have hlen : i < (parts 10 s.data.toList).length := by simpa using h
    have hgd : (parts 10 s.data.toList).getD i [] = (parts 10 s.data.toList)[i] := by simp [hlen]
    have hfn' : ∀ f, (Fence.wide.inRound l').fn f := fun _ => trivial
    have hdp' : (Fence.wide.inRound l').depth = none := rfl
    have hpl := parts_length 10 s.data.toList
    rw [← size_list] at hpl
    have hpi : ((parts 10 s.data.toList)[i]).length ≤ 65536 := by have := parts_mem_le (List.getElem_mem hlen); rw [← size_list] at this; omega
    have hstep := parseL_step (P := P) hlen
    rw [hgd]
    clear hgd
    generalize (parts 10 s.data.toList)[i] = p at hstep hpi ⊢
    have cN : Wc.cell? ⟨w.heap.size + 3, 0, none⟩ = some (.int .i64 (i : Int)) := (bN.cell 0).trans rfl
    have fN := bN.frozen 0
    have hw64 : wrap64 ((i : Int) + 1) = (i : Int) + 1 := by unfold wrap64; omega
    have HPL := Lib.hid hpl
    clear hpl
    gi_wp2_with fail
    rw [hw64]
    have w1s := bN.set_ 0 (.int .i64 ((i : Int) + 1))
    have k1 : Kept (fun k => k = w.heap.size + 3) Wc (Wc.setCell ⟨w.heap.size + 3, 0, none⟩ (.int .i64 ((i : Int) + 1))) := kept_set _ _ _ _
    generalize Wc.setCell ⟨w.heap.size + 3, 0, none⟩ (.int .i64 ((i : Int) + 1)) = W1 at w1s k1 ⊢
    have pa1 := pa.apart k1 (fun x hx hg => by have := hG x hg; omega) (fun x hx => by omega)
    have bS1 := k1.blk bS (by simp)
    have bL1 := k1.blk bL (by simp)
    have bE1 := k1.blk bE (by simp)
    have b1 := Below.after b k1 (fun x hx => by omega) (Nat.le_refl _)
    have hz : w.heap.size + 10 ≤ W1.heap.size := by
      have h1 := hlt (w8.heap.size + 1) (.inr (.inl rfl))
      have h2 := HSZ.out
      have h3 := k1.size
      omega
    have hlt1 : ∀ k, Priv w8.heap.size (SplitB (w.heap.size + 5)) k → k < W1.heap.size := fun k hk => Nat.lt_of_lt_of_le (hlt k hk) k1.size
    have s1 : Same (Priv w8.heap.size (SplitB (w.heap.size + 5))) Wc W1 := Same.of_kept k1 hlt (fun k hk h => by have := hpr k hk; omega)
    clear k1 bS bL bE bN b pa cN fN hlt
    have CL := line_any (ba p) W1 (hE.later b1) (by rw [ba_size]; exact hpi) pa1 (by have := HPL.out; omega) (by have := HPL.out; omega) hz
    rw [ba_toList] at CL
    have hst := lineS_steps P p
    have hva := lineS_vaults P p
    generalize lineS P p = lr at CL hstep hst hva
    obtain ⟨Q, er⟩ := lr
    dsimp only at hstep hst hva
    refine ⟨rfl, (CallsIn.inRound l' (callsIn_wide.2 CL)).mono ?_⟩
    clear CL
    rintro e W2 ⟨rfl, ⟨G2, pa2, hG2⟩, k2⟩
    dsimp only at pa2 ⊢
    have q2 : ∀ x, G x → w.heap.size + 4 ≤ x := fun x hx => (hG x hx).1
    have bN2 := k2.blk w1s (fun h => by have := q2 _ h; omega)
    have bS2 := k2.blk bS1 (fun h => by have := q2 _ h; omega)
    have bL2 := k2.blk bL1 (fun h => by have := q2 _ h; omega)
    have bE2 := k2.blk bE1 (fun h => by have := q2 _ h; omega)
    have b2 := Below.after b1 k2 (fun x hx => by have := q2 _ hx; omega) (Nat.le_refl _)
    have s2 : Same (Priv w8.heap.size (SplitB (w.heap.size + 5))) Wc W2 := s1.trans (Same.of_kept k2 hlt1 (fun k hk h => (hG k h).2 (hpr k hk)))
    have hG2' : ∀ k, G2 k → w.heap.size + 4 ≤ k ∧ ¬ (w.heap.size + 5 ≤ k ∧ k < w.heap.size + 10) := fun k hk => by
      rcases hG2 k hk with h | h
      · exact hG k h
      · omega
    have k12 := k2.size
    clear k2 bS1 bL1 bE1 w1s b1 s1 pa1 hG2 hG
    have cE2 : W2.cell? ⟨w.heap.size + 2, 0, none⟩ = some (.int .i64 0) := (bE2.cell 0).trans rfl
    have fE2 := bE2.frozen 0
    by_cases her : er = 0
    · subst her
      rw [if_pos rfl] at hstep
      gi_wp2_with fail
      have k3 : Kept (fun k => k = w.heap.size + 2) W2 (W2.setCell ⟨w.heap.size + 2, 0, none⟩ (.int .i64 0)) := kept_set _ _ _ _
      refine ⟨s2.trans (Same.of_kept k3 (fun k hk => Nat.lt_of_lt_of_le (hlt1 k hk) k12) (fun k hk h => by have := hpr k hk; omega)), Q, G2, hp.trans hstep, pa2.apart k3 (fun x hx hg => by have := hG2' x hg; omega) (fun x hx => by omega), by omega, by omega, hG2', k3.blk bS2 (by simp), k3.blk bL2 (by simp), bE2.set_ 0 _, k3.blk bN2 (by simp), Below.after b2 k3 (fun x hx => by omega) (Nat.le_refl _)⟩
    · rw [if_neg her] at hstep
      have hne : (er != 0) = true := by simpa using her
      have fS2 := bS2.frozen 0
      have fL2 := bL2.frozen 0
      gi_wp2_with fail
      have k3 := kept_set W2 (w.heap.size + 2) 0 (.int .i64 er)
      have bE3 := bE2.set_ 0 (.int .i64 er)
      generalize W2.setCell ⟨w.heap.size + 2, 0, none⟩ (.int .i64 er) = W3 at k3 bE3 ⊢
      have bS3 := k3.blk bS2 (by simp)
      have bL3 := k3.blk bL2 (by simp)
      have bN3 := k3.blk bN2 (by simp)
      have b3 := Below.after b2 k3 (fun x hx => by omega) (Nat.le_refl _)
      have hlt3 : ∀ k, Priv w8.heap.size (SplitB (w.heap.size + 5)) k → k < W3.heap.size := fun k hk => Nat.lt_of_lt_of_le (hlt1 k hk) (Nat.le_trans k12 k3.size)
      have s3 := s2.trans (Same.of_kept k3 (fun k hk => Nat.lt_of_lt_of_le (hlt1 k hk) k12) (fun k hk h => by have := hpr k hk; omega))
      clear k3 bS2 bL2 bE2 bN2 b2 s2 pa2 cE2 fE2 fS2 fL2
      have cE3 : W3.cell? ⟨w.heap.size + 2, 0, none⟩ = some (.int .i64 er) := (bE3.cell 0).trans rfl
      have cS3 : W3.cell? ⟨w.heap.size, 0, none⟩ = some (.slice none 0 0) := (bS3.cell 0).trans rfl
      have cL3 : W3.cell? ⟨w.heap.size + 1, 0, none⟩ = some (.int .i64 0) := (bL3.cell 0).trans rfl
      have fE3 := bE3.frozen 0
      have fS3 := bS3.frozen 0
      have fL3 := bL3.frozen 0
      have END : Same (Priv w8.heap.size (SplitB (w.heap.size + 5))) Wc (((W3.setCell ⟨w.heap.size, 0, none⟩ (.slice none 0 0)).setCell ⟨w.heap.size + 1, 0, none⟩ (.int .i64 0)).setCell ⟨w.heap.size + 2, 0, none⟩ (.int .i64 er)).drew ∧
          Code.ret = Code.ret ∧ ReadX w (parts 10 s.data.toList) (i + 1) (((W3.setCell ⟨w.heap.size, 0, none⟩ (.slice none 0 0)).setCell ⟨w.heap.size + 1, 0, none⟩ (.int .i64 0)).setCell ⟨w.heap.size + 2, 0, none⟩ (.int .i64 er)).drew := by
        have kA := kept_set W3 w.heap.size 0 (.slice none 0 0)
        have bS4 : Blk _ w.heap.size 23 #[.slice none 0 0] := bS3.set_ 0 (.slice none 0 0)
        have bL4 := kA.blk bL3 (by simp)
        have bE4 := kA.blk bE3 (by simp)
        have bN4 := kA.blk bN3 (by simp)
        have b4 := Below.after b3 kA (fun x hx => by omega) (Nat.le_refl _)
        have s4 := s3.trans (Same.of_kept kA hlt3 (fun k hk h => by have := hpr k hk; omega))
        have z4 := kA.size
        generalize W3.setCell ⟨w.heap.size, 0, none⟩ (.slice none 0 0) = W4 at kA bS4 bL4 bE4 bN4 b4 s4 z4 ⊢
        have kB := kept_set W4 (w.heap.size + 1) 0 (.int .i64 0)
        have bL5 : Blk _ (w.heap.size + 1) 3 #[.int .i64 0] := bL4.set_ 0 (.int .i64 0)
        have bS5 := kB.blk bS4 (by simp)
        have bE5 := kB.blk bE4 (by simp)
        have bN5 := kB.blk bN4 (by simp)
        have b5 := Below.after b4 kB (fun x hx => by omega) (Nat.le_refl _)
        have s5 := s4.trans (Same.of_kept kB (fun k hk => Nat.lt_of_lt_of_le (hlt3 k hk) z4) (fun k hk h => by have := hpr k hk; omega))
        have z5 := Nat.le_trans z4 kB.size
        generalize W4.setCell ⟨w.heap.size + 1, 0, none⟩ (.int .i64 0) = W5 at kB bS5 bL5 bE5 bN5 b5 s5 z5 ⊢
        have kC := (kept_set W5 (w.heap.size + 2) 0 (.int .i64 er)).drew
        have bE6 : Blk _ (w.heap.size + 2) 24 #[.int .i64 er] := (bE5.set_ 0 (.int .i64 er)).drew
        exact ⟨s5.trans (Same.of_kept kC (fun k hk => Nat.lt_of_lt_of_le (hlt3 k hk) z5) (fun k hk h => by have := hpr k hk; omega)), rfl, er, her, hp.trans hstep, kC.blk bS5 (by simp), kC.blk bL5 (by simp), bE6, kC.blk bN5 (by simp), Below.after b5 kC (fun x hx => by omega) (Nat.le_refl _)⟩
      have HEND := Lib.hid END
      clear END
      gi_region
      all_goals (gi_wp2_with fail)
      all_goals exact ⟨HEND.out.1, rfl, HEND.out.2.2⟩
  case hdone =>
    rintro W ⟨P, G, hp, ⟨v, sv, pr⟩, n1, n2, hG, bS, bL, bE, bN, b⟩ hD
    rw [List.length_map, List.drop_length] at hp
    have hp' : parseL P0 (parts 10 s.data.toList) 0 = (P.steps, 0, 0) := hp
    have HP := Lib.hid hp'
    clear hp hp'
    have cS : W.cell? ⟨w.heap.size, 0, none⟩ = some (.slice none 0 0) := (bS.cell 0).trans rfl
    have cL : W.cell? ⟨w.heap.size + 1, 0, none⟩ = some (.int .i64 0) := (bL.cell 0).trans rfl
    have cE : W.cell? ⟨w.heap.size + 2, 0, none⟩ = some (.int .i64 0) := (bE.cell 0).trans rfl
    obtain ⟨A, cp, rfl, hcp, _⟩ := own_form pr.own
    have cP : W.cell? ⟨w.heap.size + 4, 0, none⟩ = some (.slice A sv.length cp) := (pr.blk.cell 0).trans rfl
    have fS := bS.frozen 0
    have fL := bL.frozen 0
    have fE := bE.frozen 0
    have HLEN := Lib.hid (show sv.length = P.steps.length by rw [← pr.st, List.length_map])
    have hnd : w.heap.size + 4 ≤ w8.heap.size := by have := HSZ.out; omega
    go_wp2_with fail
    obtain ⟨W', hW', bS', bL', bE', k'⟩ := three (u := .slice A sv.length cp) (l' := 0) (e' := 0) bS bL bE
    rw [hW']
    have hD' : W'.heap[w8.heap.size]? = some (.deferred (some [])) := (k'.block _ (Array.getElem?_eq_some_iff.1 hD).1 (by omega)).trans hD
    refine parse_leave_ok (n := w.heap.size) (D := w8.heap.size) rfl rfl rfl hD' hnd bS' bL' bE' ?_
    intro W2 k2
    rw [HP.out]
    have hz := HSZ.out
    have kk : Kept (fun k => k = w8.heap.size ∨ k = w.heap.size ∨ k = w.heap.size + 1 ∨ k = w.heap.size + 2) W W2 := (k'.mono (fun x hx => .inr hx)).trans k2 (fun x hx => .inl (.inl hx))
    refine ⟨A, cp, by rw [HLEN.out], by rw [← HLEN.out]; exact hcp, ⟨sv, pr.st, ?_, fun x hx => kk.src (pr.args x hx).1 (fun ad e hpo h => by have := ((pr.args x hx).2 ad e hpo).2; omega)⟩, Below.after b kk (fun x hx => by omega) (Nat.le_refl _)⟩
    rw [← HLEN.out]
    exact Reads.of_own (kk.own pr.own (fun g hg h => by have := hG g (pr.fv g hg); omega))
  case hstop =>
    rintro c i W hi ⟨rfl, er, her, hp, bS, bL, bE, bN, b⟩ hD
    have HP := Lib.hid hp
    clear hp
    go_wp2_with fail
    refine parse_leave_err (n := w.heap.size) (D := w8.heap.size) rfl rfl rfl hD (by have := HSZ.out; omega) (by simpa using her) bS bL bE bN ?_
    intro W' k
    rw [HP.out]
    refine ⟨none, 0, rfl, Nat.le_refl _, ⟨[], rfl, Reads.none_, fun x hx => by simp at hx⟩, Below.after b k (fun x hx => by have := HSZ.out; omega) (Nat.le_refl _)⟩

set_option maxHeartbeats 1000000 in
theorem parse_big (s : ByteArray) (w : World) (hs : 65536 < s.size) : Calls Tryz.prog 10 #[.string s] w (ParsePost ([], 0, 2) w) := by
  have hle : decide ((65536 : Int) < (s.size : Int)) = true := by simp; omega
  refine calls_marks Tryz.func10 rfl ?_
  simp only [Tryz.ntmps10, List.size_toArray, List.length_cons, List.length_nil, Nat.reduceAdd, Nat.reduceSub, Array.replicate_succ, Array.replicate_zero, List.push_toArray, List.append_toArray, List.nil_append, List.cons_append]
  have bS : Blk (((w.alloc (.cells #[.slice none 0 0] 23)).alloc (.cells #[.int .i64 0] 3)).alloc (.cells #[.int .i64 0] 24)) w.heap.size 23 #[.slice none 0 0] := ((Blk.new w 23 _).alloc _).alloc _
  have bL : Blk (((w.alloc (.cells #[.slice none 0 0] 23)).alloc (.cells #[.int .i64 0] 3)).alloc (.cells #[.int .i64 0] 24)) (w.heap.size + 1) 3 #[.int .i64 0] := at_size (by simp) ((Blk.new _ 3 _).alloc _)
  have bE : Blk (((w.alloc (.cells #[.slice none 0 0] 23)).alloc (.cells #[.int .i64 0] 3)).alloc (.cells #[.int .i64 0] 24)) (w.heap.size + 2) 24 #[.int .i64 0] := at_size (by simp) (Blk.new _ 24 _)
  have k : Kept NoF w (((w.alloc (.cells #[.slice none 0 0] 23)).alloc (.cells #[.int .i64 0] 3)).alloc (.cells #[.int .i64 0] 24)) := (((Kept.refl _ _).alloc _).alloc _).alloc _
  go_upto_region 1 with fail
  simp only [Nat.add_assoc, Nat.reduceAdd]
  generalize ((w.alloc (.cells #[.slice none 0 0] 23)).alloc (.cells #[.int .i64 0] 3)).alloc (.cells #[.int .i64 0] 24) = W at bS bL bE k ⊢
  have cS : W.cell? ⟨w.heap.size, 0, none⟩ = some (.slice none 0 0) := (bS.cell 0).trans rfl
  have cL : W.cell? ⟨w.heap.size + 1, 0, none⟩ = some (.int .i64 0) := (bL.cell 0).trans rfl
  have cE : W.cell? ⟨w.heap.size + 2, 0, none⟩ = some (.int .i64 0) := (bE.cell 0).trans rfl
  have fS := bS.frozen 0
  have fL := bL.frozen 0
  have fE := bE.frozen 0
  go_wp2_with fail
  obtain ⟨W', hW', bS', bL', bE', k'⟩ := three (u := .slice none 0 0) (l' := 0) (e' := 2) bS bL bE
  rw [hW']
  refine ⟨_, results_parse _ _ w.heap.size (w.heap.size + 1) (w.heap.size + 2) _ _ _ rfl rfl rfl ((bS'.cell 0).trans rfl) ((bL'.cell 0).trans rfl) ((bE'.cell 0).trans rfl), ?_⟩
  exact ⟨none, 0, rfl, Nat.le_refl _, ⟨[], rfl, Reads.none_, fun x hx => by simp at hx⟩, Below.after (k.below (Nat.le_refl _) (fun _ h => h.elim)) k' (fun x hx => by omega) (Nat.le_refl _)⟩

/-- script.Parse. -/
theorem parse_any (s : ByteArray) (w : World) (hE : Env w) : Calls Tryz.prog 10 #[.string s] w (ParsePost (parseS s.data.toList) w) := by
  unfold parseS
  split
  · exact parse_big s w (by rw [size_list]; assumption)
  · exact parse_small s w hE (by rw [size_list]; omega)

end Go.Proofs.YtfnfjfcncijapaaGreatDoor
