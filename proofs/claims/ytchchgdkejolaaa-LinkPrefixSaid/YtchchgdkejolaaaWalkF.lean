/- The walk of LinkPrefix: its first part (printed by genF.py). -/
import Derived.Test.YtchchgdkejolaaaWalkE
import Derived.Test.YtchchgdkejolaaaLawF
import Derived.Test.YtchchgdkejolaaaPair
namespace Go.Proofs.Ytchchgdkejolaaa
open Go.RowKit

set_option maxHeartbeats 1000000 in
set_option maxRecDepth 100000 in
theorem prefix_no (b c : Int) (ls : Value) (w : World) (h : b < 0 ∨ 1073741824 < b) :
    Calls Try.prog 6 #[.int .i64 b, .int .i64 c, ls] w fun e w' => e = .returned (.bool true) ∧ Below w.heap.size w w' := by
  go_enter Try.func6, Try.ntmps6
  go_wp2_with fail
  refine (new_no b c _ h).mono ?_
  rintro e w1 ⟨rfl, rfl⟩
  go_wp2_with fail
  refine (awake_any _).mono ?_
  rintro e w3 ⟨rfl, k3⟩
  go_wp2_with fail
  refine (awake_any _).mono ?_
  rintro e w4 ⟨rfl, k4⟩
  go_wp2_with fail
  go_ret
  exact ⟨rfl, k3.trans (k4.mono k3.size)⟩

set_option maxHeartbeats 1000000 in
set_option maxRecDepth 100000 in
theorem prefix_many (b c : Int) (A : Option Addr) (cap : Nat) (ops : List OpD) (w : World) (h0 : 0 ≤ b) (h1 : b ≤ 1073741824) (l0 : -9223372036854775808 ≤ c) (l1 : c ≤ 9223372036854775807)
    (hops : OpsAt w A ops) (hf : fewB ops = false) :
    Calls Try.prog 6 #[.int .i64 b, .int .i64 c, .slice A ops.length cap] w fun e w' => e = .returned (.bool true) ∧ Below w.heap.size w w' := by
  have HF := Lib.hid hf
  clear hf
  go_enter Try.func6, Try.ntmps6
  go_wp2_with fail
  refine (new_any b c _ h0 h1 l0 l1).mono ?_
  rintro e w1 ⟨rfl, a1, k1, s1⟩
  clear s1
  go_wp2_with fail
  refine (awake_any _).mono ?_
  rintro e w3 ⟨rfl, k3⟩
  have b3 : Below w.heap.size w w3 := nof_below (k1.trans (Kept.of_below k3) (fun _ h => .inl h))
  have C := few_any A cap ops w3 (hops.below b3)
  rw [HF.out] at C
  have H := Lib.hid C
  clear C
  go_wp2_with fail
  refine H.out.mono ?_
  rintro e w4 ⟨rfl, rfl⟩
  go_wp2_with fail
  refine (awake_any _).mono ?_
  rintro e w5 ⟨rfl, k5⟩
  go_wp2_with fail
  go_ret
  exact ⟨rfl, b3.trans (k5.mono b3.size)⟩


/-- Three things in memory, apart from one another and from what was there. -/
structure Three (B : Nat) (F P Q : Nat → Prop) : Prop where
  gF : ∀ k, F k → B ≤ k
  gP : ∀ k, P k → B ≤ k
  gQ : ∀ k, Q k → B ≤ k
  FP : ∀ k, F k → ¬ P k
  FQ : ∀ k, F k → ¬ Q k
  PQ : ∀ k, P k → ¬ Q k

theorem Three.moreF {B : Nat} {F P Q : Nat → Prop} {wr w' : World} (h : Three B F P Q) (hB : B ≤ wr.heap.size) (lP : ∀ k, P k → k < wr.heap.size) (lQ : ∀ k, Q k → k < wr.heap.size) : Three B (More F wr w') P Q :=
  ⟨more_ge h.gF hB, h.gP, h.gQ, more_apart h.FP lP, more_apart h.FQ lQ, h.PQ⟩
theorem Three.moreP {B : Nat} {F P Q : Nat → Prop} {wr w' : World} (h : Three B F P Q) (hB : B ≤ wr.heap.size) (lF : ∀ k, F k → k < wr.heap.size) (lQ : ∀ k, Q k → k < wr.heap.size) : Three B F (More P wr w') Q :=
  ⟨h.gF, more_ge h.gP hB, h.gQ, fun k h1 h2 => more_apart (fun k h1 h2 => h.FP k h2 h1) lF k h2 h1, h.FQ, more_apart h.PQ lQ⟩
theorem Three.moreQ {B : Nat} {F P Q : Nat → Prop} {wr w' : World} (h : Three B F P Q) (hB : B ≤ wr.heap.size) (lF : ∀ k, F k → k < wr.heap.size) (lP : ∀ k, P k → k < wr.heap.size) : Three B F P (More Q wr w') :=
  ⟨h.gF, h.gP, more_ge h.gQ hB, h.FP, fun k h1 h2 => more_apart (fun k h1 h2 => h.FQ k h2 h1) lF k h2 h1, fun k h1 h2 => more_apart (fun k h1 h2 => h.PQ k h2 h1) lP k h2 h1⟩

structure PState (w : World) (B p9 p10 : Nat) (F P Q : Nat → Prop) (L : LS) (g0 g1 : List UInt8) (wh : Bool) : Prop where
  l : LinkAt w F B L
  s : PairAt w P p9 (L.sent 0) (L.sent 1)
  g : PairAt w Q p10 g0 g1
  e0 : g0 ++ L.wait 1 = L.sent 0
  e1 : g1 ++ L.wait 0 = L.sent 1
  t : Three B F P Q
  wh : wh = true ∨ L.down = true ∨ L.budget - L.total < 300

def PrefixRel (w : World) (p9 p10 n : Nat) (i whole : Value) (wr : World) : Prop :=
  ∃ (j : Nat) (F P Q : Nat → Prop) (L : LS) (g0 g1 : List UInt8) (wh : Bool), j ≤ n ∧ i = .int .i64 (j : Int) ∧ whole = .bool wh ∧ PState wr w.heap.size p9 p10 F P Q L g0 g1 wh ∧ Below w.heap.size w wr

theorem pair_len {L : LS} (hok : L.ok) : (L.sent 0).length + (L.sent 1).length ≤ 1073741824 ∧ (L.wait 0).length ≤ 1073741824 ∧ (L.wait 1).length ≤ 1073741824 := by
  have h1 := hok.tot
  have h2 := hok.b1
  have h3 := hok.q0
  have h4 := hok.q1
  have e0 : L.sent 0 = L.s0 := rfl
  have e1 : L.sent 1 = L.s1 := rfl
  have e2 : L.wait 0 = L.w0 := rfl
  have e3 : L.wait 1 = L.w1 := rfl
  rw [e0, e1, e2, e3]
  omega

theorem start_world (w3 : World) (B : Nat) (hB : B < w3.heap.size) {L : LS} (l : LinkAt w3 (fun k => k = B) B L) (e0 : [] ++ L.wait 1 = L.sent 0) (e1 : [] ++ L.wait 0 = L.sent 1) (z0 : L.sent 0 = []) (z1 : L.sent 1 = []) :
    ∃ F P Q, PState ((w3.alloc (.cells #[.slice none 0 0, .slice none 0 0] 41)).alloc (.cells #[.slice none 0 0, .slice none 0 0] 41)) B w3.heap.size (w3.heap.size + 1) F P Q L [] [] true := by
  have b1 := Blk.new w3 41 #[.slice none 0 0, .slice none 0 0]
  have b2 := b1.alloc (.cells #[.slice none 0 0, .slice none 0 0] 41)
  have b3 := Blk.new (w3.alloc (.cells #[.slice none 0 0, .slice none 0 0] 41)) 41 #[.slice none 0 0, .slice none 0 0]
  have hs : (w3.alloc (.cells #[.slice none 0 0, .slice none 0 0] 41)).heap.size = w3.heap.size + 1 := by simp
  rw [hs] at b3
  refine ⟨_, _, _, l.kept (((Kept.refl NoF w3).alloc _).alloc _) (fun _ _ h => h), by rw [z0, z1]; exact pair_new b2, pair_new b3, e0, e1, ⟨?_, ?_, ?_, ?_, ?_, ?_⟩, .inl rfl⟩
  all_goals intro k
  · intro h; omega
  · intro h; omega
  · intro h; omega
  · intro h h'; omega
  · intro h h'; omega
  · intro h h'; omega

theorem pair_row0 {w : World} {Q : Nat → Prop} {p : Nat} {x0 x1 : List UInt8} (h : PairAt w Q p x0 x1) : ∃ A c, ∀ W, Kept NoF w W → W.cell? ⟨p, 0, none⟩ = some (.slice A x0.length c) ∧ (convert 22 9 (.slice A x0.length c)).run Try.prog W = .ok (.string (ba x0)) W := by
  obtain ⟨v0, v1, r⟩ := h
  obtain ⟨A, c, rfl, _⟩ := own_form r.o0
  refine ⟨A, c, fun W k => ?_⟩
  have rW := r.kept k (fun _ _ h => h)
  exact ⟨(rW.blk.cell 0).trans rfl, conv_reads (Reads.of_own rW.o0)⟩
theorem pair_row1 {w : World} {Q : Nat → Prop} {p : Nat} {x0 x1 : List UInt8} (h : PairAt w Q p x0 x1) : ∃ A c, ∀ W, Kept NoF w W → W.cell? ⟨p, 1, none⟩ = some (.slice A x1.length c) ∧ (convert 22 9 (.slice A x1.length c)).run Try.prog W = .ok (.string (ba x1)) W := by
  obtain ⟨v0, v1, r⟩ := h
  obtain ⟨A, c, rfl, _⟩ := own_form r.o1
  refine ⟨A, c, fun W k => ?_⟩
  have rW := r.kept k (fun _ _ h => h)
  exact ⟨(rW.blk.cell 1).trans rfl, conv_reads (Reads.of_own rW.o1)⟩
theorem PState.quiet {w w' : World} {B p9 p10 : Nat} {F P Q : Nat → Prop} {L : LS} {g0 g1 : List UInt8} {wh : Bool} (st : PState w B p9 p10 F P Q L g0 g1 wh) (k : Kept NoF w w') : PState w' B p9 p10 F P Q L g0 g1 wh :=
  ⟨st.l.kept k (fun _ _ h => h), st.s.kept k (fun _ _ h => h), st.g.kept k (fun _ _ h => h), st.e0, st.e1, st.t, st.wh⟩

def PrefixRel2 (w : World) (p9 p10 : Nat) (wh : Bool) (i : Value) (wr : World) : Prop :=
  ∃ (j : Nat) (F P Q : Nat → Prop) (L : LS) (g0 g1 : List UInt8), j ≤ 2 ∧ i = .int .i64 (j : Int) ∧ PState wr w.heap.size p9 p10 F P Q L g0 g1 wh ∧ Below w.heap.size w wr

theorem recv_state0 {wr w7 w8 w9 : World} {B p9 p10 : Nat} {F P Q : Nat → Prop} {L : LS} {g0 g1 : List UInt8} {wh : Bool} {u0 u1 : Value} (st : PState wr B p9 p10 F P Q L g0 g1 wh)
    (l7 : LinkAt w7 F B (L.drop 0)) (k7 : Kept F wr w7) (rg9 : PRep w9 (More Q w7 w8) p10 g0 (g1 ++ L.wait 0) u0 u1) (kw9 : Kept Q w7 w9) (hB : B ≤ w7.heap.size) :
    PState w9 B p9 p10 F P (More Q w7 w8) (L.drop 0) g0 (g1 ++ L.wait 0) wh := by
  have s7 := st.s.kept k7 (fun x h1 h2 => st.t.FP x h2 h1)
  have hs0 : (L.drop 0).sent 0 = L.sent 0 := rfl
  have hs1 : (L.drop 0).sent 1 = L.sent 1 := rfl
  have t7 : Three B F P (More Q w7 w8) := st.t.moreQ hB l7.lt s7.lt
  refine ⟨l7.kept kw9 (fun x h1 h2 => st.t.FQ x h1 h2), ?_, ⟨_, _, rg9⟩, ?_, ?_, t7, ?_⟩
  · rw [hs0, hs1]
    exact s7.kept kw9 (fun x h1 h2 => st.t.PQ x h1 h2)
  · rw [hs0]
    exact st.e0
  · rw [hs1]
    show (g1 ++ L.wait 0) ++ [] = _; rw [List.append_nil]; exact st.e1
  · have := st.wh
    rw [drop_down, drop_budget, drop_total]
    exact this

theorem recv_state1 {wr w7 w8 w9 : World} {B p9 p10 : Nat} {F P Q : Nat → Prop} {L : LS} {g0 g1 : List UInt8} {wh : Bool} {u0 u1 : Value} (st : PState wr B p9 p10 F P Q L g0 g1 wh)
    (l7 : LinkAt w7 F B (L.drop 1)) (k7 : Kept F wr w7) (rg9 : PRep w9 (More Q w7 w8) p10 (g0 ++ L.wait 1) g1 u0 u1) (kw9 : Kept Q w7 w9) (hB : B ≤ w7.heap.size) :
    PState w9 B p9 p10 F P (More Q w7 w8) (L.drop 1) (g0 ++ L.wait 1) g1 wh := by
  have s7 := st.s.kept k7 (fun x h1 h2 => st.t.FP x h2 h1)
  have hs0 : (L.drop 1).sent 0 = L.sent 0 := rfl
  have hs1 : (L.drop 1).sent 1 = L.sent 1 := rfl
  have t7 : Three B F P (More Q w7 w8) := st.t.moreQ hB l7.lt s7.lt
  refine ⟨l7.kept kw9 (fun x h1 h2 => st.t.FQ x h1 h2), ?_, ⟨_, _, rg9⟩, ?_, ?_, t7, ?_⟩
  · rw [hs0, hs1]
    exact s7.kept kw9 (fun x h1 h2 => st.t.PQ x h1 h2)
  · rw [hs0]
    show (g0 ++ L.wait 1) ++ [] = _; rw [List.append_nil]; exact st.e0
  · rw [hs1]
    exact st.e1
  · have := st.wh
    rw [drop_down, drop_budget, drop_total]
    exact this

theorem send_state0 {wr w5 w8 w9 : World} {B p9 p10 n : Nat} {F P Q : Nat → Prop} {L : LS} {g0 g1 xs : List UInt8} {wh : Bool} {r : LS × Int × Int} {u0 u1 : Value} (st : PState wr B p9 p10 F P Q L g0 g1 wh) (sd : Sends L 0 xs r n) (hx : xs.length ≤ 300)
    (l5 : LinkAt w5 (More F wr w5) B r.1) (k5 : Kept F wr w5) (rs9 : PRep w9 (More P w5 w8) p9 (L.sent 0 ++ xs.take n) (L.sent 1) u0 u1) (kw9 : Kept P w5 w9) (hB : B ≤ wr.heap.size) (hB5 : B ≤ w5.heap.size)
    (wh' : Bool) (hw : wh' = wh ∧ r.2.2 = 0 ∨ r.2.2 ≠ 0) : PState w9 B p9 p10 (More F wr w5) (More P w5 w8) Q r.1 g0 g1 wh' := by
  have g5 := st.g.kept k5 (fun x h1 h2 => st.t.FQ x h2 h1)
  have t5 : Three B (More F wr w5) P Q := st.t.moreF hB st.s.lt st.g.lt
  have t9 : Three B (More F wr w5) (More P w5 w8) Q := t5.moreP hB5 l5.lt g5.lt
  have es := sd.s
  have es' := sd.s'
  have eq := sd.q
  have eq' := sd.q'
  have h10 : (1 : Int) - 0 = 1 := rfl
  rw [h10] at es' eq
  refine ⟨l5.kept kw9 (fun x h1 h2 => t5.FP x h1 h2), ?_, g5.kept kw9 (fun x h1 h2 => t5.PQ x h2 h1), ?_, ?_, t9, ?_⟩
  · rw [es, es']
    exact ⟨_, _, rs9⟩
  · rw [eq, es, ← List.append_assoc, st.e0]
  · rw [eq', es', st.e1]
  · rcases hw with ⟨rfl, _⟩ | hw
    · rcases st.wh with h | h | h
      · exact .inl h
      · exact .inr (.inl (sd.dn h))
      · exact .inr (.inr (by have := sd.left; omega))
    · rcases sd.err hw with h | h
      · exact .inr (.inl h)
      · exact .inr (.inr (by omega))

theorem send_state1 {wr w5 w8 w9 : World} {B p9 p10 n : Nat} {F P Q : Nat → Prop} {L : LS} {g0 g1 xs : List UInt8} {wh : Bool} {r : LS × Int × Int} {u0 u1 : Value} (st : PState wr B p9 p10 F P Q L g0 g1 wh) (sd : Sends L 1 xs r n) (hx : xs.length ≤ 300)
    (l5 : LinkAt w5 (More F wr w5) B r.1) (k5 : Kept F wr w5) (rs9 : PRep w9 (More P w5 w8) p9 (L.sent 0) (L.sent 1 ++ xs.take n) u0 u1) (kw9 : Kept P w5 w9) (hB : B ≤ wr.heap.size) (hB5 : B ≤ w5.heap.size)
    (wh' : Bool) (hw : wh' = wh ∧ r.2.2 = 0 ∨ r.2.2 ≠ 0) : PState w9 B p9 p10 (More F wr w5) (More P w5 w8) Q r.1 g0 g1 wh' := by
  have g5 := st.g.kept k5 (fun x h1 h2 => st.t.FQ x h2 h1)
  have t5 : Three B (More F wr w5) P Q := st.t.moreF hB st.s.lt st.g.lt
  have t9 : Three B (More F wr w5) (More P w5 w8) Q := t5.moreP hB5 l5.lt g5.lt
  have es := sd.s
  have es' := sd.s'
  have eq := sd.q
  have eq' := sd.q'
  have h10 : (1 : Int) - 1 = 0 := rfl
  rw [h10] at es' eq
  refine ⟨l5.kept kw9 (fun x h1 h2 => t5.FP x h1 h2), ?_, g5.kept kw9 (fun x h1 h2 => t5.PQ x h2 h1), ?_, ?_, t9, ?_⟩
  · rw [es', es]
    exact ⟨_, _, rs9⟩
  · rw [eq', es', st.e0]
  · rw [eq, es, ← List.append_assoc, st.e1]
  · rcases hw with ⟨rfl, _⟩ | hw
    · rcases st.wh with h | h | h
      · exact .inl h
      · exact .inr (.inl (sd.dn h))
      · exact .inr (.inr (by have := sd.left; omega))
    · rcases sd.err hw with h | h
      · exact .inr (.inl h)
      · exact .inr (.inr (by omega))

set_option maxHeartbeats 8000000 in
set_option maxRecDepth 100000 in
theorem prefix_few (b c : Int) (A : Option Addr) (cap : Nat) (ops : List OpD) (w : World) (h0 : 0 ≤ b) (h1 : b ≤ 1073741824) (l0 : -9223372036854775808 ≤ c) (l1 : c ≤ 9223372036854775807)
    (hops : OpsAt w A ops) (hf : fewB ops = true) :
    Calls Try.prog 6 #[.int .i64 b, .int .i64 c, .slice A ops.length cap] w fun e w' => e = .returned (.bool true) ∧ Below w.heap.size w w' := by
  have HF := Lib.hid hf
  clear hf
  have hlen := hops.1
  obtain ⟨i0, hi0, hz0, hz1, hz2⟩ := info_parts info5
  go_enter Try.func6, Try.ntmps6
  go_wp2_with fail
  refine (new_any b c _ h0 h1 l0 l1).mono ?_
  rintro e w1 ⟨rfl, a1, k1, s1⟩
  have S1 := Lib.hid s1
  clear s1
  go_wp2_with fail
  refine (awake_any _).mono ?_
  rintro e w3 ⟨rfl, k3⟩
  have b3 : Below w.heap.size w w3 := nof_below (k1.trans (Kept.of_below k3) (fun _ h => .inl h))
  have a3 := a1.kept (Kept.of_below (F := NoF) k3) (fun _ _ h => h)
  have C := few_any A cap ops w3 (hops.below b3)
  rw [HF.out] at C
  have H := Lib.hid C
  clear C
  obtain ⟨F0, P0, Q0, st0⟩ := start_world w3 w.heap.size (by have := S1.out; have := k3.size; omega) a3 rfl rfl rfl rfl
  have bs0 : Below w.heap.size w ((w3.alloc (.cells #[.slice none 0 0, .slice none 0 0] 41)).alloc (.cells #[.slice none 0 0, .slice none 0 0] 41)) := b3.trans (((Below.refl _ _).alloc b3.size _).alloc (by simp; have := b3.size; omega) _)
  go_wp2_with fail
  refine H.out.mono ?_
  rintro e w4 ⟨rfl, rfl⟩
  clear H
  go_wp2_with fail
  go_loopw [12, 11] (PrefixRel w w3.heap.size (w3.heap.size + 1) ops.length) (fun i _ _ => ops.length - (intOf i).toNat)
  case atStart => exact ⟨0, F0, P0, Q0, _, [], [], true, Nat.zero_le _, rfl, rfl, st0, bs0⟩
  case round =>
    obtain ⟨j, F, P, Q, L, g0, g1, wh, hj, rfl, rfl, st, bw⟩ := hrel
    by_cases hlt : j < ops.length
    · obtain ⟨b', off, X, cx, rfl, hbl, c0, c1, c2, _, _, hcx, _, hr, _⟩ := hops.at_ hlt
      have k0 : wr.cell? ⟨b', off + j * 5, none⟩ = some (.int .i64 ops[j].kind) := (bw.cell hbl).trans c0
      have k1 : wr.cell? ⟨b', off + j * 5 + 1, none⟩ = some (.int .i64 ops[j].side) := (bw.cell hbl).trans c1
      have k2 : wr.cell? ⟨b', off + j * 5 + 2, none⟩ = some (.slice X ops[j].xs.length cx) := (bw.cell hbl).trans c2
      have hx300 := few_each HF.out hlt
      have hk := and_one_i64 ops[j].side
      generalize ops[j].side = sd at k1 hk c1
      generalize ops[j].kind = kd at k0 c0
      generalize ops[j].xs = xs at k2 hr hcx hx300 c2
      by_cases hkd : kd = 2
      · subst hkd
        go_wp2_with fail
        generalize bits BinOp.and IntKind.i64 sd 1 = k at hk ⊢
        rcases hk with rfl | rfl
        · obtain ⟨v0, v1, rg⟩ := st.g
          have H7 := Lib.hid (recv_any st.l 0 (.inl rfl))
          go_wp2_with fail
          refine H7.out.mono ?_
          clear H7
          rintro e w7 ⟨v7, rfl, n7, l7, k7⟩
          obtain ⟨g7, rfl, hg7, hl7, r7⟩ := n7.reads
          have rg7 := rg.kept k7 (fun x h1 h2 => st.t.FQ x h2 h1)
          obtain ⟨Av, cv, hv, _⟩ := own_form rg7.o1
          subst hv
          have hlw := (pair_len st.l.isok)
          have hgl : g1.length ≤ 1073741824 := by have := congrArg List.length st.e1; rw [List.length_append] at this; omega
          have kc : w7.cell? ⟨w3.heap.size + 1, 1, none⟩ = some (.slice Av g1.length cv) := (rg7.blk.cell 1).trans rfl
          go_wp2_with (at_builtin; refine wpList_append_any _ rfl (.tmp 83) (.tmp 84) _ rfl 0 5 i0 _ 1 1 Try.underlying22 hi0 hz0 hz1 hz2 rfl (by omega) (.slice Av g1.length cv) g1.length (bvs g1) rfl rg7.o1 _ (some ⟨g7, 0, none⟩) (L.wait 0).length (L.wait 0).length (bvs (L.wait 0)) rfl r7 (bvs_one _) (by simp only [maxLen]; omega) (by omega) (Nat.zero_le _) ?_; intro v8 w8 own8 g8 at8; obtain ⟨A8, c8, hv8, _⟩ := own_form own8; rw [hv8] at own8 at8 ⊢; have b8 := rg7.blk.grown g8 (own_blk_ne rg7.o1 rg7.blk (by decide)).symm; have kc8 : w8.cell? ⟨w3.heap.size + 1, 1, none⟩ = some (.slice Av g1.length cv) := (b8.cell 1).trans rfl; have z8 : w8.frozen? ⟨w3.heap.size + 1, 1, none⟩ = false := b8.frozen 1)
          obtain ⟨rg9, kw9⟩ := PRep.app1 (ys := L.wait 0) rg7 (by simp) own8 g8 at8
          have bw7 : Below w.heap.size w w7 := bw.trans (k7.below bw.size st.t.gF)
          have st' := recv_state0 st l7 k7 rg9 kw9 bw7.size
          have bw9 := bw7.trans (kw9.below bw7.size st.t.gQ)
          go_roundw
          case rel => exact ⟨j + 1, _, _, _, _, _, _, wh, by omega, by go_num, rfl, st', bw9⟩
          case measure => simp [intOf]; omega
        · obtain ⟨v0, v1, rg⟩ := st.g
          have H7 := Lib.hid (recv_any st.l 1 (.inr rfl))
          go_wp2_with fail
          refine H7.out.mono ?_
          clear H7
          rintro e w7 ⟨v7, rfl, n7, l7, k7⟩
          obtain ⟨g7, rfl, hg7, hl7, r7⟩ := n7.reads
          have rg7 := rg.kept k7 (fun x h1 h2 => st.t.FQ x h2 h1)
          obtain ⟨Av, cv, hv, _⟩ := own_form rg7.o0
          subst hv
          have hlw := (pair_len st.l.isok)
          have hgl : g0.length ≤ 1073741824 := by have := congrArg List.length st.e0; rw [List.length_append] at this; omega
          have kc : w7.cell? ⟨w3.heap.size + 1, 0, none⟩ = some (.slice Av g0.length cv) := (rg7.blk.cell 0).trans rfl
          go_wp2_with (at_builtin; refine wpList_append_any _ rfl (.tmp 83) (.tmp 84) _ rfl 0 5 i0 _ 1 1 Try.underlying22 hi0 hz0 hz1 hz2 rfl (by omega) (.slice Av g0.length cv) g0.length (bvs g0) rfl rg7.o0 _ (some ⟨g7, 0, none⟩) (L.wait 1).length (L.wait 1).length (bvs (L.wait 1)) rfl r7 (bvs_one _) (by simp only [maxLen]; omega) (by omega) (Nat.zero_le _) ?_; intro v8 w8 own8 g8 at8; obtain ⟨A8, c8, hv8, _⟩ := own_form own8; rw [hv8] at own8 at8 ⊢; have b8 := rg7.blk.grown g8 (own_blk_ne rg7.o0 rg7.blk (by decide)).symm; have kc8 : w8.cell? ⟨w3.heap.size + 1, 0, none⟩ = some (.slice Av g0.length cv) := (b8.cell 0).trans rfl; have z8 : w8.frozen? ⟨w3.heap.size + 1, 0, none⟩ = false := b8.frozen 0)
          obtain ⟨rg9, kw9⟩ := PRep.app0 (ys := L.wait 1) rg7 (by simp) own8 g8 at8
          have bw7 : Below w.heap.size w w7 := bw.trans (k7.below bw.size st.t.gF)
          have st' := recv_state1 st l7 k7 rg9 kw9 bw7.size
          have bw9 := bw7.trans (kw9.below bw7.size st.t.gQ)
          go_roundw
          case rel => exact ⟨j + 1, _, _, _, _, _, _, wh, by omega, by go_num, rfl, st', bw9⟩
          case measure => simp [intOf]; omega
      · have hkd' : (kd == 2) = false := by simpa using hkd
        go_wp2_with fail
        generalize bits BinOp.and IntKind.i64 sd 1 = k at hk ⊢
        rcases hk with rfl | rfl
        · have hsrc : ∀ ad, X = some ad → 0 < xs.length → ad.block < w.heap.size := by
            intro ad e hp
            obtain ⟨ad', e', hlt', _⟩ := hr.2 hp
            rw [e] at e'
            injection e' with e'
            subst e'
            exact hlt'
          have C := send_any st.l 0 X cx _ xs rfl ((hr.below bw).more bw.size) (fun ad e hp hf => by have := hsrc ad e hp; have := st.t.gF _ hf; omega) hcx
          obtain ⟨n, sd⟩ := sends st.l.isok (.inl rfl) xs (k := 0)
          generalize L.send 0 xs = r at C sd
          have H := Lib.hid C
          clear C
          obtain ⟨v0, v1, rs⟩ := st.s
          go_wp2_with fail
          refine H.out.mono ?_
          clear H
          rintro e w5 ⟨rfl, l5, k5⟩
          have bw5 : Below w.heap.size w w5 := bw.trans (k5.below bw.size st.t.gF)
          have rs5 := rs.kept k5 (fun x h1 h2 => st.t.FP x h2 h1)
          have x5 := ((hr.below bw5).more bw5.size).take_ n sd.le
          rw [← bvs_take] at x5
          have k25 : w5.cell? ⟨b', off + j * 5 + 2, none⟩ = some (.slice X xs.length cx) := (bw5.cell hbl).trans c2
          obtain ⟨Av, cv, hv, _⟩ := own_form rs5.o0
          subst hv
          have hlw := (pair_len st.l.isok)
          have kc : w5.cell? ⟨w3.heap.size, 0, none⟩ = some (.slice Av (L.sent 0).length cv) := (rs5.blk.cell 0).trans rfl
          have hnl := sd.le
          have hnc : n ≤ cx := by omega
          have hnum := sd.num
          have hall := sd.all
          have SD := Lib.hid sd
          clear sd
          obtain ⟨L', n', f'⟩ := r
          simp only at hnum hall
          subst hnum
          have x5d := x5.drew
          have o5d := rs5.o0.drew
          have HALL := Lib.hid hall
          clear hall k2 k1
          rcases Bool.eq_false_or_eq_true (f' == 0) with hf | hf
          · have hf0 : f' = 0 := by simpa using hf
            subst hf0
            have hnx := HALL.out rfl
            have hne : ((n : Int) != (xs.length : Int)) = false := by simp; omega
            have HNX := Lib.hid hnx
            clear hnx hf
            go_wp2_with fail
            go_region_law (refine step_append_any _ rfl (.tmp 129) (.tmp 136) 22 rfl 0 5 i0 (.int .u8 0) 1 1 Try.underlying22 hi0 hz0 hz1 hz2 rfl (by omega) (.slice Av (L.sent 0).length cv) (L.sent 0).length (bvs (L.sent 0)) rfl o5d _ X n cx (bvs (xs.take n)) rfl x5d (bvs_one _) (by unfold maxLen; omega) (by omega) (Nat.zero_le _) ?_; intro v8 w8 own8 grw8 at8; obtain ⟨A8, c8, rfl, _⟩ := own_form own8; have b8 := rs5.blk.drew.grown grw8 (own_blk_ne o5d rs5.blk.drew (by decide)).symm; have q8 : w8.cell? ⟨w3.heap.size, 0, none⟩ = some (.slice Av (L.sent 0).length cv) := (b8.cell 0).trans rfl; have z8 : w8.frozen? ⟨w3.heap.size, 0, none⟩ = false := b8.frozen 0)
            all_goals
              obtain ⟨rs9, kw9⟩ := PRep.app0 (ys := xs.take n) rs5 (by simp; omega) own8 ⟨grw8.os, grw8.tape, grw8.output, grw8.size, grw8.block⟩ at8
              clear q8 z8 b8
              generalize w8.setCell ⟨w3.heap.size, 0, none⟩ (Value.slice A8 ((L.sent 0).length + n) c8) = w9 at rs9 kw9 ⊢
              go_wp2_with fail
              have st' := send_state0 st SD.out hx300 l5 k5 rs9 kw9 bw.size bw5.size wh (.inl ⟨rfl, rfl⟩)
              have bw9 := bw5.trans (kw9.below bw5.size st.t.gP)
              go_roundw
              case rel => exact ⟨j + 1, _, _, _, _, _, _, wh, by omega, by go_num, rfl, st', bw9⟩
              case measure => simp [intOf]; omega
          · have hf' : (f' != 0) = true := by simpa using hf
            go_wp2_with fail
            go_region_law (refine step_append_any _ rfl (.tmp 129) (.tmp 136) 22 rfl 0 5 i0 (.int .u8 0) 1 1 Try.underlying22 hi0 hz0 hz1 hz2 rfl (by omega) (.slice Av (L.sent 0).length cv) (L.sent 0).length (bvs (L.sent 0)) rfl o5d _ X n cx (bvs (xs.take n)) rfl x5d (bvs_one _) (by unfold maxLen; omega) (by omega) (Nat.zero_le _) ?_; intro v8 w8 own8 grw8 at8; obtain ⟨A8, c8, rfl, _⟩ := own_form own8; have b8 := rs5.blk.drew.grown grw8 (own_blk_ne o5d rs5.blk.drew (by decide)).symm; have q8 : w8.cell? ⟨w3.heap.size, 0, none⟩ = some (.slice Av (L.sent 0).length cv) := (b8.cell 0).trans rfl; have z8 : w8.frozen? ⟨w3.heap.size, 0, none⟩ = false := b8.frozen 0)
            all_goals
              obtain ⟨rs9, kw9⟩ := PRep.app0 (ys := xs.take n) rs5 (by simp; omega) own8 ⟨grw8.os, grw8.tape, grw8.output, grw8.size, grw8.block⟩ at8
              clear q8 z8 b8
              generalize w8.setCell ⟨w3.heap.size, 0, none⟩ (Value.slice A8 ((L.sent 0).length + n) c8) = w9 at rs9 kw9 ⊢
              go_wp2_with fail
              have st' := send_state0 st SD.out hx300 l5 k5 rs9 kw9 bw.size bw5.size false (.inr (by simpa using hf))
              have bw9 := bw5.trans (kw9.below bw5.size st.t.gP)
              go_roundw
              case rel => exact ⟨j + 1, _, _, _, _, _, _, false, by omega, by go_num, rfl, st', bw9⟩
              case measure => simp [intOf]; omega
        · have hsrc : ∀ ad, X = some ad → 0 < xs.length → ad.block < w.heap.size := by
            intro ad e hp
            obtain ⟨ad', e', hlt', _⟩ := hr.2 hp
            rw [e] at e'
            injection e' with e'
            subst e'
            exact hlt'
          have C := send_any st.l 1 X cx _ xs rfl ((hr.below bw).more bw.size) (fun ad e hp hf => by have := hsrc ad e hp; have := st.t.gF _ hf; omega) hcx
          obtain ⟨n, sd⟩ := sends st.l.isok (.inr rfl) xs (k := 1)
          generalize L.send 1 xs = r at C sd
          have H := Lib.hid C
          clear C
          obtain ⟨v0, v1, rs⟩ := st.s
          go_wp2_with fail
          refine H.out.mono ?_
          clear H
          rintro e w5 ⟨rfl, l5, k5⟩
          have bw5 : Below w.heap.size w w5 := bw.trans (k5.below bw.size st.t.gF)
          have rs5 := rs.kept k5 (fun x h1 h2 => st.t.FP x h2 h1)
          have x5 := ((hr.below bw5).more bw5.size).take_ n sd.le
          rw [← bvs_take] at x5
          have k25 : w5.cell? ⟨b', off + j * 5 + 2, none⟩ = some (.slice X xs.length cx) := (bw5.cell hbl).trans c2
          obtain ⟨Av, cv, hv, _⟩ := own_form rs5.o1
          subst hv
          have hlw := (pair_len st.l.isok)
          have kc : w5.cell? ⟨w3.heap.size, 1, none⟩ = some (.slice Av (L.sent 1).length cv) := (rs5.blk.cell 1).trans rfl
          have hnl := sd.le
          have hnc : n ≤ cx := by omega
          have hnum := sd.num
          have hall := sd.all
          have SD := Lib.hid sd
          clear sd
          obtain ⟨L', n', f'⟩ := r
          simp only at hnum hall
          subst hnum
          have x5d := x5.drew
          have o5d := rs5.o1.drew
          have HALL := Lib.hid hall
          clear hall k2 k1
          rcases Bool.eq_false_or_eq_true (f' == 0) with hf | hf
          · have hf0 : f' = 0 := by simpa using hf
            subst hf0
            have hnx := HALL.out rfl
            have hne : ((n : Int) != (xs.length : Int)) = false := by simp; omega
            have HNX := Lib.hid hnx
            clear hnx hf
            go_wp2_with fail
            go_region_law (refine step_append_any _ rfl (.tmp 129) (.tmp 136) 22 rfl 0 5 i0 (.int .u8 0) 1 1 Try.underlying22 hi0 hz0 hz1 hz2 rfl (by omega) (.slice Av (L.sent 1).length cv) (L.sent 1).length (bvs (L.sent 1)) rfl o5d _ X n cx (bvs (xs.take n)) rfl x5d (bvs_one _) (by unfold maxLen; omega) (by omega) (Nat.zero_le _) ?_; intro v8 w8 own8 grw8 at8; obtain ⟨A8, c8, rfl, _⟩ := own_form own8; have b8 := rs5.blk.drew.grown grw8 (own_blk_ne o5d rs5.blk.drew (by decide)).symm; have q8 : w8.cell? ⟨w3.heap.size, 1, none⟩ = some (.slice Av (L.sent 1).length cv) := (b8.cell 1).trans rfl; have z8 : w8.frozen? ⟨w3.heap.size, 1, none⟩ = false := b8.frozen 1)
            all_goals
              obtain ⟨rs9, kw9⟩ := PRep.app1 (ys := xs.take n) rs5 (by simp; omega) own8 ⟨grw8.os, grw8.tape, grw8.output, grw8.size, grw8.block⟩ at8
              clear q8 z8 b8
              generalize w8.setCell ⟨w3.heap.size, 1, none⟩ (Value.slice A8 ((L.sent 1).length + n) c8) = w9 at rs9 kw9 ⊢
              go_wp2_with fail
              have st' := send_state1 st SD.out hx300 l5 k5 rs9 kw9 bw.size bw5.size wh (.inl ⟨rfl, rfl⟩)
              have bw9 := bw5.trans (kw9.below bw5.size st.t.gP)
              go_roundw
              case rel => exact ⟨j + 1, _, _, _, _, _, _, wh, by omega, by go_num, rfl, st', bw9⟩
              case measure => simp [intOf]; omega
          · have hf' : (f' != 0) = true := by simpa using hf
            go_wp2_with fail
            go_region_law (refine step_append_any _ rfl (.tmp 129) (.tmp 136) 22 rfl 0 5 i0 (.int .u8 0) 1 1 Try.underlying22 hi0 hz0 hz1 hz2 rfl (by omega) (.slice Av (L.sent 1).length cv) (L.sent 1).length (bvs (L.sent 1)) rfl o5d _ X n cx (bvs (xs.take n)) rfl x5d (bvs_one _) (by unfold maxLen; omega) (by omega) (Nat.zero_le _) ?_; intro v8 w8 own8 grw8 at8; obtain ⟨A8, c8, rfl, _⟩ := own_form own8; have b8 := rs5.blk.drew.grown grw8 (own_blk_ne o5d rs5.blk.drew (by decide)).symm; have q8 : w8.cell? ⟨w3.heap.size, 1, none⟩ = some (.slice Av (L.sent 1).length cv) := (b8.cell 1).trans rfl; have z8 : w8.frozen? ⟨w3.heap.size, 1, none⟩ = false := b8.frozen 1)
            all_goals
              obtain ⟨rs9, kw9⟩ := PRep.app1 (ys := xs.take n) rs5 (by simp; omega) own8 ⟨grw8.os, grw8.tape, grw8.output, grw8.size, grw8.block⟩ at8
              clear q8 z8 b8
              generalize w8.setCell ⟨w3.heap.size, 1, none⟩ (Value.slice A8 ((L.sent 1).length + n) c8) = w9 at rs9 kw9 ⊢
              go_wp2_with fail
              have st' := send_state1 st SD.out hx300 l5 k5 rs9 kw9 bw.size bw5.size false (.inr (by simpa using hf))
              have bw9 := bw5.trans (kw9.below bw5.size st.t.gP)
              go_roundw
              case rel => exact ⟨j + 1, _, _, _, _, _, _, false, by omega, by go_num, rfl, st', bw9⟩
              case measure => simp [intOf]; omega
    · obtain ⟨wo, rfl⟩ : ∃ wo : World, wo = wr := ⟨_, rfl⟩
      go_wp2_with fail
      go_loopw [18] (PrefixRel2 w w3.heap.size (w3.heap.size + 1) wh) (fun i _ => 2 - (intOf i).toNat)
      case atStart => exact ⟨0, F, P, Q, L, g0, g1, by omega, rfl, st, bw⟩
      case round =>
        clear st bw
        obtain ⟨kk, F, P, Q, L, g0, g1, hk2, rfl, st, bw⟩ := hrel
        have hcase : kk = 0 ∨ kk = 1 ∨ kk = 2 := by omega
        rcases hcase with rfl | rfl | rfl
        · obtain ⟨v0, v1, rg⟩ := st.g
          have H7 := Lib.hid (recv_any st.l 1 (.inr rfl))
          go_wp2_with fail
          refine H7.out.mono ?_
          clear H7
          rintro e w7 ⟨v7, rfl, n7, l7, k7⟩
          obtain ⟨g7, rfl, hg7, hl7, r7⟩ := n7.reads
          have rg7 := rg.kept k7 (fun x h1 h2 => st.t.FQ x h2 h1)
          obtain ⟨Av, cv, hv, _⟩ := own_form rg7.o0
          subst hv
          have hlw := (pair_len st.l.isok)
          have hgl : g0.length ≤ 1073741824 := by have := congrArg List.length st.e0; rw [List.length_append] at this; omega
          have kc : w7.cell? ⟨w3.heap.size + 1, 0, none⟩ = some (.slice Av g0.length cv) := (rg7.blk.cell 0).trans rfl
          have tok : True := trivial
          go_wp2_with (at_builtin; have _t := tok; refine wpList_append_any _ rfl (.tmp 153) (.tmp 154) _ rfl 0 5 i0 _ 1 1 Try.underlying22 hi0 hz0 hz1 hz2 rfl (by omega) (.slice Av g0.length cv) g0.length (bvs g0) rfl rg7.o0 _ (some ⟨g7, 0, none⟩) (L.wait 1).length (L.wait 1).length (bvs (L.wait 1)) rfl r7 (bvs_one _) (by simp only [maxLen]; omega) (by omega) (Nat.zero_le _) ?_; intro v8 w8 own8 g8 at8; obtain ⟨A8, c8, hv8, _⟩ := own_form own8; rw [hv8] at own8 at8 ⊢; have b8 := rg7.blk.grown g8 (own_blk_ne rg7.o0 rg7.blk (by decide)).symm; have kc8 : w8.cell? ⟨w3.heap.size + 1, 0, none⟩ = some (.slice Av g0.length cv) := (b8.cell 0).trans rfl; have z8 : w8.frozen? ⟨w3.heap.size + 1, 0, none⟩ = false := b8.frozen 0; clear tok)
          obtain ⟨rg9, kw9⟩ := PRep.app0 (ys := L.wait 1) rg7 (by simp) own8 g8 at8
          have bw7 : Below w.heap.size w w7 := bw.trans (k7.below bw.size st.t.gF)
          have st' := recv_state1 st l7 k7 rg9 kw9 bw7.size
          have bw9 := bw7.trans (kw9.below bw7.size st.t.gQ)
          clear kc8 z8 b8 kc
          generalize w8.setCell ⟨w3.heap.size + 1, 0, none⟩ (Value.slice A8 (g0.length + (L.wait 1).length) c8) = w9 at rg9 kw9 st' bw9 ⊢
          obtain ⟨Ag, cg, hg⟩ := pair_row0 st'.g
          rw [st.e0] at hg
          obtain ⟨As, cs, hs⟩ := pair_row0 st'.s
          have hs' : ∀ W, Kept NoF w9 W → W.cell? ⟨w3.heap.size, 0, none⟩ = some (.slice As (L.sent 0).length cs) ∧ (convert 22 9 (.slice As (L.sent 0).length cs)).run Try.prog W = .ok (.string (ba (L.sent 0))) W := hs
          have SALL := Lib.hid (fun W (kW : Kept NoF w9 W) => And.intro kW (And.intro (hg W kW).1 (And.intro (hs' W kW).1 (And.intro (hg W kW).2 (hs' W kW).2))))
          clear hg hs hs'
          go_wp2_with fail
          refine wp_region_noPanic ?_
          refine wp_region_held_drew (S := fun w' => Kept NoF w9 w' ∧ w'.cell? ⟨w3.heap.size + 1, 0, none⟩ = some (.slice Ag (L.sent 0).length cg) ∧ w'.cell? ⟨w3.heap.size, 0, none⟩ = some (.slice As (L.sent 0).length cs) ∧ (convert 22 9 (.slice Ag (L.sent 0).length cg)).run Try.prog w' = .ok (.string (ba (L.sent 0))) w' ∧ (convert 22 9 (.slice As (L.sent 0).length cs)).run Try.prog w' = .ok (.string (ba (L.sent 0))) w') (by kernel_rfl) ?_ (fun hHeld => ?_)
          · exact (SALL.out _ (Kept.refl NoF w9).drew)
          refine wpAnyH_take (i := 0) (v := ?_) rfl (by kernel_rfl) (by kernel_rfl) (by kernel_rfl) (fun _ _ _ h => h) (Or.inl ⟨by rfl, ?_⟩) hHeld ?_
          rotate_left
          · (intro w hSw; (try dsimp only at hSw); go_simp; try (with_reducible rfl))
          simp only [Act.put, List.getElem_toArray, List.getElem_cons_zero, List.setIfInBounds_toArray, List.set_cons_zero, List.set_cons_succ]
          refine wpAnyH_take (i := 1) (v := ?_) rfl (by kernel_rfl) (by kernel_rfl) (by kernel_rfl) (fun _ _ _ h => h) (Or.inl ⟨by rfl, ?_⟩) hHeld ?_
          rotate_left
          · (intro w hSw; (try dsimp only at hSw); go_simp; try (with_reducible rfl))
          simp only [Act.put, List.getElem_toArray, List.getElem_cons_zero, List.getElem_cons_succ, List.setIfInBounds_toArray, List.set_cons_zero, List.set_cons_succ]
          refine wpAnyH_take (i := 2) (v := ?_) rfl (by kernel_rfl) (by kernel_rfl) (by kernel_rfl) (fun _ _ _ h => h) (Or.inl ⟨by rfl, ?_⟩) hHeld ?_
          rotate_left
          · (intro w hSw; (try dsimp only at hSw); go_simp; try (with_reducible rfl))
          simp only [Act.put, List.getElem_toArray, List.getElem_cons_zero, List.getElem_cons_succ, List.setIfInBounds_toArray, List.set_cons_zero, List.set_cons_succ]
          refine wpAnyH_take (i := 3) (v := ?_) rfl (by kernel_rfl) (by kernel_rfl) (by kernel_rfl) (fun _ _ _ h => h) (Or.inl ⟨by rfl, ?_⟩) hHeld ?_
          rotate_left
          · (intro w hSw; (try dsimp only at hSw); go_simp; try (with_reducible rfl))
          simp only [Act.put, List.getElem_toArray, List.getElem_cons_zero, List.getElem_cons_succ, List.setIfInBounds_toArray, List.set_cons_zero, List.set_cons_succ]
          refine wpAnyH_take (i := 4) (v := ?_) rfl (by kernel_rfl) (by kernel_rfl) (by kernel_rfl) (fun _ _ _ h => h) (Or.inl ⟨by rfl, ?_⟩) hHeld ?_
          rotate_left
          · (intro w hSw; (try dsimp only at hSw); go_simp; try (with_reducible rfl))
          simp only [Act.put, List.getElem_toArray, List.getElem_cons_zero, List.getElem_cons_succ, List.setIfInBounds_toArray, List.set_cons_zero, List.set_cons_succ]
          refine wpAnyH_take (i := 5) (v := ?_) rfl (by kernel_rfl) (by kernel_rfl) (by kernel_rfl) (fun _ _ _ h => h) (Or.inl ⟨by rfl, ?_⟩) hHeld ?_
          rotate_left
          · (intro w hSw; (try dsimp only at hSw); go_simp; try (with_reducible rfl))
          simp only [Act.put, List.getElem_toArray, List.getElem_cons_zero, List.getElem_cons_succ, List.setIfInBounds_toArray, List.set_cons_zero, List.set_cons_succ]
          refine wpAnyH_take (i := 6) (v := ?_) rfl (by kernel_rfl) (by kernel_rfl) (by kernel_rfl) (fun _ _ _ h => h) (Or.inl ⟨by rfl, ?_⟩) hHeld ?_
          rotate_left
          · (intro w hSw; (try dsimp only at hSw); go_simp; try (with_reducible rfl))
          simp only [Act.put, List.getElem_toArray, List.getElem_cons_zero, List.getElem_cons_succ, List.setIfInBounds_toArray, List.set_cons_zero, List.set_cons_succ]
          refine wpAnyH_take (i := 7) (v := ?_) rfl (by kernel_rfl) (by kernel_rfl) (by kernel_rfl) (fun _ _ _ h => h) (Or.inl ⟨by rfl, ?_⟩) hHeld ?_
          rotate_left
          · (intro w hSw; (try dsimp only at hSw); go_simp; try (with_reducible rfl))
          simp only [Act.put, List.getElem_toArray, List.getElem_cons_zero, List.getElem_cons_succ, List.setIfInBounds_toArray, List.set_cons_zero, List.set_cons_succ]
          refine wpAnyH_take (i := 8) (v := ?_) rfl (by kernel_rfl) (by kernel_rfl) (by kernel_rfl) (fun _ _ _ h => h) (Or.inl ⟨by rfl, ?_⟩) hHeld ?_
          rotate_left
          · (intro w hSw; (try dsimp only at hSw); go_simp; try (with_reducible rfl))
          simp only [Act.put, List.getElem_toArray, List.getElem_cons_zero, List.getElem_cons_succ, List.setIfInBounds_toArray, List.set_cons_zero, List.set_cons_succ]
          refine wpAnyH_take (i := 9) (v := ?_) rfl (by kernel_rfl) (by kernel_rfl) (by kernel_rfl) (fun _ _ _ h => h) (Or.inl ⟨by rfl, ?_⟩) hHeld ?_
          rotate_left
          · (intro w hSw; (try dsimp only at hSw); go_simp; try (with_reducible rfl))
          simp only [Act.put, List.getElem_toArray, List.getElem_cons_zero, List.getElem_cons_succ, List.setIfInBounds_toArray, List.set_cons_zero, List.set_cons_succ]
          refine wpAnyH_take (i := 10) (v := ?_) rfl (by kernel_rfl) (by kernel_rfl) (by kernel_rfl) (fun _ _ _ h => h) (Or.inl ⟨by rfl, ?_⟩) hHeld ?_
          rotate_left
          · (intro w hSw; (try dsimp only at hSw); go_simp; try (with_reducible rfl))
          simp only [Act.put, List.getElem_toArray, List.getElem_cons_zero, List.getElem_cons_succ, List.setIfInBounds_toArray, List.set_cons_zero, List.set_cons_succ]
          refine wpAnyH_take (i := 11) (v := ?_) rfl (by kernel_rfl) (by kernel_rfl) (by kernel_rfl) (fun _ _ _ h => h) (Or.inl ⟨by rfl, ?_⟩) hHeld ?_
          rotate_left
          · (intro w hSw; (try dsimp only at hSw); go_simp; try (with_reducible rfl))
          simp only [Act.put, List.getElem_toArray, List.getElem_cons_zero, List.getElem_cons_succ, List.setIfInBounds_toArray, List.set_cons_zero, List.set_cons_succ]
          refine wpAnyH_take (i := 14) (v := ?_) rfl (by kernel_rfl) (by kernel_rfl) (by kernel_rfl) (fun _ _ _ h => h) (Or.inl ⟨by rfl, ?_⟩) hHeld ?_
          rotate_left
          · (intro w hSw; (try dsimp only at hSw); go_simp; try (with_reducible rfl))
          simp only [Act.put, List.getElem_toArray, List.getElem_cons_zero, List.getElem_cons_succ, List.setIfInBounds_toArray, List.set_cons_zero, List.set_cons_succ]
          refine wpAnyH_take (i := 15) (v := ?_) rfl (by kernel_rfl) (by kernel_rfl) (by kernel_rfl) (fun _ _ _ h => h) (Or.inl ⟨by rfl, ?_⟩) hHeld ?_
          rotate_left
          · (intro w hSw; (try dsimp only at hSw); go_simp; try (with_reducible rfl))
          simp only [Act.put, List.getElem_toArray, List.getElem_cons_zero, List.getElem_cons_succ, List.setIfInBounds_toArray, List.set_cons_zero, List.set_cons_succ]
          refine wpAnyH_take (i := 16) (v := ?_) rfl (by kernel_rfl) (by kernel_rfl) (by kernel_rfl) (fun _ _ _ h => h) (Or.inl ⟨by rfl, ?_⟩) hHeld ?_
          rotate_left
          · (intro w hSw; (try dsimp only at hSw); go_simp; try (with_reducible rfl))
          simp only [Act.put, List.getElem_toArray, List.getElem_cons_zero, List.getElem_cons_succ, List.setIfInBounds_toArray, List.set_cons_zero, List.set_cons_succ]
          refine wpAnyH_take (i := 17) (v := ?_) rfl (by kernel_rfl) (by kernel_rfl) (by kernel_rfl) (fun _ _ _ h => h) (Or.inl ⟨by rfl, ?_⟩) hHeld ?_
          rotate_left
          · (intro w hSw; (try dsimp only at hSw); go_simp; try (with_reducible rfl))
          simp only [Act.put, List.getElem_toArray, List.getElem_cons_zero, List.getElem_cons_succ, List.setIfInBounds_toArray, List.set_cons_zero, List.set_cons_succ]
          refine wpAnyH_ready (rs := [12]) (by kernel_rfl) (by simp) ?_
          refine AllReadyH.cons rfl (fun K hK => ?_) AllReadyH.nil
          go_simp
          refine (tran_any (st'.l.kept hHeld.1 (fun _ _ h => h)) 0 (.inl rfl)).mono ?_
          rintro e w10 ⟨v10, rfl, n10, k10⟩
          have hk10 := hHeld.1.trans k10 (fun _ h => .inl h)
          have cv10 := conv_new n10 w10 (Kept.refl _ _)
          rw [show (L.drop 1).sent 0 = L.sent 0 from rfl] at cv10
          go_wp2_with fail
          refine hK.out _ _ (SALL.out _ hk10) (fun hHeld => ?_)
          clear hK K
          try simp only [Act.put, List.getElem_toArray, List.getElem_cons_zero, List.getElem_cons_succ, List.setIfInBounds_toArray, List.set_cons_zero, List.set_cons_succ]
          refine wpAnyH_ready (rs := [13]) (by kernel_rfl) (by simp) ?_
          refine AllReadyH.cons rfl (fun K hK => ?_) AllReadyH.nil
          go_simp
          refine hK.out _ _ (SALL.out _ hk10) (fun hHeld => ?_)
          clear hK K
          try simp only [Act.put, List.getElem_toArray, List.getElem_cons_zero, List.getElem_cons_succ, List.setIfInBounds_toArray, List.set_cons_zero, List.set_cons_succ]
          refine wpAnyH_take (i := 18) (v := ?_) rfl (by kernel_rfl) (by kernel_rfl) (by kernel_rfl) (fun _ _ _ h => h) (Or.inl ⟨by rfl, ?_⟩) hHeld ?_
          rotate_left
          · (intro w hSw; (try dsimp only at hSw); go_simp; try (with_reducible rfl))
          simp only [Act.put, List.getElem_toArray, List.getElem_cons_zero, List.getElem_cons_succ, List.setIfInBounds_toArray, List.set_cons_zero, List.set_cons_succ]
          refine wpAnyH_take (i := 19) (v := ?_) rfl (by kernel_rfl) (by kernel_rfl) (by kernel_rfl) (fun _ _ _ h => h) (Or.inl ⟨by rfl, ?_⟩) hHeld ?_
          rotate_left
          · (intro w hSw; (try dsimp only at hSw); go_simp; try (with_reducible rfl))
          simp only [Act.put, List.getElem_toArray, List.getElem_cons_zero, List.getElem_cons_succ, List.setIfInBounds_toArray, List.set_cons_zero, List.set_cons_succ]
          refine wpAnyH_done (by kernel_rfl) ?_ _
          refine NoPanic.normal ?_
          go_wp2_with fail
          go_roundw
          case rel => exact ⟨1, _, _, _, _, _, _, by omega, rfl, st'.quiet hk10, bw9.trans ((nof_below hk10).mono bw9.size)⟩
          case measure => simp [intOf]
        · obtain ⟨v0, v1, rg⟩ := st.g
          have H7 := Lib.hid (recv_any st.l 0 (.inl rfl))
          go_wp2_with fail
          refine H7.out.mono ?_
          clear H7
          rintro e w7 ⟨v7, rfl, n7, l7, k7⟩
          obtain ⟨g7, rfl, hg7, hl7, r7⟩ := n7.reads
          have rg7 := rg.kept k7 (fun x h1 h2 => st.t.FQ x h2 h1)
          obtain ⟨Av, cv, hv, _⟩ := own_form rg7.o1
          subst hv
          have hlw := (pair_len st.l.isok)
          have hgl : g1.length ≤ 1073741824 := by have := congrArg List.length st.e1; rw [List.length_append] at this; omega
          have kc : w7.cell? ⟨w3.heap.size + 1, 1, none⟩ = some (.slice Av g1.length cv) := (rg7.blk.cell 1).trans rfl
          have tok : True := trivial
          go_wp2_with (at_builtin; have _t := tok; refine wpList_append_any _ rfl (.tmp 153) (.tmp 154) _ rfl 0 5 i0 _ 1 1 Try.underlying22 hi0 hz0 hz1 hz2 rfl (by omega) (.slice Av g1.length cv) g1.length (bvs g1) rfl rg7.o1 _ (some ⟨g7, 0, none⟩) (L.wait 0).length (L.wait 0).length (bvs (L.wait 0)) rfl r7 (bvs_one _) (by simp only [maxLen]; omega) (by omega) (Nat.zero_le _) ?_; intro v8 w8 own8 g8 at8; obtain ⟨A8, c8, hv8, _⟩ := own_form own8; rw [hv8] at own8 at8 ⊢; have b8 := rg7.blk.grown g8 (own_blk_ne rg7.o1 rg7.blk (by decide)).symm; have kc8 : w8.cell? ⟨w3.heap.size + 1, 1, none⟩ = some (.slice Av g1.length cv) := (b8.cell 1).trans rfl; have z8 : w8.frozen? ⟨w3.heap.size + 1, 1, none⟩ = false := b8.frozen 1; clear tok)
          obtain ⟨rg9, kw9⟩ := PRep.app1 (ys := L.wait 0) rg7 (by simp) own8 g8 at8
          have bw7 : Below w.heap.size w w7 := bw.trans (k7.below bw.size st.t.gF)
          have st' := recv_state0 st l7 k7 rg9 kw9 bw7.size
          have bw9 := bw7.trans (kw9.below bw7.size st.t.gQ)
          clear kc8 z8 b8 kc
          generalize w8.setCell ⟨w3.heap.size + 1, 1, none⟩ (Value.slice A8 (g1.length + (L.wait 0).length) c8) = w9 at rg9 kw9 st' bw9 ⊢
          obtain ⟨Ag, cg, hg⟩ := pair_row1 st'.g
          rw [st.e1] at hg
          obtain ⟨As, cs, hs⟩ := pair_row1 st'.s
          have hs' : ∀ W, Kept NoF w9 W → W.cell? ⟨w3.heap.size, 1, none⟩ = some (.slice As (L.sent 1).length cs) ∧ (convert 22 9 (.slice As (L.sent 1).length cs)).run Try.prog W = .ok (.string (ba (L.sent 1))) W := hs
          have SALL := Lib.hid (fun W (kW : Kept NoF w9 W) => And.intro kW (And.intro (hg W kW).1 (And.intro (hs' W kW).1 (And.intro (hg W kW).2 (hs' W kW).2))))
          clear hg hs hs'
          go_wp2_with fail
          refine wp_region_noPanic ?_
          refine wp_region_held_drew (S := fun w' => Kept NoF w9 w' ∧ w'.cell? ⟨w3.heap.size + 1, 1, none⟩ = some (.slice Ag (L.sent 1).length cg) ∧ w'.cell? ⟨w3.heap.size, 1, none⟩ = some (.slice As (L.sent 1).length cs) ∧ (convert 22 9 (.slice Ag (L.sent 1).length cg)).run Try.prog w' = .ok (.string (ba (L.sent 1))) w' ∧ (convert 22 9 (.slice As (L.sent 1).length cs)).run Try.prog w' = .ok (.string (ba (L.sent 1))) w') (by kernel_rfl) ?_ (fun hHeld => ?_)
          · exact (SALL.out _ (Kept.refl NoF w9).drew)
          refine wpAnyH_take (i := 0) (v := ?_) rfl (by kernel_rfl) (by kernel_rfl) (by kernel_rfl) (fun _ _ _ h => h) (Or.inl ⟨by rfl, ?_⟩) hHeld ?_
          rotate_left
          · (intro w hSw; (try dsimp only at hSw); go_simp; try (with_reducible rfl))
          simp only [Act.put, List.getElem_toArray, List.getElem_cons_zero, List.setIfInBounds_toArray, List.set_cons_zero, List.set_cons_succ]
          refine wpAnyH_take (i := 1) (v := ?_) rfl (by kernel_rfl) (by kernel_rfl) (by kernel_rfl) (fun _ _ _ h => h) (Or.inl ⟨by rfl, ?_⟩) hHeld ?_
          rotate_left
          · (intro w hSw; (try dsimp only at hSw); go_simp; try (with_reducible rfl))
          simp only [Act.put, List.getElem_toArray, List.getElem_cons_zero, List.getElem_cons_succ, List.setIfInBounds_toArray, List.set_cons_zero, List.set_cons_succ]
          refine wpAnyH_take (i := 2) (v := ?_) rfl (by kernel_rfl) (by kernel_rfl) (by kernel_rfl) (fun _ _ _ h => h) (Or.inl ⟨by rfl, ?_⟩) hHeld ?_
          rotate_left
          · (intro w hSw; (try dsimp only at hSw); go_simp; try (with_reducible rfl))
          simp only [Act.put, List.getElem_toArray, List.getElem_cons_zero, List.getElem_cons_succ, List.setIfInBounds_toArray, List.set_cons_zero, List.set_cons_succ]
          refine wpAnyH_take (i := 3) (v := ?_) rfl (by kernel_rfl) (by kernel_rfl) (by kernel_rfl) (fun _ _ _ h => h) (Or.inl ⟨by rfl, ?_⟩) hHeld ?_
          rotate_left
          · (intro w hSw; (try dsimp only at hSw); go_simp; try (with_reducible rfl))
          simp only [Act.put, List.getElem_toArray, List.getElem_cons_zero, List.getElem_cons_succ, List.setIfInBounds_toArray, List.set_cons_zero, List.set_cons_succ]
          refine wpAnyH_take (i := 4) (v := ?_) rfl (by kernel_rfl) (by kernel_rfl) (by kernel_rfl) (fun _ _ _ h => h) (Or.inl ⟨by rfl, ?_⟩) hHeld ?_
          rotate_left
          · (intro w hSw; (try dsimp only at hSw); go_simp; try (with_reducible rfl))
          simp only [Act.put, List.getElem_toArray, List.getElem_cons_zero, List.getElem_cons_succ, List.setIfInBounds_toArray, List.set_cons_zero, List.set_cons_succ]
          refine wpAnyH_take (i := 5) (v := ?_) rfl (by kernel_rfl) (by kernel_rfl) (by kernel_rfl) (fun _ _ _ h => h) (Or.inl ⟨by rfl, ?_⟩) hHeld ?_
          rotate_left
          · (intro w hSw; (try dsimp only at hSw); go_simp; try (with_reducible rfl))
          simp only [Act.put, List.getElem_toArray, List.getElem_cons_zero, List.getElem_cons_succ, List.setIfInBounds_toArray, List.set_cons_zero, List.set_cons_succ]
          refine wpAnyH_take (i := 6) (v := ?_) rfl (by kernel_rfl) (by kernel_rfl) (by kernel_rfl) (fun _ _ _ h => h) (Or.inl ⟨by rfl, ?_⟩) hHeld ?_
          rotate_left
          · (intro w hSw; (try dsimp only at hSw); go_simp; try (with_reducible rfl))
          simp only [Act.put, List.getElem_toArray, List.getElem_cons_zero, List.getElem_cons_succ, List.setIfInBounds_toArray, List.set_cons_zero, List.set_cons_succ]
          refine wpAnyH_take (i := 7) (v := ?_) rfl (by kernel_rfl) (by kernel_rfl) (by kernel_rfl) (fun _ _ _ h => h) (Or.inl ⟨by rfl, ?_⟩) hHeld ?_
          rotate_left
          · (intro w hSw; (try dsimp only at hSw); go_simp; try (with_reducible rfl))
          simp only [Act.put, List.getElem_toArray, List.getElem_cons_zero, List.getElem_cons_succ, List.setIfInBounds_toArray, List.set_cons_zero, List.set_cons_succ]
          refine wpAnyH_take (i := 8) (v := ?_) rfl (by kernel_rfl) (by kernel_rfl) (by kernel_rfl) (fun _ _ _ h => h) (Or.inl ⟨by rfl, ?_⟩) hHeld ?_
          rotate_left
          · (intro w hSw; (try dsimp only at hSw); go_simp; try (with_reducible rfl))
          simp only [Act.put, List.getElem_toArray, List.getElem_cons_zero, List.getElem_cons_succ, List.setIfInBounds_toArray, List.set_cons_zero, List.set_cons_succ]
          refine wpAnyH_take (i := 9) (v := ?_) rfl (by kernel_rfl) (by kernel_rfl) (by kernel_rfl) (fun _ _ _ h => h) (Or.inl ⟨by rfl, ?_⟩) hHeld ?_
          rotate_left
          · (intro w hSw; (try dsimp only at hSw); go_simp; try (with_reducible rfl))
          simp only [Act.put, List.getElem_toArray, List.getElem_cons_zero, List.getElem_cons_succ, List.setIfInBounds_toArray, List.set_cons_zero, List.set_cons_succ]
          refine wpAnyH_take (i := 10) (v := ?_) rfl (by kernel_rfl) (by kernel_rfl) (by kernel_rfl) (fun _ _ _ h => h) (Or.inl ⟨by rfl, ?_⟩) hHeld ?_
          rotate_left
          · (intro w hSw; (try dsimp only at hSw); go_simp; try (with_reducible rfl))
          simp only [Act.put, List.getElem_toArray, List.getElem_cons_zero, List.getElem_cons_succ, List.setIfInBounds_toArray, List.set_cons_zero, List.set_cons_succ]
          refine wpAnyH_take (i := 11) (v := ?_) rfl (by kernel_rfl) (by kernel_rfl) (by kernel_rfl) (fun _ _ _ h => h) (Or.inl ⟨by rfl, ?_⟩) hHeld ?_
          rotate_left
          · (intro w hSw; (try dsimp only at hSw); go_simp; try (with_reducible rfl))
          simp only [Act.put, List.getElem_toArray, List.getElem_cons_zero, List.getElem_cons_succ, List.setIfInBounds_toArray, List.set_cons_zero, List.set_cons_succ]
          refine wpAnyH_take (i := 14) (v := ?_) rfl (by kernel_rfl) (by kernel_rfl) (by kernel_rfl) (fun _ _ _ h => h) (Or.inl ⟨by rfl, ?_⟩) hHeld ?_
          rotate_left
          · (intro w hSw; (try dsimp only at hSw); go_simp; try (with_reducible rfl))
          simp only [Act.put, List.getElem_toArray, List.getElem_cons_zero, List.getElem_cons_succ, List.setIfInBounds_toArray, List.set_cons_zero, List.set_cons_succ]
          refine wpAnyH_take (i := 15) (v := ?_) rfl (by kernel_rfl) (by kernel_rfl) (by kernel_rfl) (fun _ _ _ h => h) (Or.inl ⟨by rfl, ?_⟩) hHeld ?_
          rotate_left
          · (intro w hSw; (try dsimp only at hSw); go_simp; try (with_reducible rfl))
          simp only [Act.put, List.getElem_toArray, List.getElem_cons_zero, List.getElem_cons_succ, List.setIfInBounds_toArray, List.set_cons_zero, List.set_cons_succ]
          refine wpAnyH_take (i := 16) (v := ?_) rfl (by kernel_rfl) (by kernel_rfl) (by kernel_rfl) (fun _ _ _ h => h) (Or.inl ⟨by rfl, ?_⟩) hHeld ?_
          rotate_left
          · (intro w hSw; (try dsimp only at hSw); go_simp; try (with_reducible rfl))
          simp only [Act.put, List.getElem_toArray, List.getElem_cons_zero, List.getElem_cons_succ, List.setIfInBounds_toArray, List.set_cons_zero, List.set_cons_succ]
          refine wpAnyH_take (i := 17) (v := ?_) rfl (by kernel_rfl) (by kernel_rfl) (by kernel_rfl) (fun _ _ _ h => h) (Or.inl ⟨by rfl, ?_⟩) hHeld ?_
          rotate_left
          · (intro w hSw; (try dsimp only at hSw); go_simp; try (with_reducible rfl))
          simp only [Act.put, List.getElem_toArray, List.getElem_cons_zero, List.getElem_cons_succ, List.setIfInBounds_toArray, List.set_cons_zero, List.set_cons_succ]
          refine wpAnyH_ready (rs := [12]) (by kernel_rfl) (by simp) ?_
          refine AllReadyH.cons rfl (fun K hK => ?_) AllReadyH.nil
          go_simp
          refine (tran_any (st'.l.kept hHeld.1 (fun _ _ h => h)) 1 (.inr rfl)).mono ?_
          rintro e w10 ⟨v10, rfl, n10, k10⟩
          have hk10 := hHeld.1.trans k10 (fun _ h => .inl h)
          have cv10 := conv_new n10 w10 (Kept.refl _ _)
          rw [show (L.drop 0).sent 1 = L.sent 1 from rfl] at cv10
          go_wp2_with fail
          refine hK.out _ _ (SALL.out _ hk10) (fun hHeld => ?_)
          clear hK K
          try simp only [Act.put, List.getElem_toArray, List.getElem_cons_zero, List.getElem_cons_succ, List.setIfInBounds_toArray, List.set_cons_zero, List.set_cons_succ]
          refine wpAnyH_ready (rs := [13]) (by kernel_rfl) (by simp) ?_
          refine AllReadyH.cons rfl (fun K hK => ?_) AllReadyH.nil
          go_simp
          refine hK.out _ _ (SALL.out _ hk10) (fun hHeld => ?_)
          clear hK K
          try simp only [Act.put, List.getElem_toArray, List.getElem_cons_zero, List.getElem_cons_succ, List.setIfInBounds_toArray, List.set_cons_zero, List.set_cons_succ]
          refine wpAnyH_take (i := 18) (v := ?_) rfl (by kernel_rfl) (by kernel_rfl) (by kernel_rfl) (fun _ _ _ h => h) (Or.inl ⟨by rfl, ?_⟩) hHeld ?_
          rotate_left
          · (intro w hSw; (try dsimp only at hSw); go_simp; try (with_reducible rfl))
          simp only [Act.put, List.getElem_toArray, List.getElem_cons_zero, List.getElem_cons_succ, List.setIfInBounds_toArray, List.set_cons_zero, List.set_cons_succ]
          refine wpAnyH_take (i := 19) (v := ?_) rfl (by kernel_rfl) (by kernel_rfl) (by kernel_rfl) (fun _ _ _ h => h) (Or.inl ⟨by rfl, ?_⟩) hHeld ?_
          rotate_left
          · (intro w hSw; (try dsimp only at hSw); go_simp; try (with_reducible rfl))
          simp only [Act.put, List.getElem_toArray, List.getElem_cons_zero, List.getElem_cons_succ, List.setIfInBounds_toArray, List.set_cons_zero, List.set_cons_succ]
          refine wpAnyH_done (by kernel_rfl) ?_ _
          refine NoPanic.normal ?_
          go_wp2_with fail
          go_roundw
          case rel => exact ⟨2, _, _, _, _, _, _, by omega, rfl, st'.quiet hk10, bw9.trans ((nof_below hk10).mono bw9.size)⟩
          case measure => simp [intOf]
        · rcases st.wh with rfl | hwh
          · go_wp2_with fail
            go_ret
            exact ⟨rfl, bw⟩
          · cases wh
            · have D := down_link st.l
              rcases Bool.eq_false_or_eq_true L.down with hd | hd
              · rw [hd] at D
                have HD := Lib.hid D
                clear D hd hwh
                go_wp2_with fail
                refine HD.out.mono ?_
                rintro e w5 ⟨rfl, rfl⟩
                go_wp2_with fail
                go_ret
                exact ⟨rfl, bw⟩
              · have hl : L.budget - L.total < 300 := by rcases hwh with h | h; (rw [hd] at h; cases h); exact h
                rw [hd] at D
                have HD := Lib.hid D
                have HL := Lib.hid (left_kept st.l)
                have hld : decide (L.budget - L.total < 300) = true := by simpa using hl
                clear D hd hwh
                go_wp2_with fail
                refine HD.out.mono ?_
                rintro e w5 ⟨rfl, rfl⟩
                go_wp2_with fail
                refine HL.out.mono ?_
                rintro e w6 ⟨rfl, k6⟩
                go_wp2_with fail
                go_ret
                exact ⟨rfl, bw.trans ((nof_below k6).mono bw.size)⟩
            · go_wp2_with fail
              go_ret
              exact ⟨rfl, bw⟩


end Go.Proofs.Ytchchgdkejolaaa
