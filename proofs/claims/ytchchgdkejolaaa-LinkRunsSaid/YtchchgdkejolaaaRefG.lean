/- The reference's calls: their contracts. -/
import Derived.Test.YtchchgdkejolaaaRefF
namespace Go.Proofs.Ytchchgdkejolaaa
open Go.RowKit

def RSendPost (F : Nat → Prop) (S : LS × Int × Int) (w : World) (e : Ending) (w' : World) : Prop :=
  ∃ r' : RV, e = .returned (.tuple #[.agg (r'.cells S.1), .int .i64 S.2.1, .int .i64 S.2.2]) ∧ RefOk w' F S.1 r' ∧ Kept NoF w w'

theorem rsend_any {F : Nat → Prop} {L : LS} {r : RV} {w : World} (hok : L.ok) (hr : RefOk w F L r) (hF : ∀ k, F k → k < w.heap.size) (side : Int) (X : Option Addr) (cx n : Nat) (xs : List UInt8) (hn : n = xs.length)
    (hx : Reads w w.heap.size 1 X xs.length (bvs xs)) :
    Calls Try.prog 21 #[.agg (r.cells L), .int .i64 side, .slice X n cx] w (RSendPost F (L.send side xs) w) := by
  subst hn
  by_cases hs : IsSide side
  · by_cases hd : L.down = true
    · have he : L.send side xs = (L, 0, 15) := by unfold LS.send; rw [if_pos hs, if_pos hd]
      rw [he]
      refine (rsend_down side _ r L w hs hd).mono ?_
      rintro e w' ⟨rfl, k⟩
      exact ⟨r, rfl, hr.keptN k, k⟩
    · have hd' : L.down = false := by simpa using hd
      by_cases hf : L.budget - L.total < xs.length
      · have he : L.send side xs = (L, 0, 7) := by unfold LS.send; rw [if_pos hs, if_neg hd, if_pos hf]
        rw [he]
        refine (rsend_full side X xs.length cx r L w hok hs hd' hf).mono ?_
        rintro e w' ⟨rfl, k⟩
        exact ⟨r, rfl, hr.keptN k, k⟩
      · have hf' : (xs.length : Int) ≤ L.budget - ((L.s0.length : Int) + L.s1.length) := by unfold LS.total at hf; omega
        rcases hs with rfl | rfl
        · exact rsend_go0 X cx xs r L w hok hr hF hd' hx hf'
        · exact rsend_go1 X cx xs r L w hok hr hF hd' hx hf'
  · have he : L.send side xs = (L, 0, 1) := by unfold LS.send; rw [if_neg hs]
    rw [he]
    refine (rsend_no side _ r L w (beq_no hs).1 (beq_no hs).2).mono ?_
    rintro e w' ⟨rfl, k⟩
    exact ⟨r, rfl, hr.keptN k, k⟩

/-- What Receive answers besides the bytes. -/
def codeOf (side : Int) : Int := if IsSide side then 0 else 1

def RRecvPost (F : Nat → Prop) (L : LS) (side : Int) (w : World) (e : Ending) (w' : World) : Prop :=
  ∃ (r' : RV) (A : Option Addr) (c : Nat), e = .returned (.tuple #[.agg (r'.cells (L.drop side)), .slice A (L.wait side).length c, .int .i64 (codeOf side)]) ∧ Src w' F A (L.wait side) ∧ RefOk w' F (L.drop side) r' ∧ Kept NoF w w'

theorem rrecv_any {F : Nat → Prop} {L : LS} {r : RV} {w : World} (hr : RefOk w F L r) (side : Int) :
    Calls Try.prog 22 #[.agg (r.cells L), .int .i64 side] w (RRecvPost F L side w) := by
  by_cases hs : IsSide side
  · have hc : codeOf side = 0 := if_pos hs
    unfold RRecvPost
    rw [hc]
    rcases hs with rfl | rfl
    · refine (rrecv_0 r L w).mono ?_
      rintro e w' ⟨rfl, k⟩
      have h := hr.keptN k
      exact ⟨_, _, _, rfl, h.w0, ⟨h.s0, h.s1, Src.nil_ _ _, h.w1, Nat.le_refl _, h.b3⟩, k⟩
    · refine (rrecv_1 r L w).mono ?_
      rintro e w' ⟨rfl, k⟩
      have h := hr.keptN k
      exact ⟨_, _, _, rfl, h.w1, ⟨h.s0, h.s1, h.w0, Src.nil_ _ _, h.b2, Nat.le_refl _⟩, k⟩
  · have hc : codeOf side = 1 := if_neg hs
    have hs' := hs
    unfold IsSide at hs'
    have hd : L.drop side = L := by unfold LS.drop; rw [if_neg (fun h => hs' (.inl h)), if_neg (fun h => hs' (.inr h))]
    have hw : L.wait side = [] := by unfold LS.wait; rw [if_neg (fun h => hs' (.inl h)), if_neg (fun h => hs' (.inr h))]
    unfold RRecvPost
    rw [hc, hd, hw]
    refine (rrecv_no side r L w (beq_no hs).1 (beq_no hs).2).mono ?_
    rintro e w' ⟨rfl, k⟩
    exact ⟨r, none, 0, rfl, Src.nil_ _ _, hr.keptN k, k⟩

def RSpoilPost (F : Nat → Prop) (S : LS × Int) (w : World) (e : Ending) (w' : World) : Prop :=
  ∃ r' : RV, e = .returned (.tuple #[.agg (r'.cells S.1), .int .i64 S.2]) ∧ RefOk w' F S.1 r' ∧ Kept NoF w w'

theorem rspoil_any {F : Nat → Prop} {L : LS} {r : RV} {w : World} (hok : L.ok) (hr : RefOk w F L r) (hF : ∀ k, F k → k < w.heap.size) (side n : Int) (m : UInt8) :
    Calls Try.prog 23 #[.agg (r.cells L), .int .i64 side, .int .i64 n, .int .u8 (m.toNat : Int)] w (RSpoilPost F (L.spoil side n m) w) := by
  unfold LS.spoil
  by_cases hs : IsSide side
  · by_cases hn : n < 0
    · rw [if_pos (.inr hn)]
      refine (rspoil_neg side n _ r L w hs hn).mono ?_
      rintro e w' ⟨rfl, k⟩
      exact ⟨r, rfl, hr.keptN k, k⟩
    · have hcond : ¬ (¬ IsSide side ∨ n < 0) := fun h => by rcases h with h | h; exact h hs; exact hn h
      rw [if_neg hcond]
      by_cases hlen : ((L.wait side).length : Int) ≤ n
      · rw [if_pos hlen]
        rcases hs with rfl | rfl
        · refine (rspoil_out0 n _ r L w (by omega) hlen).mono ?_
          rintro e w' ⟨rfl, k⟩
          exact ⟨r, rfl, hr.keptN k, k⟩
        · refine (rspoil_out1 n _ r L w (by omega) hlen).mono ?_
          rintro e w' ⟨rfl, k⟩
          exact ⟨r, rfl, hr.keptN k, k⟩
      · rw [if_neg hlen]
        obtain ⟨j, rfl⟩ : ∃ j : Nat, n = (j : Int) := ⟨n.toNat, by omega⟩
        simp only [Int.toNat_natCast]
        rcases hs with rfl | rfl
        · exact rspoil_in0 j m r L w hok hr hF (by simp only [LS.wait, if_true] at hlen; omega)
        · exact rspoil_in1 j m r L w hok hr hF (by simp only [LS.wait, show ¬ ((1 : Int) = 0) by decide, if_false, if_true] at hlen; omega)
  · rw [if_pos (.inl hs)]
    refine (rspoil_no side n _ r L w (beq_no hs).1 (beq_no hs).2).mono ?_
    rintro e w' ⟨rfl, k⟩
    exact ⟨r, rfl, hr.keptN k, k⟩

/-- Receive on the link, from any side. -/
def LRecvPost (F : Nat → Prop) (p : Nat) (L : LS) (side : Int) (w : World) (e : Ending) (w' : World) : Prop :=
  ∃ (A : Option Addr) (c : Nat), e = .returned (.tuple #[.slice A (L.wait side).length c, .int .i64 (codeOf side)]) ∧ Reads w' w'.heap.size 1 A (L.wait side).length (bvs (L.wait side)) ∧ LinkAt w' F p (L.drop side) ∧ Kept F w w'

theorem lrecv_any {F : Nat → Prop} {p : Nat} {L : LS} {w : World} (h : LinkAt w F p L) (side : Int) :
    Calls Try.prog 13 #[.pointer (some ⟨p, 0, none⟩), .int .i64 side] w (LRecvPost F p L side w) := by
  unfold LRecvPost
  by_cases hs : IsSide side
  · have hc : codeOf side = 0 := if_pos hs
    rw [hc]
    refine (recv_any h side hs).mono ?_
    rintro e w' ⟨v, rfl, nr, l, k⟩
    obtain ⟨g, rfl, _, _, rd⟩ := nr.reads
    exact ⟨_, _, rfl, rd, l, k⟩
  · have hc : codeOf side = 1 := if_neg hs
    have hs' := hs
    unfold IsSide at hs'
    have hd : L.drop side = L := by unfold LS.drop; rw [if_neg (fun h => hs' (.inl h)), if_neg (fun h => hs' (.inr h))]
    have hw : L.wait side = [] := by unfold LS.wait; rw [if_neg (fun h => hs' (.inl h)), if_neg (fun h => hs' (.inr h))]
    rw [hc, hd, hw]
    refine (recv_no _ side w (beq_no hs).1 (beq_no hs).2).mono ?_
    rintro e w' ⟨rfl, rfl⟩
    exact ⟨none, 0, rfl, Reads.none_, h, Kept.refl _ _⟩

end Go.Proofs.Ytchchgdkejolaaa
