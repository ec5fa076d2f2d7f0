/- The contract of Spoil at plain functions. -/
import Derived.Test.YtchchgdkejolaaaCalls
namespace Go.Proofs.Ytchchgdkejolaaa
open Go.RowKit

def LS.spoiled (L : LS) (side : Int) (j : Nat) (m : UInt8) : LS :=
  if side = 0 then { L with w0 := L.w0.set j (L.w0.getD j 0 ^^^ m) } else { L with w1 := L.w1.set j (L.w1.getD j 0 ^^^ m) }

def LS.spoil (L : LS) (side n : Int) (m : UInt8) : LS × Int :=
  if ¬ IsSide side ∨ n < 0 then (L, 1) else if ((L.wait side).length : Int) ≤ n then (L, 4) else (L.spoiled side n.toNat m, 0)

theorem LS.spoiled_ok {L : LS} (h : L.ok) (side : Int) (j : Nat) (m : UInt8) : (L.spoiled side j m).ok := by
  unfold LS.spoiled
  split
  · exact ⟨h.b0, h.b1, h.tot, h.c0, h.c1, by simpa using h.q0, h.q1, h.cuts⟩
  · exact ⟨h.b0, h.b1, h.tot, h.c0, h.c1, h.q0, by simpa using h.q1, h.cuts⟩

theorem LS.spoil_ok {L : LS} (h : L.ok) (side n : Int) (m : UInt8) : (L.spoil side n m).1.ok := by
  unfold LS.spoil
  split
  · exact h
  · split
    · exact h
    · exact LS.spoiled_ok h _ _ _

theorem spoil_link {F : Nat → Prop} {p : Nat} {L : LS} {w : World} (h : LinkAt w F p L) (side n : Int) (m : UInt8) :
    Calls Try.prog 19 #[.pointer (some ⟨p, 0, none⟩), .int .i64 side, .int .i64 n, .int .u8 (m.toNat : Int)] w fun e w' => e = .returned (.int .i64 (L.spoil side n m).2) ∧ LinkAt w' F p (L.spoil side n m).1 ∧ Kept F w w' := by
  have hsok := LS.spoil_ok h.isok side n m
  have hl := h
  obtain ⟨hok, v0, v1, v2, v3, r⟩ := h
  unfold LS.spoil at hsok ⊢
  by_cases hs : IsSide side
  · by_cases hn : n < 0
    · rw [if_pos (.inr hn)] at hsok ⊢
      refine (spoil_neg _ side n _ w hs hn).mono ?_
      rintro e w' ⟨rfl, rfl⟩
      exact ⟨rfl, hl, Kept.refl _ _⟩
    · have hcond : ¬ (¬ IsSide side ∨ n < 0) := fun h => by rcases h with h | h; exact h hs; exact hn h
      rw [if_neg hcond] at hsok ⊢
      by_cases hlen : ((L.wait side).length : Int) ≤ n
      · rw [if_pos hlen] at hsok ⊢
        rcases hs with rfl | rfl
        · obtain ⟨A, c, rfl, _⟩ := own_form r.o1
          refine (spoil_out0 p _ c A n _ w ((r.blk.cell 1).trans rfl) (by omega) hlen).mono ?_
          rintro e w' ⟨rfl, rfl⟩
          exact ⟨rfl, hl, Kept.refl _ _⟩
        · obtain ⟨A, c, rfl, _⟩ := own_form r.o3
          refine (spoil_out1 p _ c A n _ w ((r.blk.cell 3).trans rfl) (by omega) hlen).mono ?_
          rintro e w' ⟨rfl, rfl⟩
          exact ⟨rfl, hl, Kept.refl _ _⟩
      · rw [if_neg hlen] at hsok ⊢
        obtain ⟨j, rfl⟩ : ∃ j : Nat, n = (j : Int) := ⟨n.toNat, by omega⟩
        simp only [Int.toNat_natCast] at hsok ⊢
        rcases hs with rfl | rfl
        · have hj : j < L.w0.length := by simp only [LS.wait, if_true] at hlen; omega
          refine (spoil0 hok r j m hj).mono ?_
          rintro e w' ⟨rfl, ⟨a0, a1, a2, a3, r'⟩, k⟩
          have e : L.w0.getD j 0 = L.w0[j] := by simp [List.getD, hj]
          refine ⟨rfl, ⟨hsok, a0, a1, a2, a3, ?_⟩, k⟩
          simp only [LS.spoiled, if_true, e]
          exact r'
        · have hj : j < L.w1.length := by simp only [LS.wait, show ¬ ((1 : Int) = 0) by decide, if_false, if_true] at hlen; omega
          refine (spoil1 hok r j m hj).mono ?_
          rintro e w' ⟨rfl, ⟨a0, a1, a2, a3, r'⟩, k⟩
          have e : L.w1.getD j 0 = L.w1[j] := by simp [List.getD, hj]
          refine ⟨rfl, ⟨hsok, a0, a1, a2, a3, ?_⟩, k⟩
          simp only [LS.spoiled, show ¬ ((1 : Int) = 0) by decide, if_false, e]
          exact r'
  · rw [if_pos (.inl hs)] at hsok ⊢
    refine (spoil_no _ side n _ w (beq_no hs).1 (beq_no hs).2).mono ?_
    rintro e w' ⟨rfl, rfl⟩
    exact ⟨rfl, hl, Kept.refl _ _⟩

end Go.Proofs.Ytchchgdkejolaaa
