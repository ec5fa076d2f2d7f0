/- What the calls on a link compute, in plain Lean. -/
import Derived.Test.YtchchgdkejolaaaSend
namespace Go.Proofs.Ytchchgdkejolaaa

def LS.total (L : LS) : Int := (L.s0.length : Int) + L.s1.length
def LS.put (L : LS) (side : Int) (ys : List UInt8) (d : Bool) : LS := if side = 0 then L.put0 ys d else L.put1 ys d
def LS.fresh (b c : Int) : LS := ⟨[], [], [], [], b, c, false⟩
def LS.sent (L : LS) (side : Int) : List UInt8 := if side = 0 then L.s0 else if side = 1 then L.s1 else []
def LS.wait (L : LS) (side : Int) : List UInt8 := if side = 0 then L.w0 else if side = 1 then L.w1 else []
def LS.drop (L : LS) (side : Int) : LS := if side = 0 then { L with w0 := [] } else if side = 1 then { L with w1 := [] } else L
def IsSide (n : Int) : Prop := n = 0 ∨ n = 1
instance (n : Int) : Decidable (IsSide n) := by unfold IsSide; infer_instance

def LS.send (L : LS) (side : Int) (xs : List UInt8) : LS × Int × Int :=
  if IsSide side then
    if L.down = true then (L, 0, 15)
    else if L.budget - L.total < xs.length then (L, 0, 7)
    else if 0 ≤ L.cut ∧ L.cut - L.total < xs.length then (L.put side (xs.take (L.cut - L.total).toNat) true, L.cut - L.total, 15)
    else (L.put side xs false, xs.length, 0)
  else (L, 0, 1)

theorem LS.fresh_ok (b c : Int) (h0 : 0 ≤ b) (h1 : b ≤ 1073741824) (l0 : -9223372036854775808 ≤ c) (l1 : c ≤ 9223372036854775807) : (LS.fresh b c).ok := by
  refine ⟨h0, h1, ?_, l0, l1, ?_, ?_, ?_⟩ <;> simp [LS.fresh]
  exact h0

theorem LS.drop_ok {L : LS} (h : L.ok) (side : Int) : (L.drop side).ok := by
  unfold LS.drop
  split
  · exact ⟨h.b0, h.b1, h.tot, h.c0, h.c1, by simp, h.q1, h.cuts⟩
  · split
    · exact ⟨h.b0, h.b1, h.tot, h.c0, h.c1, h.q0, by simp, h.cuts⟩
    · exact h

theorem drop_total (L : LS) (k : Int) : (L.drop k).total = L.total := by unfold LS.drop; split; rfl; split <;> rfl
theorem drop_budget (L : LS) (k : Int) : (L.drop k).budget = L.budget := by unfold LS.drop; split; rfl; split <;> rfl
theorem drop_down (L : LS) (k : Int) : (L.drop k).down = L.down := by unfold LS.drop; split; rfl; split <;> rfl
theorem drop_cut (L : LS) (k : Int) : (L.drop k).cut = L.cut := by unfold LS.drop; split; rfl; split <;> rfl
theorem drop_sent (L : LS) (k j : Int) : (L.drop k).sent j = L.sent j := by unfold LS.drop; split; rfl; split <;> rfl

theorem LS.put_ok {L : LS} (h : L.ok) (side : Int) (ys : List UInt8) (d : Bool) (hb : L.total + ys.length ≤ L.budget) (hc : 0 ≤ L.cut → L.total + ys.length ≤ L.cut) : (L.put side ys d).ok := by
  have := h.tot
  have q0 := h.q0
  have q1 := h.q1
  unfold LS.total at hb hc
  unfold LS.put
  split
  · refine ⟨h.b0, h.b1, ?_, h.c0, h.c1, h.q0, ?_, ?_⟩ <;> simp only [LS.put0, List.length_append] <;> omega
  · refine ⟨h.b0, h.b1, ?_, h.c0, h.c1, ?_, h.q1, ?_⟩ <;> simp only [LS.put1, List.length_append] <;> omega

theorem LS.send_ok {L : LS} (h : L.ok) (side : Int) (xs : List UInt8) : (L.send side xs).1.ok := by
  have ht := h.tot
  have hc := h.cuts
  unfold LS.send
  split
  · split
    · exact h
    · split
      · exact h
      · rename_i hf
        split
        · rename_i hcut
          refine LS.put_ok h _ _ _ ?_ ?_
          · rw [List.length_take]; unfold LS.total at *; omega
          · intro _; rw [List.length_take]; unfold LS.total at *; omega
        · rename_i hcut
          refine LS.put_ok h _ _ _ ?_ ?_
          · unfold LS.total at *; omega
          · intro h0
            have : ¬ (L.cut - L.total < xs.length) := fun hh => hcut ⟨h0, hh⟩
            unfold LS.total at *; omega
  · exact h

end Go.Proofs.Ytchchgdkejolaaa
