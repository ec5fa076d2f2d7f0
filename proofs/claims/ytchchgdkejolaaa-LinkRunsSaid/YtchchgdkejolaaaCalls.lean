/- The contracts of the calls on a link, at the plain functions of Pure. -/
import Derived.Test.YtchchgdkejolaaaPure
import Derived.Test.YtchchgdkejolaaaSendB0
import Derived.Test.YtchchgdkejolaaaSendB1
import Derived.Test.YtchchgdkejolaaaRecvB
import Derived.Test.YtchchgdkejolaaaSpoil
namespace Go.Proofs.Ytchchgdkejolaaa
open Go.RowKit

theorem LinkAt.isok {F : Nat → Prop} {w : World} {p : Nat} {L : LS} (h : LinkAt w F p L) : L.ok := h.1

def NewF (w : World) : Nat → Prop := fun k => k = w.heap.size

def NewPost (b c : Int) (w : World) (e : Ending) (w' : World) : Prop :=
  e = .returned (.tuple #[.pointer (some ⟨w.heap.size, 0, none⟩), .int .i64 0]) ∧ LinkAt w' (NewF w) w.heap.size (LS.fresh b c) ∧ Kept NoF w w' ∧ w'.heap.size = w.heap.size + 1

theorem new_any (b c : Int) (w : World) (h0 : 0 ≤ b) (h1 : b ≤ 1073741824) (l0 : -9223372036854775808 ≤ c) (l1 : c ≤ 9223372036854775807) :
    Calls Try.prog 10 #[.int .i64 b, .int .i64 c] w (NewPost b c w) := by
  refine (new_walk b c w h0 h1).mono ?_
  rintro e w' ⟨rfl, rfl⟩
  refine ⟨rfl, ⟨LS.fresh_ok b c h0 h1 l0 l1, _, _, _, _, ⟨Blk.new w 59 (newCells b c), World.ownsRow_nil _ _ _ _, World.ownsRow_nil _ _ _ _, World.ownsRow_nil _ _ _ _, World.ownsRow_nil _ _ _ _, rfl, ?_, ?_, ?_, ?_, ?_, ?_, ?_, ?_, ?_, ?_, ?_⟩⟩, (Kept.refl _ _).alloc _, by simp⟩
  all_goals first
    | (intro g hg; simp [Value.ownBlock] at hg; done)
    | (intro k hk; simp [NewF] at hk ⊢; omega)

def SentPost (F : Nat → Prop) (p : Nat) (r : LS × Int × Int) (w : World) (e : Ending) (w' : World) : Prop :=
  e = .returned (.tuple #[.int .i64 r.2.1, .int .i64 r.2.2]) ∧ LinkAt w' (More F w w') p r.1 ∧ Kept F w w'

theorem LinkAt.weaken {F G : Nat → Prop} {w : World} {p : Nat} {L : LS} (h : LinkAt w F p L) (hs : ∀ k, F k → G k) (hl : ∀ k, G k → k < w.heap.size) : LinkAt w G p L := by
  obtain ⟨hok, v0, v1, v2, v3, r⟩ := h
  exact ⟨hok, v0, v1, v2, v3, r.weaken hs hl⟩
theorem LinkAt.more {F : Nat → Prop} {w w' : World} {p : Nat} {L : LS} (h : LinkAt w' F p L) : LinkAt w' (More F w w') p L :=
  h.weaken (fun _ h => .inl h) (fun k hk => by rcases hk with hk | hk; exact h.lt k hk; exact hk.2)

theorem beq_no {n : Int} (h : ¬ IsSide n) : (n == 0) = false ∧ (n == 1) = false := by
  unfold IsSide at h
  constructor <;> simp <;> omega

theorem send_any {F : Nat → Prop} {p : Nat} {L : LS} {w : World} (h : LinkAt w F p L) (side : Int) (X : Option Addr) (c n : Nat) (xs : List UInt8) (hn : n = xs.length)
    (hx : Reads w w.heap.size 1 X xs.length (bvs xs)) (hF : ∀ ad, X = some ad → 0 < xs.length → ¬ F ad.block) (hc : xs.length ≤ c) :
    Calls Try.prog 12 #[.pointer (some ⟨p, 0, none⟩), .int .i64 side, .slice X n c] w (SentPost F p (L.send side xs) w) := by
  subst hn
  have hsok := LS.send_ok h.isok side xs
  have hl := h
  obtain ⟨hok, v0, v1, v2, v3, r⟩ := h
  have k6 : w.cell? ⟨p, 6, none⟩ = some (.bool L.down) := (r.blk.cell 6).trans rfl
  unfold LS.send at hsok ⊢
  by_cases hs : IsSide side
  · rw [if_pos hs] at hsok ⊢
    by_cases hd : L.down = true
    · rw [if_pos hd] at hsok ⊢
      rw [hd] at k6
      refine (send_down p side _ w hs k6).mono ?_
      rintro e w' ⟨rfl, rfl⟩
      exact ⟨rfl, hl.more, Kept.refl _ _⟩
    · rw [if_neg hd] at hsok ⊢
      have hd' : L.down = false := by simpa using hd
      by_cases hf : L.budget - L.total < xs.length
      · rw [if_pos hf] at hsok ⊢
        refine (send_full hok r side X _ c hs hd' hf).mono ?_
        rintro e w' ⟨rfl, k⟩
        exact ⟨rfl, (hl.kept k (fun _ _ h => h)).more, k.mono fun _ h => h.elim⟩
      · rw [if_neg hf] at hsok ⊢
        have hf' : (xs.length : Int) ≤ L.budget - ((L.s0.length : Int) + L.s1.length) := by unfold LS.total at hf; omega
        by_cases hcut : 0 ≤ L.cut ∧ L.cut - L.total < xs.length
        · rw [if_pos hcut] at hsok ⊢
          have hm : (((L.cut - L.total).toNat : Nat) : Int) = L.cut - ((L.s0.length : Int) + L.s1.length) := by have := hok.cuts hcut.1; unfold LS.total; omega
          unfold LS.put at hsok ⊢
          rcases hs with rfl | rfl
          · simp only [if_true] at hsok ⊢
            refine (send0_3 hok r X c xs hx hF hc hd' hf' _ hm hcut.1 (by unfold LS.total at hcut; omega)).mono ?_
            rintro e w' ⟨rfl, ⟨a0, a1, a2, a3, r'⟩, k⟩
            exact ⟨by rw [hm]; rfl, ⟨hsok, a0, a1, a2, a3, r'⟩, k⟩
          · simp only [show ¬ ((1 : Int) = 0) by decide, if_false] at hsok ⊢
            refine (send1_3 hok r X c xs hx hF hc hd' hf' _ hm hcut.1 (by unfold LS.total at hcut; omega)).mono ?_
            rintro e w' ⟨rfl, ⟨a0, a1, a2, a3, r'⟩, k⟩
            exact ⟨by rw [hm]; rfl, ⟨hsok, a0, a1, a2, a3, r'⟩, k⟩
        · rw [if_neg hcut] at hsok ⊢
          unfold LS.put at hsok ⊢
          by_cases hc0 : 0 ≤ L.cut
          · have hc1 : (xs.length : Int) ≤ L.cut - ((L.s0.length : Int) + L.s1.length) := by unfold LS.total at hcut; omega
            rcases hs with rfl | rfl
            · simp only [if_true] at hsok ⊢
              refine (send0_2 hok r X c xs hx hF hc hd' hf' hc0 hc1).mono ?_
              rintro e w' ⟨rfl, ⟨a0, a1, a2, a3, r'⟩, k⟩
              exact ⟨rfl, ⟨hsok, a0, a1, a2, a3, r'⟩, k⟩
            · simp only [show ¬ ((1 : Int) = 0) by decide, if_false] at hsok ⊢
              refine (send1_2 hok r X c xs hx hF hc hd' hf' hc0 hc1).mono ?_
              rintro e w' ⟨rfl, ⟨a0, a1, a2, a3, r'⟩, k⟩
              exact ⟨rfl, ⟨hsok, a0, a1, a2, a3, r'⟩, k⟩
          · have hc1 : L.cut < 0 := by omega
            rcases hs with rfl | rfl
            · simp only [if_true] at hsok ⊢
              refine (send0_1 hok r X c xs hx hF hc hd' hf' hc1).mono ?_
              rintro e w' ⟨rfl, ⟨a0, a1, a2, a3, r'⟩, k⟩
              exact ⟨rfl, ⟨hsok, a0, a1, a2, a3, r'⟩, k⟩
            · simp only [show ¬ ((1 : Int) = 0) by decide, if_false] at hsok ⊢
              refine (send1_1 hok r X c xs hx hF hc hd' hf' hc1).mono ?_
              rintro e w' ⟨rfl, ⟨a0, a1, a2, a3, r'⟩, k⟩
              exact ⟨rfl, ⟨hsok, a0, a1, a2, a3, r'⟩, k⟩
  · rw [if_neg hs]
    refine (send_no _ side _ w (beq_no hs).1 (beq_no hs).2).mono ?_
    rintro e w' ⟨rfl, rfl⟩
    exact ⟨rfl, hl.more, Kept.refl _ _⟩

/-- A slice that the call made, of the bytes xs. -/
def NewRow (w w' : World) (v : Value) (xs : List UInt8) : Prop := ∃ g, v = .slice (some ⟨g, 0, none⟩) xs.length xs.length ∧ w'.ownsRow w.heap.size 5 1 (.slice (some ⟨g, 0, none⟩) xs.length xs.length) xs.length (bvs xs)

def RecvdPost (F : Nat → Prop) (p : Nat) (L : LS) (side : Int) (w : World) (e : Ending) (w' : World) : Prop :=
  ∃ v, e = .returned (.tuple #[v, .int .i64 0]) ∧ NewRow w w' v (L.wait side) ∧ LinkAt w' F p (L.drop side) ∧ Kept F w w'

theorem recv_any {F : Nat → Prop} {p : Nat} {L : LS} {w : World} (h : LinkAt w F p L) (side : Int) (hs : IsSide side) :
    Calls Try.prog 13 #[.pointer (some ⟨p, 0, none⟩), .int .i64 side] w (RecvdPost F p L side w) := by
  have hdok := LS.drop_ok h.isok side
  obtain ⟨hok, v0, v1, v2, v3, r⟩ := h
  rcases hs with rfl | rfl
  · refine (recv0 hok r).mono ?_
    rintro e w' ⟨g, rfl, ow, ⟨a0, a1, a2, a3, r'⟩, k⟩
    exact ⟨_, rfl, ⟨g, rfl, ow⟩, ⟨hdok, a0, a1, a2, a3, r'⟩, k⟩
  · refine (recv1 hok r).mono ?_
    rintro e w' ⟨g, rfl, ow, ⟨a0, a1, a2, a3, r'⟩, k⟩
    exact ⟨_, rfl, ⟨g, rfl, ow⟩, ⟨hdok, a0, a1, a2, a3, r'⟩, k⟩

def TransPost (L : LS) (side : Int) (w : World) (e : Ending) (w' : World) : Prop :=
  ∃ v, e = .returned v ∧ NewRow w w' v (L.sent side) ∧ Kept NoF w w'

theorem tran_any {F : Nat → Prop} {p : Nat} {L : LS} {w : World} (h : LinkAt w F p L) (side : Int) (hs : IsSide side) :
    Calls Try.prog 18 #[.pointer (some ⟨p, 0, none⟩), .int .i64 side] w (TransPost L side w) := by
  obtain ⟨hok, v0, v1, v2, v3, r⟩ := h
  rcases hs with rfl | rfl
  · refine (tran0 hok r).mono ?_
    rintro e w' ⟨g, rfl, ow, k⟩
    exact ⟨_, rfl, ⟨g, rfl, ow⟩, k⟩
  · refine (tran1 hok r).mono ?_
    rintro e w' ⟨g, rfl, ow, k⟩
    exact ⟨_, rfl, ⟨g, rfl, ow⟩, k⟩

theorem sent_any {F : Nat → Prop} {p : Nat} {L : LS} {w : World} (h : LinkAt w F p L) (side : Int) :
    Calls Try.prog 17 #[.pointer (some ⟨p, 0, none⟩), .int .i64 side] w fun e w' => e = .returned (.int .i64 ((L.sent side).length : Int)) ∧ w = w' := by
  obtain ⟨hok, v0, v1, v2, v3, r⟩ := h
  by_cases hs : IsSide side
  · obtain ⟨A0, c0, rfl, _⟩ := own_form r.o0
    obtain ⟨A2, c2, rfl, _⟩ := own_form r.o2
    rcases hs with rfl | rfl
    · exact sent_0 p _ c0 A0 w ((r.blk.cell 0).trans rfl)
    · exact sent_1 p _ c2 A2 w ((r.blk.cell 2).trans rfl)
  · have hz : L.sent side = [] := by unfold IsSide at hs; unfold LS.sent; rw [if_neg (by omega), if_neg (by omega)]
    rw [hz]
    exact sent_no _ side w (beq_no hs).1 (beq_no hs).2

theorem left_link {F : Nat → Prop} {p : Nat} {L : LS} {w : World} (h : LinkAt w F p L) :
    Calls Try.prog 14 #[.pointer (some ⟨p, 0, none⟩)] w fun e w' => e = .returned (.int .i64 (L.budget - L.total)) ∧ ∃ n, w' = w.drewN n := by
  obtain ⟨hok, v0, v1, v2, v3, r⟩ := h
  obtain ⟨A0, c0, rfl, _⟩ := own_form r.o0
  obtain ⟨A2, c2, rfl, _⟩ := own_form r.o2
  have := hok.tot
  have := hok.b1
  exact left_walk p _ _ c0 c2 A0 A2 L.budget w ((r.blk.cell 0).trans rfl) ((r.blk.cell 2).trans rfl) ((r.blk.cell 4).trans rfl) hok.b0 hok.b1 (by omega)

theorem down_link {F : Nat → Prop} {p : Nat} {L : LS} {w : World} (h : LinkAt w F p L) :
    Calls Try.prog 15 #[.pointer (some ⟨p, 0, none⟩)] w fun e w' => e = .returned (.bool L.down) ∧ w = w' := by
  obtain ⟨hok, v0, v1, v2, v3, r⟩ := h
  exact down_walk p L.down w ((r.blk.cell 6).trans rfl)

end Go.Proofs.Ytchchgdkejolaaa
