/- Send: what it does to a link. The six walks are printed by a small program (gensend.py). -/
import Derived.Test.YtchchgdkejolaaaQuiet
import Derived.Test.YtchchgdkejolaaaApp
import Derived.Deep.RegionLaw
namespace Go.Proofs.Ytchchgdkejolaaa
open Go.RowKit

theorem info5 : (Try.prog.info? 5).map (fun i => (i.zero, i.size, i.bytes)) = some (some (.int .u8 0), 1, 1) := by kernel_rfl

/-- Left, the world as a new one of which only that nothing has turned is known. -/
theorem left_any {F : Nat → Prop} {p : Nat} {L : LS} {w : World} {v0 v1 v2 v3 : Value} (hok : L.ok) (r : Rep w F p L v0 v1 v2 v3) :
    Calls Try.prog 14 #[.pointer (some ⟨p, 0, none⟩)] w fun e w' => e = .returned (.int .i64 (L.budget - ((L.s0.length : Int) + L.s1.length))) ∧ Kept NoF w w' := by
  obtain ⟨A0, c0, rfl, _⟩ := own_form r.o0
  obtain ⟨A2, c2, rfl, _⟩ := own_form r.o2
  have := hok.tot
  have := hok.b1
  refine (left_walk p _ _ c0 c2 A0 A2 L.budget w ((r.blk.cell 0).trans rfl) ((r.blk.cell 2).trans rfl) ((r.blk.cell 4).trans rfl) hok.b0 hok.b1 (by omega)).mono ?_
  rintro e w' ⟨rfl, n, rfl⟩
  exact ⟨rfl, (Kept.refl _ _).drewN n⟩

def LS.put0 (L : LS) (ys : List UInt8) (d : Bool) : LS := { L with s0 := L.s0 ++ ys, w1 := L.w1 ++ ys, down := d }
def LS.put1 (L : LS) (ys : List UInt8) (d : Bool) : LS := { L with s1 := L.s1 ++ ys, w0 := L.w0 ++ ys, down := d }

theorem send_fin {F : Nat → Prop} {w w3 w4 w5 w6 w7 : World} {p : Nat} {L' L'' : LS} {v0 v1 v2 v3 : Value} (hlt : ∀ k, F k → k < w.heap.size) (kw3 : Kept F w w3) (kw5 : Kept F w3 w5) (hs5 : w5.heap.size = w4.heap.size)
    (kw7 : Kept (More F w3 w4) w5 w7) (hs7 : w7.heap.size = w6.heap.size) (r7 : Rep w7 (More (More F w3 w4) w5 w6) p L' v0 v1 v2 v3) (hL : L' = L'') :
    (∃ v0 v1 v2 v3, Rep w7 (More F w w7) p L'' v0 v1 v2 v3) ∧ Kept F w w7 := by
  subst hL
  have h1 := kw3.size
  have h2 := kw5.size
  have h3 := kw7.size
  refine ⟨⟨_, _, _, _, r7.weaken ?_ ?_⟩, (kw3.trans kw5 (fun _ h => .inl h)).trans kw7 ?_⟩
  · rintro k ((hk | hk) | hk)
    · exact .inl hk
    · exact .inr ⟨by omega, by omega⟩
    · exact .inr ⟨by omega, by omega⟩
  · rintro k (hk | hk)
    · exact Nat.lt_of_lt_of_le (hlt k hk) (by omega)
    · exact hk.2
  · rintro k (hk | hk)
    · exact .inl hk
    · exact .inr (by omega)

def SendPost (F : Nat → Prop) (p : Nat) (L' : LS) (n err : Int) (w : World) (e : Ending) (w' : World) : Prop :=
  e = .returned (.tuple #[.int .i64 n, .int .i64 err]) ∧ (∃ v0 v1 v2 v3, Rep w' (More F w w') p L' v0 v1 v2 v3) ∧ Kept F w w'

end Go.Proofs.Ytchchgdkejolaaa
