/- few: whether the calls are few. -/
import Derived.Test.YtchchgdkejolaaaOps
import Derived.Test.YtchchgdkejolaaaWalkA
namespace Go.Proofs.Ytchchgdkejolaaa
open Go.RowKit

def opSum (ops : List OpD) : Nat := (ops.map (·.xs.length)).sum
def fewB (ops : List OpD) : Bool := decide (ops.length ≤ 25) && decide (opSum ops ≤ 300)

theorem opSum_snoc (ops : List OpD) (k : Nat) (h : k < ops.length) : opSum (ops.take (k + 1)) = opSum (ops.take k) + ops[k].xs.length := by
  unfold opSum
  rw [List.take_succ_eq_append_getElem h, List.map_append, List.sum_append]
  simp only [List.map_cons, List.map_nil, List.sum_cons, List.sum_nil, Nat.add_zero]

theorem opSum_le {w : World} {A : Option Addr} {ops : List OpD} (h : OpsAt w A ops) : ∀ k, k ≤ ops.length → opSum (ops.take k) ≤ k * 140737488351232
  | 0, _ => by simp [opSum]
  | k + 1, hk => by
    rw [opSum_snoc ops k (by omega)]
    have ih := opSum_le h k (by omega)
    obtain ⟨b, off, _, _, hop⟩ := h.2 (by omega)
    obtain ⟨_, _, ⟨X, c, _, _, hl, _⟩, _⟩ := hop k (by omega)
    omega

/-- The cells of one op, as the walk asks for them. -/
theorem OpsAt.at_ {w : World} {A : Option Addr} {ops : List OpD} (h : OpsAt w A ops) {k : Nat} (hk : k < ops.length) :
    ∃ b off X c, A = some ⟨b, off, none⟩ ∧ b < w.heap.size ∧ w.cell? ⟨b, off + k * 5, none⟩ = some (.int .i64 ops[k].kind) ∧ w.cell? ⟨b, off + k * 5 + 1, none⟩ = some (.int .i64 ops[k].side) ∧
      w.cell? ⟨b, off + k * 5 + 2, none⟩ = some (.slice X ops[k].xs.length c) ∧ w.cell? ⟨b, off + k * 5 + 3, none⟩ = some (.int .i64 ops[k].n) ∧ w.cell? ⟨b, off + k * 5 + 4, none⟩ = some (.int .u8 (ops[k].mask.toNat : Int)) ∧
      ops[k].xs.length ≤ c ∧ ops[k].xs.length ≤ 140737488351232 ∧ Reads w w.heap.size 1 X ops[k].xs.length (bvs ops[k].xs) ∧
      (-9223372036854775808 ≤ ops[k].side ∧ ops[k].side ≤ 9223372036854775807) ∧ (-9223372036854775808 ≤ ops[k].n ∧ ops[k].n ≤ 9223372036854775807) := by
  obtain ⟨b, off, e, hb, hop⟩ := h.2 (by omega)
  obtain ⟨h0, h1, ⟨X, c, h2, hc, hl, hr⟩, h3, h4, h5, h6⟩ := hop k hk
  rw [Addr.add_lit] at h0 h1 h2 h3 h4
  exact ⟨b, off, X, c, e, hb, h0, h1, h2, h3, h4, hc, hl, hr, h5, h6⟩

set_option maxHeartbeats 1000000 in
theorem few_small (A : Option Addr) (cap : Nat) (ops : List OpD) (w : World) (h : OpsAt w A ops) (hs : ops.length ≤ 25) :
    Calls Try.prog 16 #[.slice A ops.length cap] w fun e w' => e = .returned (.bool (fewB ops)) ∧ w = w' := by
  go_enter Try.func16, Try.ntmps16
  go_wp2
  go_loop [3, 4] (fun n i => ∃ k : Nat, k ≤ ops.length ∧ i = .int .i64 (k : Int) ∧ n = .int .i64 (opSum (ops.take k) : Int)) (fun _ i => ops.length - (intOf i).toNat)
  case atStart => exact ⟨0, Nat.zero_le _, rfl, rfl⟩
  case round =>
    obtain ⟨k, hk, rfl, rfl⟩ := hrel
    have hsum := opSum_le h k hk
    by_cases hlt : k < ops.length
    · obtain ⟨b, off, X, c, rfl, hb, _, _, h2, _, _, hc, hl, _⟩ := h.at_ hlt
      have HS := Lib.hid (opSum_snoc ops k hlt)
      generalize opSum (ops.take k) = S0 at HS hsum
      generalize ops[k].xs.length = l at h2 hc hl HS
      go_wp2
      all_goals
        go_round
        case rel => exact ⟨k + 1, by omega, by go_num, by rw [HS.out]; go_num⟩
        case measure => simp [intOf]; omega
    · obtain rfl : k = ops.length := by omega
      have e : ops.take ops.length = ops := List.take_length
      rw [e] at hsum ⊢
      have hq : fewB ops = decide ((opSum ops : Int) ≤ 300) := by
        unfold fewB
        rw [decide_eq_true hs, Bool.true_and, Bool.eq_iff_iff]
        simp
        omega
      have HQ := Lib.hid hq
      clear hq e
      go_wp2
      all_goals
        go_ret
        refine ⟨?_, rfl⟩
        rw [HQ.out]
        first | rfl | simp [*]

set_option maxHeartbeats 1000000 in
theorem few_large (A : Option Addr) (cap : Nat) (ops : List OpD) (w : World) (h : OpsAt w A ops) (hs : 25 < ops.length) :
    Calls Try.prog 16 #[.slice A ops.length cap] w fun e w' => e = .returned (.bool false) ∧ w = w' := by
  have hlen := h.1
  go_enter Try.func16, Try.ntmps16
  go_wp2
  go_loop [3, 4] (fun n i => ∃ (k : Nat) (z : Int), k ≤ ops.length ∧ i = .int .i64 (k : Int) ∧ n = .int .i64 z) (fun _ i => ops.length - (intOf i).toNat)
  case atStart => exact ⟨0, 0, Nat.zero_le _, rfl, rfl⟩
  case round =>
    obtain ⟨k, z, hk, rfl, rfl⟩ := hrel
    by_cases hlt : k < ops.length
    · obtain ⟨b, off, X, c, rfl, hb, _, _, h2, _, _, hc, hl, _⟩ := h.at_ hlt
      generalize ops[k].xs.length = l at h2 hc hl
      go_wp2
      all_goals
        go_round
        case rel => exact ⟨k + 1, _, by omega, by go_num, rfl⟩
        case measure => simp [intOf]; omega
    · obtain rfl : k = ops.length := by omega
      have hd : decide ((ops.length : Int) ≤ 25) = false := by simp; omega
      go_wp2
      go_ret
      exact ⟨rfl, rfl⟩

theorem few_any (A : Option Addr) (cap : Nat) (ops : List OpD) (w : World) (h : OpsAt w A ops) :
    Calls Try.prog 16 #[.slice A ops.length cap] w fun e w' => e = .returned (.bool (fewB ops)) ∧ w = w' := by
  by_cases hs : ops.length ≤ 25
  · exact few_small A cap ops w h hs
  · have : fewB ops = false := by unfold fewB; rw [decide_eq_false hs]; rfl
    rw [this]
    exact few_large A cap ops w h (by omega)

theorem OpsAt.below {w w' : World} {A : Option Addr} {ops : List OpD} (h : OpsAt w A ops) (hb : Below w.heap.size w w') : OpsAt w' A ops := by
  refine ⟨h.1, fun hp => ?_⟩
  obtain ⟨b, off, e, hbl, hop⟩ := h.2 hp
  refine ⟨b, off, e, Nat.lt_of_lt_of_le hbl hb.size, fun i hi => ?_⟩
  obtain ⟨h0, h1, ⟨X, c, h2, hc, hl, hr⟩, h3, h4, h5⟩ := hop i hi
  have k : ∀ j v, w.cell? ((⟨b, off + i * 5, none⟩ : Addr).add j) = some v → w'.cell? ((⟨b, off + i * 5, none⟩ : Addr).add j) = some v := fun j v hv => by
    rw [hb.cell (by rw [block_of_add]; exact hbl)]; exact hv
  exact ⟨k _ _ h0, k _ _ h1, ⟨X, c, k _ _ h2, hc, hl, (hr.below hb).more hb.size⟩, k _ _ h3, k _ _ h4, h5⟩

end Go.Proofs.Ytchchgdkejolaaa
