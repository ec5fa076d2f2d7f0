/- kinkeepref56: digit, Stands. -/
import Derived.Test.YtfnfjfcncijapaaGreatDoorRefA
namespace Go.Proofs.YtfnfjfcncijapaaGreatDoor
open Go.RowKit Go.Shelf
attribute [local go_sem] Oper.semAt_some

/-- The hexadecimal digits. -/
def hexs : ByteArray := ⟨#[48, 49, 50, 51, 52, 53, 54, 55, 56, 57, 97, 98, 99, 100, 101, 102]⟩
theorem hexs_size : hexs.size = 16 := rfl
def HexRel (w : World) (c : UInt8) (i : Value) (wr : World) : Prop := ∃ j : Nat, j ≤ 16 ∧ i = .int .i64 (j : Int) ∧ (∀ m (h : m < hexs.size), m < j → hexs[m] ≠ c) ∧ w = wr
theorem hexv_at : ∀ j, (h : j < hexs.size) → hexv hexs[j] = (j : Int) := by decide
set_option maxRecDepth 100000 in
theorem hexv_key : ∀ n, n < 256 → hexv (UInt8.ofNat n) = -1 ∨ (UInt8.ofNat n) ∈ hexs.data.toList := by decide
theorem hexv_none (c : UInt8) (h : ∀ m (h : m < hexs.size), m < 16 → hexs[m] ≠ c) : hexv c = -1 := by
  have := hexv_key c.toNat c.toNat_lt
  rw [UInt8.ofNat_toNat] at this
  rcases this with h1 | h1
  · exact h1
  · obtain ⟨m, hm, h2⟩ := List.mem_iff_getElem.1 h1
    exact absurd h2 (h m hm hm)

set_option maxHeartbeats 1000000 in
set_option maxRecDepth 100000 in
theorem rdigit_any (c : UInt8) (w : World) :
    Calls Tryz.prog 91 #[.int .u8 (c.toNat : Int)] w fun e w' => e = .returned (.int .i64 (hexv c)) ∧ w' = w := by
  have hc := c.toNat_lt
  have hsz := hexs_size
  go_enter Tryz.func91, Tryz.ntmps91
  rw [show (⟨#[48, 49, 50, 51, 52, 53, 54, 55, 56, 57, 97, 98, 99, 100, 101, 102]⟩ : ByteArray) = hexs from rfl]
  go_wp2_with fail
  go_loopw [3] (HexRel w c) (fun i _ => 16 - (intOf i).toNat)
  case atStart => exact ⟨0, by omega, rfl, fun m h1 h2 => by omega, rfl⟩
  case round =>
    obtain ⟨j, hj, rfl, hn, rfl⟩ := hrel
    have HN := Lib.hid hn
    clear hn
    by_cases hlt : j < hexs.size
    · have h256 : hexs[j].toNat < 256 := hexs[j].toNat_lt
      have i1 : (j : Int) < (hexs.size : Int) := by omega
      have i2 : decide ((j : Int) < 16) = true := by simp; omega
      by_cases he : hexs[j] = c
      · have t1 : ((hexs[j].toNat : Int) == (c.toNat : Int)) = true := by rw [he]; simp
        have HE := Lib.hid he
        clear he
        go_wp2_with fail
        go_ret
        exact ⟨by rw [← HE.out, hexv_at]; rfl, rfl⟩
      · have t1 : ((hexs[j].toNat : Int) == (c.toNat : Int)) = false := by
          simp only [beq_eq_false_iff_ne, ne_eq]; exact fun e => he (UInt8.toNat_inj.1 (by omega))
        have HE := Lib.hid he
        clear he
        go_wp2_with fail
        go_roundw
        case rel =>
          refine ⟨j + 1, by omega, by go_num, fun m h1 h2 => ?_, rfl⟩
          by_cases hm : m = j
          · subst hm; exact HE.out
          · exact HN.out m h1 (by omega)
        case measure => simp [intOf]; omega
    · obtain rfl : j = 16 := by omega
      go_wp2_with fail
      go_ret
      exact ⟨by rw [hexv_none c HN.out]; rfl, rfl⟩

end Go.Proofs.YtfnfjfcncijapaaGreatDoor
