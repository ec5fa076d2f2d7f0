/- string(x) of a slice that reads as bytes; what awake comes to. -/
import Derived.Test.YtchchgdkejolaaaCalls
import Derived.Laws.BytesArg
import Derived.Lib.SlBytesConst
namespace Go.Proofs.Ytchchgdkejolaaa
open Go.RowKit

def ba (xs : List UInt8) : ByteArray := ⟨xs.toArray⟩

theorem strOfNums_bytes (xs : List UInt8) : strOfNums (xs.map fun b => (b.toNat : Int)) = ba xs := by
  unfold strOfNums ba
  congr 1
  rw [List.map_map]
  congr 1
  conv => rhs; rw [← List.map_id xs]
  apply List.map_congr_left
  intro x _
  simp

theorem conv_reads {w : World} {B n c : Nat} {A : Option Addr} {xs : List UInt8} (h : Reads w B 1 A n (bvs xs)) : (convert 22 9 (.slice A n c)).run Try.prog w = .ok (.string (ba xs)) w := by
  have hl : xs.length = n := by have := h.1; rw [bvs_length] at this; omega
  rw [run_convert_bytes_string w 22 9 5 _ n c Try.underlying22 Try.underlying5 Try.underlying9]
  cases A with
  | none =>
    have h0 : n = 0 := by
      rcases Nat.eq_zero_or_pos n with h0 | h0
      · exact h0
      · obtain ⟨ad, h, _⟩ := h.2 h0
        cases h
    subst h0
    have : xs = [] := List.eq_nil_of_length_eq_zero hl
    subst this
    simp [Conv.bytesToString]
    rfl
  | some ad =>
    have hld : (loadCells ad n).run Try.prog w = .ok ((xs.map fun b => (b.toNat : Int)).map (Value.int .u8)).toArray w := by
      have := run_loadCells_list (P := Try.prog) w ad (bvs xs) (fun j v hj => by
        have hjl : j < (bvs xs).length := (List.getElem?_eq_some_iff.1 hj).1
        rw [bvs_length] at hjl
        obtain ⟨ad', e, _, hc⟩ := h.2 (by omega)
        injection e with e
        subst e
        exact hc j v hj)
      rw [bvs_length, hl] at this
      rw [this]
      simp [bvs, bv, List.map_map, Function.comp_def]
    rw [run_bytesToString w ad n c _ hld, foldl_push_bytes, ← strOfNums_bytes]
    simp [strOfNums, ByteArray.empty, ByteArray.emptyWithCapacity]
    rfl

theorem NewRow.reads {w w' : World} {v : Value} {xs : List UInt8} (h : NewRow w w' v xs) : ∃ g, v = .slice (some ⟨g, 0, none⟩) xs.length xs.length ∧ w.heap.size ≤ g ∧ g < w'.heap.size ∧ Reads w' w'.heap.size 1 (some ⟨g, 0, none⟩) xs.length (bvs xs) := by
  obtain ⟨g, rfl, ow⟩ := h
  have := ow.lt g rfl
  exact ⟨g, rfl, this.1, this.2, Reads.of_own ow⟩

end Go.Proofs.Ytchchgdkejolaaa
