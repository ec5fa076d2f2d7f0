/- An argument that is a []byte, as the walks want it. -/
import Derived.Test.YtchchgdkejolaaaConv
import Derived.OpenShut
namespace Go.Proofs.Ytchchgdkejolaaa
open Go.ChangeShapes Go.WideShapes Go.RowKit

/-- WHAT THE WALK IS TOLD OF A SLICE OF INTEGERS THAT CAME IN: it is nil; or it leads to a row of 'cap' cells, the numbers 'zs' (the first 'len' are its elements, the rest its spare room), each fitting its kind. -/
def IsRow (k : IntKind) (w : World) (a : Option Addr) (len cap : Nat) (zs : List Int) : Prop :=
  (a = none ∧ len = 0 ∧ cap = 0 ∧ zs = []) ∨
  ∃ x, a = some x ∧ len ≤ cap ∧ cap ≤ maxLen ∧ zs.length = cap ∧ (∀ i, i < zs.length → w.cell? (x.add i) = some (.int k (zs.getD i 0))) ∧ ∀ n ∈ zs, (Lit.int k n).wf = true

theorem row_bytes {w : World} {a : Option Addr} {len cap : Nat} {zs : List Int} (h : IsRow .u8 w a len cap zs) : ∃ xs : List UInt8, xs.length = len ∧ xs.length ≤ cap ∧ Reads w w.heap.size 1 a xs.length (bvs xs) := by
  rcases h with ⟨rfl, rfl, rfl, rfl⟩ | ⟨x, rfl, hl, _, hz, hc, hw⟩
  · exact ⟨[], rfl, Nat.le_refl _, Reads.none_⟩
  · have hlen : (zs.take len).length = len := by rw [List.length_take]; omega
    refine ⟨(zs.take len).map fun n => UInt8.ofNat n.toNat, by rw [List.length_map, hlen], by rw [List.length_map, hlen]; exact hl, by rw [bvs_length]; omega, fun hp => ?_⟩
    rw [List.length_map, hlen] at hp
    have hcell : ∀ j u, (bvs ((zs.take len).map fun n => UInt8.ofNat n.toNat))[j]? = some u → w.cell? (x.add j) = some u := by
      intro j u hu
      have hj : j < (bvs ((zs.take len).map fun n => UInt8.ofNat n.toNat)).length := (List.getElem?_eq_some_iff.1 hu).1
      rw [bvs_length, List.length_map, hlen] at hj
      rw [hc j (by omega), ← hu]
      have hjz : j < zs.length := by omega
      have hwf := bounds_u8 (hw zs[j] (List.getElem_mem hjz))
      simp only [bvs, bv, List.getElem?_map, List.getElem?_take, if_pos hj, List.getElem?_eq_getElem hjz, Option.map_some, List.getD, Option.getD_some]
      have e : ((UInt8.ofNat zs[j].toNat).toNat : Int) = zs[j] := by
        rw [UInt8.toNat_ofNat']
        omega
      rw [e]
    refine ⟨x, rfl, ?_, hcell⟩
    have h0 := hc 0 (by omega)
    have := World.block_lt_of_cell? w _ h0
    rwa [block_of_add] at this

theorem byte_of {n : Int} (h : (Lit.int .u8 n).wf = true) : ∃ b : UInt8, n = (b.toNat : Int) := by
  have := bounds_u8 h
  refine ⟨UInt8.ofNat n.toNat, ?_⟩
  rw [UInt8.toNat_ofNat']
  omega

end Go.Proofs.Ytchchgdkejolaaa
