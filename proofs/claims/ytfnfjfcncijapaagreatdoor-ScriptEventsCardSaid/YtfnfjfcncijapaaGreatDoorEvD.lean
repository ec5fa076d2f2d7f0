/- The event of a step, as the reference says it, and that both say the same (printed by genEvD.py). -/
import Derived.Test.YtfnfjfcncijapaaGreatDoorEvC
namespace Go.Proofs.YtfnfjfcncijapaaGreatDoor

def evRow (cmd : List UInt8) (args : List (List UInt8)) : EvD × Int :=
  if cmd = [119, 114, 105, 116, 101] then ({ ev0 1 with dev := nv (args.getD 0 []), path := (args.getD 1 []), data := (args.getD 2 []) }, 0)
  else if cmd = [114, 101, 109, 111, 118, 101] then ({ ev0 2 with dev := nv (args.getD 0 []), path := (args.getD 1 []) }, 0)
  else if cmd = [109, 111, 118, 101] then ({ ev0 3 with dev := nv (args.getD 0 []), path := (args.getD 1 []), dest := (args.getD 2 []) }, 0)
  else if cmd = [98, 97, 99, 107, 117, 112] then ({ ev0 4 with dev := nv (args.getD 0 []), vault := nv (args.getD 1 []) }, 0)
  else if cmd = [112, 97, 115, 115] then ({ ev0 5 with num := nv (args.getD 0 []) }, 0)
  else if cmd = [99, 108, 111, 99, 107] then ({ ev0 6 with dev := nv (args.getD 0 []), num := nv (args.getD 1 []) }, 0)
  else if cmd = [109, 101, 101, 116] then ({ ev0 7 with dev := nv (args.getD 0 []), oth := nv (args.getD 1 []), num := nv (args.getD 2 []), cut := nv (args.getD 3 []) }, 0)
  else if cmd = [108, 111, 115, 101] then ({ ev0 8 with dev := nv (args.getD 0 []) }, 0)
  else if cmd = [100, 114, 111, 112] then ({ ev0 9 with dev := nv (args.getD 0 []), num := nv (args.getD 1 []) }, 0)
  else if cmd = [102, 97, 105, 108] then ({ ev0 10 with dev := nv (args.getD 0 []), num := nv (args.getD 1 []), cut := nv (args.getD 2 []), data := (args.getD 3 []).map (· - 48) }, 0)
  else if cmd = [104, 111, 108, 100] then ({ ev0 11 with dev := nv (args.getD 0 []), vault := nv (args.getD 1 []), num := nv (args.getD 2 []), on := (args.getD 3 []) == [111, 110] }, 0)
  else if cmd = [114, 101, 116, 97, 105, 110] then ({ ev0 12 with dev := nv (args.getD 0 []), vault := nv (args.getD 1 []) }, 0)
  else if cmd = [115, 101, 116, 116, 108, 101] then ({ ev0 13 with dev := nv (args.getD 0 []) }, 0)
  else if cmd = [114, 101, 115, 116, 111, 114, 101] then ({ ev0 14 with vault := nv (args.getD 0 []), dev := nv (args.getD 1 []), num := nv (args.getD 2 []), path := (args.getD 3 []) }, 0)
  else (ev0 0, 14)
def evR (cmd : List UInt8) (args : List (List UInt8)) : EvD × Int := if validR cmd args = false then (ev0 0, 1) else evRow cmd args

theorem evRow_other {cmd : List UInt8} (h : ∀ p ∈ evTab, p.1 ≠ cmd) (args : List (List UInt8)) : evRow cmd args = (ev0 0, 14) := by
  unfold evRow
  simp only [evTab, List.mem_cons, List.not_mem_nil, or_false, forall_eq_or_imp, forall_eq] at h
  obtain ⟨h1, h2, h3, h4, h5, h6, h7, h8, h9, h10, h11, h12, h13, h14⟩ := h
  simp [Ne.symm h1, Ne.symm h2, Ne.symm h3, Ne.symm h4, Ne.symm h5, Ne.symm h6, Ne.symm h7, Ne.symm h8, Ne.symm h9, Ne.symm h10, Ne.symm h11, Ne.symm h12, Ne.symm h13, Ne.symm h14]
theorem tab_other : ∀ p ∈ cmdTable, p.2.1 ≠ 2 → ∀ q ∈ evTab, q.1 ≠ p.1 := by decide +kernel
theorem tab_event : ∀ p ∈ cmdTable, p.2.1 = 2 → (evTab.find? (fun q => q.1 == p.1)).isSome = true := by decide +kernel

end Go.Proofs.YtfnfjfcncijapaaGreatDoor
