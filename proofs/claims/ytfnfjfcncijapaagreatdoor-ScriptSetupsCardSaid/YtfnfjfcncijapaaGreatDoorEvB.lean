/- script.Event: what it computes, plainly (printed by genEvB.py). -/
import Derived.Test.YtfnfjfcncijapaaGreatDoorEvA
namespace Go.Proofs.YtfnfjfcncijapaaGreatDoor
open Go.RowKit Go.Shelf

/-- An event. -/
structure EvD where
  kind : Int
  dev : Int
  oth : Int
  vault : Int
  path : List UInt8
  dest : List UInt8
  data : List UInt8
  num : Int
  cut : Int
  on : Bool
def ev0 (k : Int) : EvD := ⟨k, 0, 0, 0, [], [], [], 0, 0, false⟩
/-- Its cells; v: its data. -/
def EvD.cells (e : EvD) (v : Value) : Array Value := #[.int .i64 e.kind, .int .i64 e.dev, .int .i64 e.oth, .int .i64 e.vault, .string (ba e.path), .string (ba e.dest), v, .int .i64 e.num, .int .i64 e.cut, .bool e.on]
def nv (l : List UInt8) : Int := (numR l).1
/-- What an argument with a name sets. -/
def setEv (e : EvD) (n a : List UInt8) : EvD :=
  if n = [68] then { e with dev := nv a }
  else if n = [79, 84, 72, 69, 82] then { e with oth := nv a }
  else if n = [86, 65, 85, 76, 84] then { e with vault := nv a }
  else if n = [80, 65, 84, 72] then { e with path := a }
  else if n = [84, 79] then { e with dest := a }
  else if n = [84, 69, 88, 84] then { e with data := a }
  else if n = [78] then { e with num := nv a }
  else if n = [68, 65, 89] then { e with num := nv a }
  else if n = [66, 85, 68, 71, 69, 84] then { e with num := nv a }
  else if n = [65, 70, 84, 69, 82] then { e with num := nv a }
  else if n = [67, 85, 84] then { e with cut := nv a }
  else if n = [84, 79, 82, 78] then { e with cut := nv a }
  else if n = [70, 76, 65, 71, 83] then { e with data := e.data ++ a.map (· - 48) }
  else if n = [83, 87, 73, 84, 67, 72] then { e with on := a == [111, 110] }
  else e

def evFold (k : Int) (names args : List (List UInt8)) : EvD := (names.zip args).foldl (fun e p => setEv e p.1 p.2) (ev0 k)
theorem evFold_snoc (k : Int) {names args : List (List UInt8)} {j : Nat} (h : j < names.length) (h' : j < args.length) : evFold k (names.take (j + 1)) (args.take (j + 1)) = setEv (evFold k (names.take j) (args.take j)) names[j] args[j] := by
  unfold evFold
  rw [List.take_succ_eq_append_getElem h, List.take_succ_eq_append_getElem h', List.zip_append (by simp; omega), List.foldl_append]
  rfl
def evNames : List (List UInt8) := [[68], [79, 84, 72, 69, 82], [86, 65, 85, 76, 84], [80, 65, 84, 72], [84, 79], [84, 69, 88, 84], [78], [68, 65, 89], [66, 85, 68, 71, 69, 84], [65, 70, 84, 69, 82], [67, 85, 84], [84, 79, 82, 78], [70, 76, 65, 71, 83], [83, 87, 73, 84, 67, 72]]
def isData (n : List UInt8) : Bool := n == [84, 69, 88, 84] || n == [70, 76, 65, 71, 83]
def rowOk (names : List (List UInt8)) : Bool := names.all (fun n => evNames.contains n) && (List.range names.length).all (fun j => !(names[j]? == some [70, 76, 65, 71, 83]) || !((names.take j).any isData))
theorem ev_rows : ∀ p ∈ cmdTable, p.2.1 = 2 → rowOk (namesOf p.2) = true := by decide +kernel
theorem row_mem {names : List (List UInt8)} {j : Nat} (h : rowOk names = true) (hj : j < names.length) : names[j] ∈ evNames ∧ (names[j] = [70, 76, 65, 71, 83] → (names.take j).any isData = false) := by
  unfold rowOk at h
  simp only [Bool.and_eq_true, List.all_eq_true] at h
  refine ⟨by simpa using h.1 _ (List.getElem_mem hj), fun e => ?_⟩
  have := h.2 j (List.mem_range.2 hj)
  rw [List.getElem?_eq_getElem hj, e] at this
  simpa using this
theorem row_of {cmd : ByteArray} {nm : List UInt8} (h : cmdV (cmdTable.find? (fun p => p.1 == cmd.data.toList)) = (2, nm, true)) : rowOk (Lib.fields nm) = true := by
  cases hq : cmdTable.find? (fun p => p.1 == cmd.data.toList) with
  | none => rw [hq] at h; simp [cmdV] at h
  | some p =>
    rw [hq] at h
    simp only [cmdV, Prod.mk.injEq] at h
    have := ev_rows p (List.mem_of_find?_eq_some hq) h.1
    rw [← h.2.1]
    exact this
theorem cmp_ba (n l : List UInt8) : ((ba n).toList == l) = (n == l) := by rw [Lib.toList_data, ba_toList]
theorem fit_at {names args : List (List UInt8)} {j : Nat} (h : allFit names args = true) (h1 : j < names.length) (h2 : j < args.length) : fitsFn (formFn names[j]) args[j] = true := by
  unfold allFit at h
  rw [List.all_eq_true] at h
  exact h (names[j], args[j]) (List.mem_iff_getElem.2 ⟨j, by simp; omega, by simp⟩)
/-- The data of an event. -/
def DatAt (w : World) (eb : Nat) (v : Value) (d : List UInt8) : Prop := ∃ A c, v = .slice A d.length c ∧ Reads w w.heap.size 1 A d.length (bvs d) ∧ ∀ ad, A = some ad → eb < ad.block
theorem DatAt.nil (w : World) (eb : Nat) : DatAt w eb (.slice none 0 0) [] := ⟨none, 0, rfl, Reads.none_, fun _ h => by cases h⟩
theorem DatAt.kept {w w' : World} {eb : Nat} {v : Value} {d : List UInt8} (h : DatAt w eb v d) (k : Kept (fun x => x = eb) w w') : DatAt w' eb v d := by
  obtain ⟨A, c, rfl, hr, hn⟩ := h
  exact ⟨A, c, rfl, k.src hr (fun ad e _ => Nat.ne_of_gt (hn ad e)), hn⟩
theorem DatAt.own {w : World} {eb base : Nat} {v : Value} {d : List UInt8} (h : w.ownsRow base 5 1 v d.length (bvs d)) (hb : eb < base) : DatAt w eb v d := by
  rcases h.2 with ⟨rfl, h0⟩ | ⟨g, cap, cur, rfl, hg, _⟩
  · obtain rfl : d = [] := List.eq_nil_of_length_eq_zero h0
    exact DatAt.nil _ _
  · exact ⟨_, _, rfl, Reads.of_own h, fun ad e => by injection e with e; subst e; exact Nat.lt_of_lt_of_le hb hg⟩
theorem conv_dat (w : World) (eb : Nat) (s : List UInt8) (he : eb < w.heap.size) : DatAt (Lib.bytesWorld w 5 (ba s)) eb (.slice (some ⟨w.heap.size, 0, none⟩) (ba s).size (grownCap w (ba s).size 0 5)) s := by
  refine ⟨_, _, by rw [ba_size], ⟨by simp [bvs], fun hp => ⟨_, rfl, by rw [Lib.bytesWorld_size]; exact Nat.lt_succ_self _, fun j u hu => ?_⟩⟩, fun ad e => by injection e with e; subst e; exact he⟩
  have hj : j < s.length := by
    have := (List.getElem?_eq_some_iff.1 hu).1
    simpa [bvs] using this
  rw [Addr.add_lit, Nat.zero_add, Lib.bytesWorld_cell _ _ _ _ (by rw [ba_size]; exact hj), ba_toList]
  rw [bvs_get _ _ hj] at hu
  injection hu with hu
  subst hu
  simp [bv, List.getD, hj]

end Go.Proofs.YtfnfjfcncijapaaGreatDoor
