/- Maps keyed by strings that a call fills with constants: the insertions and the look-ups, entry by entry. -/
import Derived.Test.YtfnfjfcncijapaaGreatDoorEnv
import Derived.Maps.Own
import Derived.RangeFuncRecord
namespace Go.Proofs.YtfnfjfcncijapaaGreatDoor
open Go.RowKit Go.Shelf

/-- The entries of a map into which a table was put, row by row. -/
def tabEntries {α : Type} (f : α → Value) : List (List UInt8 × α) → Nat → List MapEntry
  | [], _ => []
  | (k, a) :: r, n => { key := .string (ba k), val := f a, born := n } :: tabEntries f r (n + 1)

theorem bytes_beq (a b : ByteArray) : (a == b) = (a.data == b.data) := by cases a; cases b; rfl
theorem ba_beq (k : List UInt8) (key : ByteArray) : (key == ba k) = (k == key.data.toList) := by
  rw [bytes_beq, Bool.eq_iff_iff]
  simp only [beq_iff_eq]
  constructor
  · intro h; rw [h]; simp [ba]
  · intro h; rw [h]; simp [ba]

theorem findNow_none {α : Type} {f : α → Value} {key : ByteArray} : ∀ {t : List (List UInt8 × α)} {n i : Nat}, t.find? (fun p => p.1 == key.data.toList) = none →
    Instr.findNow .string (.string key) (tabEntries f t n) i = some none
  | [], _, _, _ => rfl
  | (k, a) :: t, n, i, h => by
    simp only [List.find?_cons] at h
    have hk : (k == key.data.toList) = false := by
      cases hq : (k == key.data.toList)
      · rfl
      · rw [hq] at h; cases h
    rw [hk] at h
    simp only [tabEntries, Instr.findNow, Instr.sameNow, ba_beq, hk]
    exact findNow_none h
theorem findNow_some {α : Type} {f : α → Value} {key : ByteArray} {p : List UInt8 × α} : ∀ {t : List (List UInt8 × α)} {n i : Nat}, t.find? (fun p => p.1 == key.data.toList) = some p →
    ∃ j, Instr.findNow .string (.string key) (tabEntries f t n) i = some (some (j, f p.2))
  | [], _, _, h => by cases h
  | (k, a) :: t, n, i, h => by
    simp only [List.find?_cons] at h
    cases hk : (k == key.data.toList)
    · rw [hk] at h
      simp only [tabEntries, Instr.findNow, Instr.sameNow, ba_beq, hk]
      exact findNow_some h
    · rw [hk] at h
      injection h with h
      subst h
      simp only [tabEntries, Instr.findNow, Instr.sameNow, ba_beq, hk]
      exact ⟨i, rfl⟩

section
variable {P : Program}
theorem run_checkKey_string (b : Bool) {n : Nat} {t : TypeId} (ht : P.underlying t = some .string) (v : Value) (w : World) : (Instr.checkKey b (n + 1) t v).run P w = .ok () w := by
  simp [Instr.checkKey, run_underlying ht]

theorem run_getObj_map {w : World} {r : Nat} {es : Array MapEntry} {n : Nat} (h : w.heap[r]? = some (.map es n)) : (getObj r).run P w = .ok (.map es n) w := by simp [getObj, Sem.run, h]
theorem run_setObj_map {w : World} {r : Nat} {es : Array MapEntry} {n : Nat} (o : Obj) (h : w.heap[r]? = some (.map es n)) : (setObj r o).run P w = .ok () (w.putObj r o) := by simp [setObj, Sem.run, h, World.putObj]
theorem putObj_alloc (W : World) (o o' : Obj) : (W.alloc o).putObj W.heap.size o' = W.alloc o' := by
  show ({ W with heap := (W.heap.push o).setIfInBounds W.heap.size o' } : World) = { W with heap := W.heap.push o' }
  congr 1
  apply Array.toList_inj.1
  simp

theorem run_insert_new {t k e : TypeId} (ht : P.underlying t = some (.map k e)) (hk : P.underlying k = some .string) {W : World} {es : List MapEntry} {n : Nat} {key : ByteArray} (v : Value)
    (hnew : Instr.findNow .string (.string key) es 0 = some none) :
    (Instr.mapUpdate t (.map (some W.heap.size)) (.string key) v).run P (W.alloc (.map es.toArray n)) = .ok () (W.alloc (.map (es ++ [MapEntry.mk (.string key) v n]).toArray (n + 1))) := by
  have hb := World.alloc_heap_new W (.map es.toArray n)
  simp [Instr.mapUpdate, run_underlying ht, Sem.run_bind, run_getObj_map hb, Result.andThen, run_checkKey_string false (n := 9999) hk, Instr.findKey, run_underlying hk, hnew, run_setObj_map _ hb, putObj_alloc]

theorem run_lookup_some {t k e : TypeId} (ht : P.underlying t = some (.map k e)) (hk : P.underlying k = some .string) {w : World} {r n j : Nat} {es : List MapEntry} {key : ByteArray} {v : Value} (hb : w.heap[r]? = some (.map es.toArray n))
    (hf : Instr.findNow .string (.string key) es 0 = some (some (j, v))) :
    (Instr.lookup t (.map (some r)) (.string key) true).run P w = .ok (.tuple #[v, .bool true]) w := by
  simp [Instr.lookup, run_underlying ht, Sem.run_bind, run_getObj_map hb, Result.andThen, run_checkKey_string _ (n := 9999) hk, Instr.findKey, run_underlying hk, hf]
theorem run_lookup_none {t k e : TypeId} (ht : P.underlying t = some (.map k e)) (hk : P.underlying k = some .string) {z : Value} (hz : ∀ w, (zeroValue e).run P w = .ok z w) {w : World} {r n : Nat} {es : List MapEntry} {key : ByteArray} (hb : w.heap[r]? = some (.map es.toArray n))
    (hf : Instr.findNow .string (.string key) es 0 = some none) :
    (Instr.lookup t (.map (some r)) (.string key) true).run P w = .ok (.tuple #[z, .bool false]) w := by
  simp [Instr.lookup, run_underlying ht, Sem.run_bind, run_getObj_map hb, Result.andThen, run_checkKey_string _ (n := 9999) hk, Instr.findKey, run_underlying hk, hf, hz]

theorem wpList_insert {ops : Array Oper} {rest : List Oper} {o : Oper} {a : Act} {Q : Exit → Act → World → Prop} (hg : o.guard = none) (m x v : Operand) (t : TypeId) (hop : o.op = Op.insert t m x v)
    (k e : TypeId) (ht : P.underlying t = some (.map k e)) (hk : P.underlying k = some .string) (W : World) (es : List MapEntry) (n : Nat) (key : ByteArray)
    (hm : a.eval m = .map (some W.heap.size)) (hx : a.eval x = .string key) (hnew : Instr.findNow .string (.string key) es 0 = some none)
    (hK : wpList P ops Q rest (a.put o.dst undef) (W.alloc (.map (es ++ [MapEntry.mk (.string key) (a.eval v) n]).toArray (n + 1)))) :
    wpList P ops Q (o :: rest) a (W.alloc (.map es.toArray n)) := by
  refine wpList_plain hg fun K' hK' => ?_
  unfold Oper.wp
  simp [execOp, hop, hm, hx, run_insert_new ht hk _ hnew, Result.andThen]
  exact hK' _ _ hK

end

def fnVal (f : Nat) : Value := .func (.func f) #[] #[]
/-- The forms that are no number's. -/
def formTable : List (List UInt8 × Nat) := [([78, 65, 77, 69], 93), ([84, 69, 88, 84], 93), ([80, 65, 84, 72], 93), ([84, 79], 93), ([87, 82, 73, 84, 69, 82, 83], 94), ([70, 76, 65, 71, 83], 95), ([83, 87, 73, 84, 67, 72], 96)]
/-- The function that decides on an argument's form. -/
def formFn (l : List UInt8) : Nat := match formTable.find? (fun p => p.1 == l) with
  | some p => p.2
  | none => 97

theorem zero32 : (Tryz.prog.info? 32).map (·.zero) = some (some .nilFunc) := by kernel_rfl
theorem zeroFn (w : World) : (zeroValue 32).run Tryz.prog w = .ok .nilFunc w := by
  obtain ⟨i, hi, hz⟩ := Option.map_eq_some_iff.1 zero32
  simp [zeroValue, typeInfo, hi, hz]

set_option maxHeartbeats 1000000 in
set_option maxRecDepth 100000 in
theorem form_some (s : ByteArray) (w : World) (p : List UInt8 × Nat) (h : formTable.find? (fun p => p.1 == s.data.toList) = some p) :
    Calls Tryz.prog 66 #[.string s] w fun e w' => e = .returned (fnVal p.2) ∧ Below w.heap.size w w' := by
  have hmm := @run_makeMap Tryz.prog
  obtain ⟨j, hj⟩ := findNow_some (f := fnVal) (n := 0) (i := 0) h
  have HL := Lib.hid (run_lookup_some (P := Tryz.prog) Tryz.underlying152 Tryz.underlying9 (World.alloc_heap_new w (.map (tabEntries fnVal formTable 0).toArray 7)) hj)
  clear hj h
  unfold fnVal at HL ⊢
  go_enter Tryz.func66, Tryz.ntmps66
  go_wp2_with (refine wpList_insert rfl _ _ _ 152 rfl 9 32 Tryz.underlying152 Tryz.underlying9 w _ _ _ rfl rfl (by kernel_rfl) ?_)
  erw [HL.out]
  simp only [Result.andThen]
  rw [Oper.upon_value]
  go_wp2
  go_ret
  exact ⟨rfl, (Below.refl _ _).alloc (Nat.le_refl _) _⟩

set_option maxHeartbeats 1000000 in
set_option maxRecDepth 100000 in
theorem form_none (s : ByteArray) (w : World) (h : formTable.find? (fun p => p.1 == s.data.toList) = none) :
    Calls Tryz.prog 66 #[.string s] w fun e w' => e = .returned (fnVal 97) ∧ Below w.heap.size w w' := by
  have hmm := @run_makeMap Tryz.prog
  have hj := findNow_none (f := fnVal) (n := 0) (i := 0) h
  have HL := Lib.hid (run_lookup_none (P := Tryz.prog) Tryz.underlying152 Tryz.underlying9 zeroFn (World.alloc_heap_new w (.map (tabEntries fnVal formTable 0).toArray 7)) hj)
  clear hj h
  unfold fnVal at HL ⊢
  go_enter Tryz.func66, Tryz.ntmps66
  go_wp2_with (refine wpList_insert rfl _ _ _ 152 rfl 9 32 Tryz.underlying152 Tryz.underlying9 w _ _ _ rfl rfl (by kernel_rfl) ?_)
  erw [HL.out]
  simp only [Result.andThen]
  rw [Oper.upon_value]
  go_wp2
  go_ret
  exact ⟨rfl, (Below.refl _ _).alloc (Nat.le_refl _) _⟩

theorem form_any (s : ByteArray) (w : World) : Calls Tryz.prog 66 #[.string s] w fun e w' => e = .returned (fnVal (formFn s.data.toList)) ∧ Below w.heap.size w w' := by
  unfold formFn
  cases h : formTable.find? (fun p => p.1 == s.data.toList) with
  | none => exact form_none s w h
  | some p => exact form_some s w p h

end Go.Proofs.YtfnfjfcncijapaaGreatDoor
