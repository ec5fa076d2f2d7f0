/- Numbers of valid arguments, the kinds of events (printed by genEvA.py). -/
import Derived.Test.YtfnfjfcncijapaaGreatDoorFew
namespace Go.Proofs.YtfnfjfcncijapaaGreatDoor
open Go.RowKit Go.Shelf
attribute [local go_sem] Oper.semAt_some

theorem num_atoi {l : List UInt8} (h : isNumB l = true) : Lib.atoiAll l = .ok (numR l).1 := by
  rw [isNum_numR] at h
  rw [← Lib.parseIntB_64]
  exact (numR_ok (v := (numR l).1) (by rw [← h])).1
theorem below_atoi {w w' : World} (h : w' = w ∨ ∃ t, w' = Lib.bytesWorld w 5 t) : Below w.heap.size w w' := by
  rcases h with rfl | ⟨t, rfl⟩
  · exact Below.refl _ _
  · exact below_bytes _ _ _

set_option maxHeartbeats 400000 in
/-- script.number at a number's text. -/
theorem number46_any (s : ByteArray) (w : World) (hs : s.size ≤ 100000) (hn : isNumB s.data.toList = true) :
    Calls Tryz.prog 46 #[.string s] w fun e w' => e = .returned (.int .i64 (numR s.data.toList).1) ∧ Below w.heap.size w w' := by
  have CA := Lib.hid (Tryz.strconv_Atoi_ok s (by omega) _ (num_atoi hn) w)
  clear hn
  go_enter Tryz.func46, Tryz.ntmps46
  go_wp2_with fail
  refine CA.out.mono ?_
  rintro e w1 ⟨rfl, h1⟩
  have b1 := below_atoi h1
  clear h1 CA
  go_wp2_with fail
  go_ret
  exact ⟨rfl, b1⟩

set_option maxHeartbeats 400000 in
/-- kinkeepref56.number. -/
theorem rnumber_any (cmd : ByteArray) (A : Option Addr) (ca : Nat) (args : List (List UInt8)) (w : World) (hA : StrsAt w A args) (k : Nat) (hk : k < args.length) (hs : ∀ a ∈ args, a.length ≤ 100000) :
    Calls Tryz.prog 47 #[.agg #[.string cmd, .slice A args.length ca], .int .i64 (k : Int)] w fun e w' => e = .returned (.int .i64 (numR args[k]).1) ∧ Below w.heap.size w w' := by
  have bx := Blk.new w 39 #[.string cmd, .slice A args.length ca]
  have b0 : Below w.heap.size w (w.alloc (.cells #[.string cmd, .slice A args.length ca] 39)) := (Below.refl _ _).alloc (Nat.le_refl _) _
  have hA0 : StrsAt _ A args := hA.same (Kept.of_below (F := NoF) b0)
  have hsk := hs _ (List.getElem_mem hk)
  clear hs hA
  go_enter Tryz.func47, Tryz.ntmps47
  go_upto_region 1 with fail
  generalize w.alloc (.cells #[.string cmd, .slice A args.length ca] 39) = w0 at bx b0 hA0 ⊢
  have e1 : w0.cell? ⟨w.heap.size, 1, none⟩ = some (.slice A args.length ca) := (bx.cell 1).trans rfl
  obtain ⟨xb, xo, rfl, hxb, cx⟩ := hA0.at_ hk
  have i1 : (k : Int) < (args.length : Int) := by omega
  have CN := number_any (ba args[k]) w0 (by rw [ba_size]; omega)
  rw [ba_toList] at CN
  have HCN := Lib.hid CN
  clear CN
  go_wp2_with fail
  refine HCN.out.mono ?_
  clear HCN
  rintro e w1 ⟨rfl, rfl⟩
  go_wp2_with fail
  go_ret
  exact ⟨rfl, b0⟩

/-- The kinds of events. -/
def evTab : List (List UInt8 × Int) := [([119, 114, 105, 116, 101], 1), ([114, 101, 109, 111, 118, 101], 2), ([109, 111, 118, 101], 3), ([98, 97, 99, 107, 117, 112], 4), ([112, 97, 115, 115], 5), ([99, 108, 111, 99, 107], 6), ([109, 101, 101, 116], 7), ([108, 111, 115, 101], 8), ([100, 114, 111, 112], 9), ([102, 97, 105, 108], 10), ([104, 111, 108, 100], 11), ([114, 101, 116, 97, 105, 110], 12), ([115, 101, 116, 116, 108, 101], 13), ([114, 101, 115, 116, 111, 114, 101], 14)]
def evK (l : List UInt8) : Int := match evTab.find? (fun p => p.1 == l) with
  | some p => p.2
  | none => 0
def evVal (k : Int) : Value := .int .i64 k
section
variable {P : Program}
theorem run_lookup_some0 {t k e : TypeId} (ht : P.underlying t = some (.map k e)) (hk : P.underlying k = some .string) {w : World} {r n j : Nat} {es : List MapEntry} {key : ByteArray} {v : Value} (hb : w.heap[r]? = some (.map es.toArray n))
    (hf : Instr.findNow .string (.string key) es 0 = some (some (j, v))) :
    (Instr.lookup t (.map (some r)) (.string key) false).run P w = .ok v w := by
  simp [Instr.lookup, run_underlying ht, Sem.run_bind, run_getObj_map hb, Result.andThen, run_checkKey_string _ (n := 9999) hk, Instr.findKey, run_underlying hk, hf]
theorem run_lookup_none0 {t k e : TypeId} (ht : P.underlying t = some (.map k e)) (hk : P.underlying k = some .string) {z : Value} (hz : ∀ w, (zeroValue e).run P w = .ok z w) {w : World} {r n : Nat} {es : List MapEntry} {key : ByteArray} (hb : w.heap[r]? = some (.map es.toArray n))
    (hf : Instr.findNow .string (.string key) es 0 = some none) :
    (Instr.lookup t (.map (some r)) (.string key) false).run P w = .ok z w := by
  simp [Instr.lookup, run_underlying ht, Sem.run_bind, run_getObj_map hb, Result.andThen, run_checkKey_string _ (n := 9999) hk, Instr.findKey, run_underlying hk, hf, hz]
end
theorem cmd_lookup0 (cmd : ByteArray) (w : World) (r : Nat) (h : w.heap[r]? = some cmdMap) :
    (Instr.lookup 101 (.map (some r)) (.string cmd) false).run Tryz.prog w = .ok (.agg #[.int .i64 (cmdV (cmdTable.find? (fun p => p.1 == cmd.data.toList))).1, .string (ba (cmdV (cmdTable.find? (fun p => p.1 == cmd.data.toList))).2.1)]) w := by
  cases hq : cmdTable.find? (fun p => p.1 == cmd.data.toList) with
  | none => exact run_lookup_none0 Tryz.underlying101 Tryz.underlying9 zeroCmd h (findNow_none (f := cmdVal) (n := 0) (i := 0) hq)
  | some p =>
    obtain ⟨j, hj⟩ := findNow_some (f := cmdVal) (n := 0) (i := 0) hq
    exact run_lookup_some0 Tryz.underlying101 Tryz.underlying9 h hj
theorem zero3 : (Tryz.prog.info? 3).map (·.zero) = some (some (.int .i64 0)) := by kernel_rfl
theorem zeroInt (w : World) : (zeroValue 3).run Tryz.prog w = .ok (.int .i64 0) w := by
  obtain ⟨i, hi, hz⟩ := Option.map_eq_some_iff.1 zero3
  simp [zeroValue, typeInfo, hi, hz]
theorem ev_lookup (cmd : ByteArray) (w : World) : (Instr.lookup 136 (.map (some w.heap.size)) (.string cmd) false).run Tryz.prog (w.alloc (.map (tabEntries evVal evTab 0).toArray 14)) = .ok (.int .i64 (evK cmd.data.toList)) (w.alloc (.map (tabEntries evVal evTab 0).toArray 14)) := by
  unfold evK
  cases hq : evTab.find? (fun p => p.1 == cmd.data.toList) with
  | none => exact run_lookup_none0 Tryz.underlying136 Tryz.underlying9 zeroInt (World.alloc_heap_new _ _) (findNow_none (f := evVal) (n := 0) (i := 0) hq)
  | some p =>
    obtain ⟨j, hj⟩ := findNow_some (f := evVal) (n := 0) (i := 0) hq
    exact run_lookup_some0 Tryz.underlying136 Tryz.underlying9 (World.alloc_heap_new _ _) hj

set_option maxHeartbeats 2000000 in
set_option maxRecDepth 100000 in
/-- script.eventKind. -/
theorem eventKind_any (cmd : ByteArray) (w : World) : Calls Tryz.prog 43 #[.string cmd] w fun e w' => e = .returned (.int .i64 (evK cmd.data.toList)) ∧ Below w.heap.size w w' := by
  have hmm := @run_makeMap Tryz.prog
  have HL := Lib.hid (ev_lookup cmd w)
  unfold evVal at HL
  go_enter Tryz.func43, Tryz.ntmps43
  go_wp2_with (refine wpList_insert rfl _ _ _ 136 rfl 9 3 Tryz.underlying136 Tryz.underlying9 w _ _ _ rfl rfl (by kernel_rfl) ?_)
  erw [HL.out]
  simp only [Result.andThen]
  rw [Oper.upon_value]
  go_wp2
  go_ret
  exact ⟨rfl, (Below.refl _ _).alloc (Nat.le_refl _) _⟩

end Go.Proofs.YtfnfjfcncijapaaGreatDoor
