/- script.declarations, script.Setup (printed by genSetU.py). -/
import Derived.Test.YtfnfjfcncijapaaGreatDoorSetV
import Derived.Test.YtfnfjfcncijapaaGreatDoorPrint
namespace Go.Proofs.YtfnfjfcncijapaaGreatDoor
open Go.RowKit Go.Shelf
attribute [local go_sem] Oper.semAt_some

def declMap : Obj := .map (tabEntries fnVal declTab 0).toArray 9
set_option maxHeartbeats 2000000 in
set_option maxRecDepth 100000 in
theorem decls_any (w : World) : Calls Tryz.prog 49 #[] w fun e w' => e = .returned (.map (some w.heap.size)) ∧ w.alloc declMap = w' := by
  have hmm := @run_makeMap Tryz.prog
  go_enter Tryz.func49, Tryz.ntmps49
  go_wp2_with (refine wpList_insert rfl _ _ _ 105 rfl 9 107 Tryz.underlying105 Tryz.underlying9 w _ _ _ rfl rfl (by kernel_rfl) ?_)
  go_ret
  exact ⟨rfl, rfl⟩
theorem zero107 : (Tryz.prog.info? 107).map (·.zero) = some (some .nilFunc) := by kernel_rfl
theorem zeroFn107 (w : World) : (zeroValue 107).run Tryz.prog w = .ok .nilFunc w := by
  obtain ⟨i, hi, hz⟩ := Option.map_eq_some_iff.1 zero107
  simp [zeroValue, typeInfo, hi, hz]
theorem decl_look (cmd : List UInt8) (w : World) (r : Nat) (h : w.heap[r]? = some declMap) : ∃ v, (Instr.lookup 105 (.map (some r)) (.string (ba cmd)) true).run Tryz.prog w = .ok (.tuple #[v, .bool (isDecl cmd)]) w ∧ (isDecl cmd = true → ∃ p, declTab.find? (fun p => p.1 == cmd) = some p ∧ v = .func (.func p.2) #[] #[]) := by
  unfold isDecl
  cases hq : declTab.find? (fun p => p.1 == cmd) with
  | none => exact ⟨_, run_lookup_none Tryz.underlying105 Tryz.underlying9 zeroFn107 h (findNow_none (f := fnVal) (n := 0) (i := 0) (by rw [ba_toList]; exact hq)), fun h => by cases h⟩
  | some p =>
    obtain ⟨j, hj⟩ := findNow_some (f := fnVal) (n := 0) (i := 0) (by rw [ba_toList]; exact hq)
    exact ⟨_, run_lookup_some Tryz.underlying105 Tryz.underlying9 h hj, fun _ => ⟨p, rfl, rfl⟩⟩
theorem decl_enters {cmd : List UInt8} {p : List UInt8 × Nat} (h : declTab.find? (fun p => p.1 == cmd) = some p) : ∀ args w, (callFunc p.2 args).run Tryz.prog w = .ok (.enter p.2 args) w := by
  have hm := List.mem_of_find?_eq_some h
  simp only [declTab, List.mem_cons, List.not_mem_nil, or_false] at hm
  rcases hm with rfl | rfl | rfl | rfl | rfl | rfl | rfl | rfl | rfl
  · exact enters_of Tryz.func73 (by kernel_rfl) rfl
  · exact enters_of Tryz.func74 (by kernel_rfl) rfl
  · exact enters_of Tryz.func75 (by kernel_rfl) rfl
  · exact enters_of Tryz.func76 (by kernel_rfl) rfl
  · exact enters_of Tryz.func77 (by kernel_rfl) rfl
  · exact enters_of Tryz.func78 (by kernel_rfl) rfl
  · exact enters_of Tryz.func79 (by kernel_rfl) rfl
  · exact enters_of Tryz.func80 (by kernel_rfl) rfl
  · exact enters_of Tryz.func81 (by kernel_rfl) rfl
theorem clo_any {w : World} {xb B : Nat} {d : SetD} (h : SetAt w 60 xb B d) (X : Option Addr) (cx : Nat) {cmd : List UInt8} {args : List (List UInt8)} {p : List UInt8 × Nat} (hX : StrsAt w X args) (hk : kindS cmd args ≠ 0) (hp : declTab.find? (fun p => p.1 == cmd) = some p)
    (hXB : ∀ ad, X = some ad → 0 < args.length → ad.block < B ∧ ad.block ≠ xb) (hBw : B ≤ w.heap.size) (hs : ∀ a ∈ args, a.length ≤ 65536) (hne : needsV cmd = true → d.vaults.isEmpty = false) (hN : d.names.length ≤ 100000) (hQ : d.quotas.length ≤ 100000) (hV : d.vaults.length ≤ 100000) :
    Calls Tryz.prog p.2 #[.pointer (some ⟨xb, 0, none⟩), .slice X args.length cx] w fun e w' => (∃ v, e = .returned v) ∧ SetAt w' 60 xb B (decl d cmd args) ∧ Kept (fun k => k = xb ∨ B ≤ k) w w' := by
  have hd : isDecl cmd = true := by unfold isDecl; rw [hp]; rfl
  rcases decl_cases hd with rfl | rfl | rfl | rfl | rfl | rfl | rfl | rfl | rfl
  · obtain rfl : ([100, 101, 118, 105, 99, 101], 73) = p := Option.some.inj ((show declTab.find? (fun p => p.1 == [100, 101, 118, 105, 99, 101]) = some ([100, 101, 118, 105, 99, 101], 73) by decide).symm.trans hp)
    obtain ⟨a0, a1, rfl, c1⟩ := ok_device hk
    exact clo_device h X cx a0 a1 hX hBw (fun ad e => hXB ad e (by simp)) hs c1 hN hQ
  · obtain rfl : ([118, 97, 117, 108, 116], 74) = p := Option.some.inj ((show declTab.find? (fun p => p.1 == [118, 97, 117, 108, 116]) = some ([118, 97, 117, 108, 116], 74) by decide).symm.trans hp)
    obtain ⟨a0, a1, a2, a3, rfl, c0, c1, c2, c3⟩ := ok_vault hk
    exact clo_vault h X cx a0 a1 a2 a3 hX hBw (fun ad e => hXB ad e (by simp)) hs c0 c1 c2 c3 hV
  · obtain rfl : ([99, 117, 116, 116, 105, 110, 103], 75) = p := Option.some.inj ((show declTab.find? (fun p => p.1 == [99, 117, 116, 116, 105, 110, 103]) = some ([99, 117, 116, 116, 105, 110, 103], 75) by decide).symm.trans hp)
    obtain ⟨a0, a1, a2, a3, rfl, c0, c1, c2, c3⟩ := ok_cutting hk
    exact clo_cutting h X cx a0 a1 a2 a3 hX (fun ad e => hXB ad e (by simp)) hs c0 c1 c2 c3 (hne rfl)
  · obtain rfl : ([114, 117, 108, 101, 115], 76) = p := Option.some.inj ((show declTab.find? (fun p => p.1 == [114, 117, 108, 101, 115]) = some ([114, 117, 108, 101, 115], 76) by decide).symm.trans hp)
    obtain ⟨a0, a1, a2, a3, rfl, c0, c1, c2, c3⟩ := ok_rules hk
    exact clo_rules h X cx a0 a1 a2 a3 hX (fun ad e => hXB ad e (by simp)) hs c0 c1 c2 c3 (hne rfl)
  · obtain rfl : ([113, 117, 111, 114, 117, 109], 77) = p := Option.some.inj ((show declTab.find? (fun p => p.1 == [113, 117, 111, 114, 117, 109]) = some ([113, 117, 111, 114, 117, 109], 77) by decide).symm.trans hp)
    obtain ⟨a0, rfl, c0⟩ := ok_quorum hk
    exact clo_quorum h X cx a0 hX (fun ad e => hXB ad e (by simp)) hs c0
  · obtain rfl : ([115, 101, 101, 100], 78) = p := Option.some.inj ((show declTab.find? (fun p => p.1 == [115, 101, 101, 100]) = some ([115, 101, 101, 100], 78) by decide).symm.trans hp)
    obtain ⟨a0, rfl⟩ := ok_seed hk
    exact clo_seed h X cx a0 hX (fun ad e => hXB ad e (by simp)) hs
  · obtain rfl : ([115, 99, 104, 101, 109, 101], 79) = p := Option.some.inj ((show declTab.find? (fun p => p.1 == [115, 99, 104, 101, 109, 101]) = some ([115, 99, 104, 101, 109, 101], 79) by decide).symm.trans hp)
    obtain ⟨a0, a1, rfl, c0, c1⟩ := ok_scheme hk
    exact clo_scheme h X cx a0 a1 hX (fun ad e => hXB ad e (by simp)) hs c0 c1
  · obtain rfl : ([100, 105, 115, 107], 80) = p := Option.some.inj ((show declTab.find? (fun p => p.1 == [100, 105, 115, 107]) = some ([100, 105, 115, 107], 80) by decide).symm.trans hp)
    obtain ⟨a0, a1, rfl, c0, c1⟩ := ok_disk hk
    exact clo_disk h X cx a0 a1 hX (fun ad e => hXB ad e (by simp)) hs c0 c1
  · obtain rfl : ([100, 97, 121, 115], 81) = p := Option.some.inj ((show declTab.find? (fun p => p.1 == [100, 97, 121, 115]) = some ([100, 97, 121, 115], 81) by decide).symm.trans hp)
    obtain ⟨a0, a1, a2, rfl, c0, c1, c2⟩ := ok_days hk
    exact clo_days h X cx a0 a1 a2 hX (fun ad e => hXB ad e (by simp)) hs c0 c1 c2

/-- What is handed out. -/
def SetPost (r : SetD × Int × Int) (w : World) (e : Ending) (w' : World) : Prop :=
  ∃ B nm qs vs vl, e = .returned (.tuple #[.agg (r.1.cells nm qs vs), .int .i64 r.2.1, .int .i64 r.2.2]) ∧ RowsAt w' B r.1 nm qs vs vl ∧ Below w.heap.size w w'
theorem results_set {fn : Func} {t : TypeId} {tmps : Array Value} {W : World} {n : Nat} {cs : Array Value} {fs : Array Field} (hf : fn.results = #[.cell 2 t, .tmp 3, .tmp 4]) (hu : Tryz.prog.underlying t = some (.struct fs)) (hz : (Tryz.prog.info? t).map (·.size) = some cs.size) (h2 : tmps.getD 2 undef = .pointer (some ⟨n, 0, none⟩)) (hb : Blk W n t cs) :
    (results fn tmps).run Tryz.prog W = .ok (.tuple #[.agg cs, tmps.getD 3 undef, tmps.getD 4 undef]) W := by
  have hl := run_loadVar_row (P := Tryz.prog) W n t t cs (0, 0) _ hb hu rfl hz
  simp only [Array.getD_eq_getD_getElem?] at h2
  simp only [results, hf]
  simp [h2, asAddr, hl]
def setList (d : SetD) (nm qs vs : Value) : List (Nat × Value) := [(0, nm), (1, qs), (2, vs), (3, .int .i64 d.quorum), (4, .string (ba d.seed)), (5, .int .i64 d.bits), (6, .int .i64 d.height), (7, .int .i64 d.sectors), (8, .int .i64 d.size), (9, .int .i64 d.day), (10, .int .i64 d.leap), (11, .int .i64 d.agree)]
theorem setList_cells (d f : SetD) (nm qs vs nm' qs' vs' : Value) : (setList d nm qs vs).foldl (fun c p => c.setIfInBounds p.1 p.2) (f.cells nm' qs' vs') = d.cells nm qs vs := by
  simp only [setList, SetD.cells, List.foldl_cons, List.foldl_nil, List.setIfInBounds_toArray, List.set_cons_zero, List.set_cons_succ]
theorem below_puts {B : Nat} {w w' : World} (h : Below B w w') {n : Nat} (hn : B ≤ n) (l : List (Nat × Value)) : Below B w (l.foldl (fun W p => W.setCell ⟨n, p.1, none⟩ p.2) w') := by
  induction l generalizing w' with
  | nil => exact h
  | cons p l ih => exact ih (h.setCell (p := ⟨n, p.1, none⟩) hn p.2)
def SetRel (w w3 : World) (t : TypeId) (xb B : Nat) (l : List StepD) (i : Value) (wr : World) : Prop :=
  ∃ (j : Nat) (d : SetD), j ≤ l.length ∧ i = .int .i64 (j : Int) ∧ setS l 0 set0 = setS (l.drop j) j d ∧ SetAt wr t xb B d ∧ (d.names.length ≤ j ∧ d.quotas.length ≤ j ∧ d.vaults.length ≤ j) ∧ Kept (fun k => k = xb ∨ B ≤ k) w3 wr ∧ B ≤ wr.heap.size ∧ w.heap.size ≤ xb
theorem decl_lens (d : SetD) (cmd : List UInt8) (args : List (List UInt8)) : (decl d cmd args).names.length ≤ d.names.length + 1 ∧ (decl d cmd args).quotas.length ≤ d.quotas.length + 1 ∧ (decl d cmd args).vaults.length ≤ d.vaults.length + 1 := by
  have hl : ∀ f, (lastV d.vaults f).length ≤ d.vaults.length + 1 := fun f => by
    rcases List.eq_nil_or_concat d.vaults with e | ⟨l', v, e⟩
    · rw [e]; simp [lastV]
    · rw [e, List.concat_eq_append, lastV_snoc]; simp
  unfold decl
  repeat' split
  all_goals ((try dsimp only); first | exact ⟨by simp, by simp, hl _⟩ | exact ⟨by simp, by simp, by simp⟩)
set_option maxHeartbeats 8000000 in
set_option maxRecDepth 100000 in
theorem setup_any {A : Option Addr} {l : List StepD} (ca : Nat) (w : World) (hE : Env w) (ha : StepsAt w A l) (hl : l.length ≤ 10000) (hs : ∀ s ∈ l, ∀ a ∈ s.args, a.length ≤ 65536) :
    Calls Tryz.prog 22 #[.slice A l.length ca] w (SetPost (setS l 0 set0) w) := by
  have HBR := Lib.hid (Blk.new w 60 #[.slice none 0 0, .slice none 0 0, .slice none 0 0, .int .i64 0, .string ⟨#[]⟩, .int .i64 0, .int .i64 0, .int .i64 0, .int .i64 0, .int .i64 0, .int .i64 0, .int .i64 0])
  have HBW := Lib.hid ((Below.refl w.heap.size w).alloc (Nat.le_refl _) (.cells #[.slice none 0 0, .slice none 0 0, .slice none 0 0, .int .i64 0, .string ⟨#[]⟩, .int .i64 0, .int .i64 0, .int .i64 0, .int .i64 0, .int .i64 0, .int .i64 0, .int .i64 0] 60))
  have HE := Lib.hid hE
  have HA := Lib.hid ha
  have HS := Lib.hid hs
  clear hE ha hs
  go_enter Tryz.func22, Tryz.ntmps22
  go_upto_region 1 with fail
  generalize w.alloc (.cells #[.slice none 0 0, .slice none 0 0, .slice none 0 0, .int .i64 0, .string ⟨#[]⟩, .int .i64 0, .int .i64 0, .int .i64 0, .int .i64 0, .int .i64 0, .int .i64 0, .int .i64 0] 60) = w0 at HBR HBW ⊢
  generalize hrb0 : w.heap.size = rb at HBR ⊢
  have hrb : w.heap.size ≤ rb := by omega
  have hrl := HBR.out.lt
  clear hrb0
  go_wp2_with fail
  refine (Tryz.strings_Repeat ⟨#[0]⟩ 32 _ (by omega) (by decide)).mono ?_
  rintro e w1 ⟨rfl, b1⟩
  obtain ⟨z, hz⟩ : ∃ z : List UInt8, z = List.replicate 32 0 := ⟨_, rfl⟩
  rw [show (⟨(Lib.repeatL (⟨#[0]⟩ : ByteArray).data.toList 32).toArray⟩ : ByteArray) = ba z by rw [hz]; decide +kernel]
  have HZ := Lib.hid hz
  clear hz
  have HBR1 := Lib.hid ((Kept.of_below (F := NoF) b1).blk HBR.out (fun h => h))
  have HBW1 := Lib.hid (HBW.out.trans (b1.mono HBW.out.size))
  have hrx := HBR1.out.lt
  clear HBR HBW b1 hrl
  go_upto_region 2 with fail
  have HBX := Lib.hid (Blk.new w1 60 #[.slice none 0 0, .slice none 0 0, .slice none 0 0, .int .i64 1, .string (ba z), .int .i64 2, .int .i64 4, .int .i64 8192, .int .i64 1024, .int .i64 0, .int .i64 30, .int .i64 1])
  have HBR2 := Lib.hid (HBR1.out.alloc (.cells #[.slice none 0 0, .slice none 0 0, .slice none 0 0, .int .i64 1, .string (ba z), .int .i64 2, .int .i64 4, .int .i64 8192, .int .i64 1024, .int .i64 0, .int .i64 30, .int .i64 1] 60))
  have HBW2 := Lib.hid (HBW1.out.alloc HBW1.out.size (.cells #[.slice none 0 0, .slice none 0 0, .slice none 0 0, .int .i64 1, .string (ba z), .int .i64 2, .int .i64 4, .int .i64 8192, .int .i64 1024, .int .i64 0, .int .i64 30, .int .i64 1] 60))
  clear HBR1 HBW1
  generalize w1.alloc (.cells #[.slice none 0 0, .slice none 0 0, .slice none 0 0, .int .i64 1, .string (ba z), .int .i64 2, .int .i64 4, .int .i64 8192, .int .i64 1024, .int .i64 0, .int .i64 30, .int .i64 1] 60) = w2 at HBX HBR2 HBW2 ⊢
  generalize w1.heap.size = xb at HBX hrx ⊢
  go_wp2_with fail
  refine (decls_any w2).mono ?_
  rintro e w3 ⟨rfl, hw3⟩
  have HM := Lib.hid (show w3.heap[w2.heap.size]? = some declMap by rw [← hw3]; exact heap_alloc_new w2 _)
  have k23 : Kept NoF w2 w3 := by rw [← hw3]; exact (Kept.refl _ _).alloc _
  have HBX3 := Lib.hid (k23.blk HBX.out (fun h => h))
  have HBR3 := Lib.hid (k23.blk HBR2.out (fun h => h))
  have HBW3 := Lib.hid (show Below w.heap.size w w3 by rw [← hw3]; exact HBW2.out.alloc HBW2.out.size _)
  rw [HZ.out] at HBX3
  have hmb : w2.heap.size < w3.heap.size := (Array.getElem?_eq_some_iff.1 HM.out).1
  have hxm := HBX.out.lt
  clear hw3 k23 HBX HBR2 HBW2
  generalize w2.heap.size = mb at HM hmb hxm ⊢
  obtain ⟨B, hB⟩ : ∃ B, B = w3.heap.size := ⟨_, rfl⟩
  have hBl : B ≤ w3.heap.size := by omega
  have hBm : mb < B := by omega
  clear hB hmb
  go_wp2_with fail
  go_loopw [17] (SetRel w w3 60 xb B l) (fun i _ => l.length - (intOf i).toNat)
  case atStart =>
    exact ⟨0, set0, Nat.zero_le _, rfl, rfl, ⟨by omega, _, _, _, [], HBX3.out, RowsAt.nil _ _ rfl rfl rfl⟩, ⟨Nat.le_refl _, Nat.le_refl _, Nat.le_refl _⟩, Kept.refl _ _, hBl, by omega⟩
  case round =>
    clear HBX3 HZ
    obtain ⟨j, d, hj, rfl, hss, ⟨hxB, nm, qs, vs, vl, bx, hr⟩, ⟨hN, hQ, hV⟩, kw, hBw, hwx⟩ := hrel
    have HSS := Lib.hid hss
    clear hss
    obtain ⟨U1, cu1, rfl, _, _⟩ := own_form hr.n1
    obtain ⟨U2, cu2, rfl, _, _⟩ := own_form hr.n2
    obtain ⟨U3, cu3, rfl, _, _⟩ := own_form hr.n3
    have kNw : Kept NoF w wr := (Kept.of_below HBW3.out).trans kw (fun x h => .inr (by have := HBW3.out.size; omega))
    have bwr : Below w.heap.size w wr := kNw.below (Nat.le_refl _) (fun _ h => h.elim)
    have HBR := Lib.hid (show Blk wr rb 60 (setZ.cells (.slice none 0 0) (.slice none 0 0) (.slice none 0 0)) from kw.blk HBR3.out (by show ¬ (rb = xb ∨ B ≤ rb); omega))
    have HMr := Lib.hid ((kw.block mb (by omega) (by show ¬ (mb = xb ∨ B ≤ mb); omega)).trans HM.out)
    by_cases hlt : j < l.length
    · obtain ⟨ab, ao, X, cx, rfl, hab, c0, c1, hX⟩ := (HA.out.same kNw).at_ hlt
      have hab' : ab < w.heap.size := by
        obtain ⟨_, _, _, _, e, h, _⟩ := HA.out.at_ hlt
        injection e with e
        injection e with e1 _
        rw [e1]; exact h
      have hXb : ∀ ad, X = some ad → 0 < l[j].args.length → ad.block < w.heap.size := by
        obtain ⟨_, _, X', cx', e, h, _, c1', hX'⟩ := HA.out.at_ hlt
        injection e with e
        injection e with e1 e2
        subst e1
        subst e2
        have := (kNw.cell c1' (fun h => h)).symm.trans c1
        injection this with this
        injection this with hXX _ _
        subst hXX
        intro ad ea hp
        obtain ⟨ad', ea', hb, _⟩ := hX'.2 hp
        rw [ea] at ea'
        injection ea' with ea'
        subst ea'
        exact hb
      have i1 : (j : Int) < (l.length : Int) := by omega
      have HST := Lib.hid (show setS (l.drop j) j d = _ from by rw [List.drop_eq_getElem_cons hlt, setS_cons])
      have HSJ := Lib.hid (HS.out _ (List.getElem_mem hlt))
      have k4 := (Kept.refl NoF wr).alloc (.cells #[.string (ba l[j].cmd), .slice X l[j].args.length cx] 45)
      have bs := Blk.new wr 45 #[.string (ba l[j].cmd), .slice X l[j].args.length cx]
      have hEw := HE.out.later bwr
      go_upto_region 6 with fail
      generalize l[j] = st at bs k4 HST HSJ c0 c1 hX hXb ⊢
      obtain ⟨cmd, args⟩ := st
      dsimp only at bs k4 HST HSJ c0 c1 hX hXb ⊢
      generalize wr.alloc (.cells #[.string (ba cmd), .slice X args.length cx] 45) = w4 at bs k4 ⊢
      have hwr := bx.lt
      generalize hsbe : wr.heap.size = sb at bs ⊢
      have hsb : wr.heap.size ≤ sb := by omega
      clear hsbe
      have hm4 := (k4.block mb (by omega) (fun h => h)).trans HMr.out
      have hwr4 := k4.size
      have bx4 := k4.blk bx (fun h => h)
      have hr4 := hr.same k4
      have HBR4 := Lib.hid (k4.blk HBR.out (fun h => h))
      have kw4 := kw.trans k4 (fun _ h => h.elim)
      have bw4 := (kNw.trans k4 (fun _ h => h.elim)).below (Nat.le_refl _) (fun _ h => h.elim)
      have hX4 := hX.same k4
      have hB4 : B ≤ w4.heap.size := by omega
      obtain ⟨v, hlook, hv⟩ := decl_look cmd w4 mb hm4
      have s0 := (bs.cell 0).trans (show _ = some (.string (ba cmd)) from rfl)
      have s1 := (bs.cell 1).trans (show _ = some (.slice X args.length cx) from rfl)
      clear HBR HMr k4 bx hr kNw bwr hX c0 c1 hm4
      unfold SetD.cells at bx4
      cases hd : isDecl cmd
      · rw [hd] at hlook
        have HSE := Lib.hid (show setS l 0 set0 = (d, (j : Int), 0) by rw [HSS.out, HST.out, if_pos hd])
        clear HSS HST hv hd
        have x0 := (bx4.cell 0).trans (show _ = some (.slice U1 d.names.length cu1) from rfl)
        have x1 := (bx4.cell 1).trans (show _ = some (.slice U2 d.quotas.length cu2) from rfl)
        have x2 := (bx4.cell 2).trans (show _ = some (.slice U3 d.vaults.length cu3) from rfl)
        have x3 := (bx4.cell 3).trans (show _ = some (.int .i64 d.quorum) from rfl)
        have x4 := (bx4.cell 4).trans (show _ = some (.string (ba d.seed)) from rfl)
        have x5 := (bx4.cell 5).trans (show _ = some (.int .i64 d.bits) from rfl)
        have x6 := (bx4.cell 6).trans (show _ = some (.int .i64 d.height) from rfl)
        have x7 := (bx4.cell 7).trans (show _ = some (.int .i64 d.sectors) from rfl)
        have x8 := (bx4.cell 8).trans (show _ = some (.int .i64 d.size) from rfl)
        have x9 := (bx4.cell 9).trans (show _ = some (.int .i64 d.day) from rfl)
        have x10 := (bx4.cell 10).trans (show _ = some (.int .i64 d.leap) from rfl)
        have x11 := (bx4.cell 11).trans (show _ = some (.int .i64 d.agree) from rfl)
        have zr : ∀ i, w4.frozen? ⟨rb, i, none⟩ = false := fun i => HBR4.out.frozen i
        have r0 := (HBR4.out.cell 0).trans (show _ = some (.slice none 0 0) from rfl)
        have r1 := (HBR4.out.cell 1).trans (show _ = some (.slice none 0 0) from rfl)
        have r2 := (HBR4.out.cell 2).trans (show _ = some (.slice none 0 0) from rfl)
        have r3 := (HBR4.out.cell 3).trans (show _ = some (.int .i64 0) from rfl)
        have r4 := (HBR4.out.cell 4).trans (show _ = some (.string ⟨#[]⟩) from rfl)
        have r5 := (HBR4.out.cell 5).trans (show _ = some (.int .i64 0) from rfl)
        have r6 := (HBR4.out.cell 6).trans (show _ = some (.int .i64 0) from rfl)
        have r7 := (HBR4.out.cell 7).trans (show _ = some (.int .i64 0) from rfl)
        have r8 := (HBR4.out.cell 8).trans (show _ = some (.int .i64 0) from rfl)
        have r9 := (HBR4.out.cell 9).trans (show _ = some (.int .i64 0) from rfl)
        have r10 := (HBR4.out.cell 10).trans (show _ = some (.int .i64 0) from rfl)
        have r11 := (HBR4.out.cell 11).trans (show _ = some (.int .i64 0) from rfl)
        go_wp2_with fail
        have hbz := blk_puts HBR4.out (setList d (.slice U1 d.names.length cu1) (.slice U2 d.quotas.length cu2) (.slice U3 d.vaults.length cu3))
        rw [setList_cells] at hbz
        have kz := kept_puts0 (Kept.refl (fun b => b = rb) w4) rb rfl (setList d (.slice U1 d.names.length cu1) (.slice U2 d.quotas.length cu2) (.slice U3 d.vaults.length cu3))
        have hz := RowsAt.kept hr4 kz (fun b e => by omega)
        have hbl := below_puts bw4 (n := rb) hrb (setList d (.slice U1 d.names.length cu1) (.slice U2 d.quotas.length cu2) (.slice U3 d.vaults.length cu3))
        simp only [setList, List.foldl_cons, List.foldl_nil] at hbz kz hz hbl
        refine bodyPost_ret (results_set (cs := SetD.cells d (.slice U1 d.names.length cu1) (.slice U2 d.quotas.length cu2) (.slice U3 d.vaults.length cu3)) Tryz.results22 Tryz.underlying60 (by kernel_rfl) rfl hbz) rfl ?_
        rw [HSE.out]
        exact ⟨B, _, _, _, _, rfl, hz, hbl⟩
      · rw [hd] at hlook
        obtain ⟨p, hp, rfl⟩ := hv hd
        have HP := Lib.hid hp
        have HD := Lib.hid hd
        have CV := valid_any (ba cmd) X cx args w4 (HE.out.later bw4) hX4 (fun a ha => HSJ.out a ha)
        rw [ba_toList] at CV
        have HCV := Lib.hid CV
        clear hv hd hp CV
        go_wp2_with fail
        refine HCV.out.mono ?_
        clear HCV
        rintro e w5 ⟨rfl, b5⟩
        have k5 : Kept NoF w4 w5 := Kept.of_below b5
        have bx5 := k5.blk bx4 (fun h => h)
        have hr5 := hr4.same k5
        have HBR5 := Lib.hid (k5.blk HBR4.out (fun h => h))
        have kw5 := kw4.trans k5 (fun _ h => h.elim)
        have bw5 := bw4.trans (b5.mono bw4.size)
        have hX5 := hX4.same k5
        have bs5 := k5.blk bs (fun h => h)
        have hB5 := Nat.le_trans hB4 k5.size
        clear s0 s1 hlook k5 bx4 hr4 HBR4 kw4 bw4 hX4 bs b5 hB4
        cases hok : (kindS cmd args != 0)
        · have HSE := Lib.hid (show setS l 0 set0 = (setZ, (j : Int), 1) by rw [HSS.out, HST.out, if_neg (show ¬ isDecl cmd = false by rw [HD.out]; simp), if_pos (show kindS cmd args = 0 by simpa using hok)])
          clear HSS HST hok
          have hr5 := RowsAt.nil w5 B (d := setZ) rfl rfl rfl
          have zr : ∀ i, w5.frozen? ⟨rb, i, none⟩ = false := fun i => HBR5.out.frozen i
          have r0 := (HBR5.out.cell 0).trans (show _ = some (.slice none 0 0) from rfl)
          have r1 := (HBR5.out.cell 1).trans (show _ = some (.slice none 0 0) from rfl)
          have r2 := (HBR5.out.cell 2).trans (show _ = some (.slice none 0 0) from rfl)
          have r3 := (HBR5.out.cell 3).trans (show _ = some (.int .i64 0) from rfl)
          have r4 := (HBR5.out.cell 4).trans (show _ = some (.string ⟨#[]⟩) from rfl)
          have r5 := (HBR5.out.cell 5).trans (show _ = some (.int .i64 0) from rfl)
          have r6 := (HBR5.out.cell 6).trans (show _ = some (.int .i64 0) from rfl)
          have r7 := (HBR5.out.cell 7).trans (show _ = some (.int .i64 0) from rfl)
          have r8 := (HBR5.out.cell 8).trans (show _ = some (.int .i64 0) from rfl)
          have r9 := (HBR5.out.cell 9).trans (show _ = some (.int .i64 0) from rfl)
          have r10 := (HBR5.out.cell 10).trans (show _ = some (.int .i64 0) from rfl)
          have r11 := (HBR5.out.cell 11).trans (show _ = some (.int .i64 0) from rfl)
          go_wp2_with fail
          have hbz := blk_puts HBR5.out (setList setZ (.slice none 0 0) (.slice none 0 0) (.slice none 0 0))
          rw [setList_cells] at hbz
          have kz := kept_puts0 (Kept.refl (fun b => b = rb) w5) rb rfl (setList setZ (.slice none 0 0) (.slice none 0 0) (.slice none 0 0))
          have hz := RowsAt.kept hr5 kz (fun b e => by omega)
          have hbl := below_puts bw5 (n := rb) hrb (setList setZ (.slice none 0 0) (.slice none 0 0) (.slice none 0 0))
          simp only [setList, List.foldl_cons, List.foldl_nil] at hbz kz hz hbl
          refine bodyPost_ret (results_set (cs := SetD.cells setZ (.slice none 0 0) (.slice none 0 0) (.slice none 0 0)) Tryz.results22 Tryz.underlying60 (by kernel_rfl) rfl hbz) rfl ?_
          rw [HSE.out]
          exact ⟨B, _, _, _, _, rfl, hz, hbl⟩
        · have HOK := Lib.hid (show kindS cmd args ≠ 0 by simpa using hok)
          have s0 := (bs5.cell 0).trans (show _ = some (.string (ba cmd)) from rfl)
          have s1 := (bs5.cell 1).trans (show _ = some (.slice X args.length cx) from rfl)
          have CN := needsVault_any (ba cmd) X args.length cx w5
          rw [ba_toList] at CN
          have HCN := Lib.hid CN
          clear hok CN
          go_wp2_with fail
          refine HCN.out.mono ?_
          clear HCN
          rintro e w6 ⟨rfl, b6⟩
          have k6 : Kept NoF w5 w6 := Kept.of_below b6
          have bx6 := k6.blk bx5 (fun h => h)
          have hr6 := hr5.same k6
          have HBR6 := Lib.hid (k6.blk HBR5.out (fun h => h))
          have kw6 := kw5.trans k6 (fun _ h => h.elim)
          have bw6 := bw5.trans (b6.mono bw5.size)
          have hX6 := hX5.same k6
          have bs6 := k6.blk bs5 (fun h => h)
          have hB6 := Nat.le_trans hB5 k6.size
          clear s0 s1 k6 bx5 hr5 HBR5 kw5 bw5 hX5 bs5 b6 hB5
          have x2 := (bx6.cell 2).trans (show _ = some (.slice U3 d.vaults.length cu3) from rfl)
          have key : ((needsV cmd && d.vaults.isEmpty) = true ∧ needsV cmd = true ∧ ((d.vaults.length : Int) == 0) = true) ∨ ((needsV cmd && d.vaults.isEmpty) = false ∧ needsV cmd = true ∧ ((d.vaults.length : Int) == 0) = false ∧ d.vaults.isEmpty = false) ∨ ((needsV cmd && d.vaults.isEmpty) = false ∧ needsV cmd = false) := by
            cases needsV cmd
            · exact .inr (.inr ⟨rfl, rfl⟩)
            · cases hv : d.vaults with
              | nil => exact .inl ⟨rfl, rfl, rfl⟩
              | cons a r => exact .inr (.inl ⟨rfl, rfl, by simp; omega, rfl⟩)
          rcases key with ⟨h1, h2, h3⟩ | h123
          · have HSE := Lib.hid (show setS l 0 set0 = (setZ, (j : Int), 6) by rw [HSS.out, HST.out, if_neg (show ¬ isDecl cmd = false by rw [HD.out]; simp), if_neg HOK.out, if_pos h1])
            rw [h2]
            clear HSS HST h1 h2
            have hr6 := RowsAt.nil w6 B (d := setZ) rfl rfl rfl
            have zr : ∀ i, w6.frozen? ⟨rb, i, none⟩ = false := fun i => HBR6.out.frozen i
            have r0 := (HBR6.out.cell 0).trans (show _ = some (.slice none 0 0) from rfl)
            have r1 := (HBR6.out.cell 1).trans (show _ = some (.slice none 0 0) from rfl)
            have r2 := (HBR6.out.cell 2).trans (show _ = some (.slice none 0 0) from rfl)
            have r3 := (HBR6.out.cell 3).trans (show _ = some (.int .i64 0) from rfl)
            have r4 := (HBR6.out.cell 4).trans (show _ = some (.string ⟨#[]⟩) from rfl)
            have r5 := (HBR6.out.cell 5).trans (show _ = some (.int .i64 0) from rfl)
            have r6 := (HBR6.out.cell 6).trans (show _ = some (.int .i64 0) from rfl)
            have r7 := (HBR6.out.cell 7).trans (show _ = some (.int .i64 0) from rfl)
            have r8 := (HBR6.out.cell 8).trans (show _ = some (.int .i64 0) from rfl)
            have r9 := (HBR6.out.cell 9).trans (show _ = some (.int .i64 0) from rfl)
            have r10 := (HBR6.out.cell 10).trans (show _ = some (.int .i64 0) from rfl)
            have r11 := (HBR6.out.cell 11).trans (show _ = some (.int .i64 0) from rfl)
            go_wp2_with fail
            have hbz := blk_puts HBR6.out (setList setZ (.slice none 0 0) (.slice none 0 0) (.slice none 0 0))
            rw [setList_cells] at hbz
            have kz := kept_puts0 (Kept.refl (fun b => b = rb) w6) rb rfl (setList setZ (.slice none 0 0) (.slice none 0 0) (.slice none 0 0))
            have hz := RowsAt.kept hr6 kz (fun b e => by omega)
            have hbl := below_puts bw6 (n := rb) hrb (setList setZ (.slice none 0 0) (.slice none 0 0) (.slice none 0 0))
            simp only [setList, List.foldl_cons, List.foldl_nil] at hbz kz hz hbl
            refine bodyPost_ret (results_set (cs := SetD.cells setZ (.slice none 0 0) (.slice none 0 0) (.slice none 0 0)) Tryz.results22 Tryz.underlying60 (by kernel_rfl) rfl hbz) rfl ?_
            rw [HSE.out]
            exact ⟨B, _, _, _, _, rfl, hz, hbl⟩
          · have h1 : (needsV cmd && d.vaults.isEmpty) = false := by rcases h123 with h | h <;> exact h.1
            have hne : needsV cmd = true → d.vaults.isEmpty = false := fun h => by
              rcases h123 with h' | h'
              · exact h'.2.2.2
              · rw [h'.2] at h; cases h
            have HSE := Lib.hid (show setS l 0 set0 = setS (l.drop (j + 1)) (j + 1) (decl d cmd args) by rw [HSS.out, HST.out, if_neg (show ¬ isDecl cmd = false by rw [HD.out]; simp), if_neg HOK.out, if_neg (show ¬ (needsV cmd && d.vaults.isEmpty) = true by rw [h1]; simp)])
            have hLN := decl_lens d cmd args
            have hEnt := decl_enters HP.out
            have HCC := Lib.hid (clo_any ⟨hxB, _, _, _, vl, bx6, hr6⟩ X cx hX6 HOK.out HP.out (fun ad e hp => by have := hXb ad e hp; exact ⟨by omega, by omega⟩) hB6 (fun a ha => HSJ.out a ha) hne (by omega) (by omega) (by omega))
            have s1 := (bs6.cell 1).trans (show _ = some (.slice X args.length cx) from rfl)
            clear HSS HST h1 hne
            clear hXb
            rcases h123 with ⟨_, h2, h3, _⟩ | ⟨_, h2⟩ <;> rw [h2]
            all_goals
              clear h2
              go_wp2_with fail
              refine HCC.out.mono ?_
              clear HCC
              rintro e w7 ⟨⟨v7, rfl⟩, hs7, k7⟩
              have kw7 := kw6.trans k7 (fun x h => .inl h)
              have hB7 := Nat.le_trans hB6 k7.size
              clear hEnt
              go_wp2_with fail
              go_roundw
              case rel => exact ⟨j + 1, decl d cmd args, hlt, by go_num, HSE.out, hs7, ⟨by omega, by omega, by omega⟩, kw7, hB7, hwx⟩
              case measure => simp [intOf]; omega
    · obtain rfl : j = l.length := by omega
      have HSE := Lib.hid (show setS l 0 set0 = (d, (l.length : Int), 0) by rw [HSS.out, List.drop_length]; rfl)
      clear HSS
      unfold SetD.cells at bx
      have x0 := (bx.cell 0).trans (show _ = some (.slice U1 d.names.length cu1) from rfl)
      have x1 := (bx.cell 1).trans (show _ = some (.slice U2 d.quotas.length cu2) from rfl)
      have x2 := (bx.cell 2).trans (show _ = some (.slice U3 d.vaults.length cu3) from rfl)
      have x3 := (bx.cell 3).trans (show _ = some (.int .i64 d.quorum) from rfl)
      have x4 := (bx.cell 4).trans (show _ = some (.string (ba d.seed)) from rfl)
      have x5 := (bx.cell 5).trans (show _ = some (.int .i64 d.bits) from rfl)
      have x6 := (bx.cell 6).trans (show _ = some (.int .i64 d.height) from rfl)
      have x7 := (bx.cell 7).trans (show _ = some (.int .i64 d.sectors) from rfl)
      have x8 := (bx.cell 8).trans (show _ = some (.int .i64 d.size) from rfl)
      have x9 := (bx.cell 9).trans (show _ = some (.int .i64 d.day) from rfl)
      have x10 := (bx.cell 10).trans (show _ = some (.int .i64 d.leap) from rfl)
      have x11 := (bx.cell 11).trans (show _ = some (.int .i64 d.agree) from rfl)
      have zr : ∀ i, wr.frozen? ⟨rb, i, none⟩ = false := fun i => HBR.out.frozen i
      have r0 := (HBR.out.cell 0).trans (show _ = some (.slice none 0 0) from rfl)
      have r1 := (HBR.out.cell 1).trans (show _ = some (.slice none 0 0) from rfl)
      have r2 := (HBR.out.cell 2).trans (show _ = some (.slice none 0 0) from rfl)
      have r3 := (HBR.out.cell 3).trans (show _ = some (.int .i64 0) from rfl)
      have r4 := (HBR.out.cell 4).trans (show _ = some (.string ⟨#[]⟩) from rfl)
      have r5 := (HBR.out.cell 5).trans (show _ = some (.int .i64 0) from rfl)
      have r6 := (HBR.out.cell 6).trans (show _ = some (.int .i64 0) from rfl)
      have r7 := (HBR.out.cell 7).trans (show _ = some (.int .i64 0) from rfl)
      have r8 := (HBR.out.cell 8).trans (show _ = some (.int .i64 0) from rfl)
      have r9 := (HBR.out.cell 9).trans (show _ = some (.int .i64 0) from rfl)
      have r10 := (HBR.out.cell 10).trans (show _ = some (.int .i64 0) from rfl)
      have r11 := (HBR.out.cell 11).trans (show _ = some (.int .i64 0) from rfl)
      go_wp2_with fail
      have hbz := blk_puts HBR.out (setList d (.slice U1 d.names.length cu1) (.slice U2 d.quotas.length cu2) (.slice U3 d.vaults.length cu3))
      rw [setList_cells] at hbz
      have kz := kept_puts0 (Kept.refl (fun b => b = rb) wr) rb rfl (setList d (.slice U1 d.names.length cu1) (.slice U2 d.quotas.length cu2) (.slice U3 d.vaults.length cu3))
      have hz := RowsAt.kept hr kz (fun b e => by omega)
      have hbl := below_puts bwr (n := rb) hrb (setList d (.slice U1 d.names.length cu1) (.slice U2 d.quotas.length cu2) (.slice U3 d.vaults.length cu3))
      simp only [setList, List.foldl_cons, List.foldl_nil] at hbz kz hz hbl
      refine bodyPost_ret (results_set (cs := SetD.cells d (.slice U1 d.names.length cu1) (.slice U2 d.quotas.length cu2) (.slice U3 d.vaults.length cu3)) Tryz.results22 Tryz.underlying60 (by kernel_rfl) rfl hbz) rfl ?_
      rw [HSE.out]
      exact ⟨B, _, _, _, _, rfl, hz, hbl⟩


end Go.Proofs.YtfnfjfcncijapaaGreatDoor
