/- script.isNumbers, isFlags: the forms of arguments. -/
import Derived.Test.YtfnfjfcncijapaaGreatDoorSplit
import Derived.Test.YtfnfjfcncijapaaGreatDoorEnv
import Derived.Shelf.Strings.SlTrimAscii
namespace Go.Proofs.YtfnfjfcncijapaaGreatDoor
open Go.RowKit Go.Shelf
attribute [local go_sem] Oper.semAt_some

def numsB (l : List UInt8) : Bool := (parts 44 l).all isNumB
def flagsB (l : List UInt8) : Bool := (Lib.trimS l [48, 49]).isEmpty

theorem Below.after {F : Nat → Prop} {n : Nat} {w A B : World} (h : Below n w A) (k : Kept F A B) (hF : ∀ x, F x → n ≤ x) (hn : n ≤ w.heap.size) : Below n w B :=
  h.trans (k.below (Nat.le_trans hn h.size) hF)

theorem info203 : (Tryz.prog.info? 203).map (fun i => (i.zero, i.size)) = some (some (.agg (Array.replicate 256 (.bool false))), 256) := by kernel_rfl
theorem trim01 (s : ByteArray) (w : World) (hs : s.size ≤ 140737488355328) :
    Calls Tryz.prog 109 #[.string s, .string ⟨#[48, 49]⟩] w fun e w' => e = .returned (.string (ba (Lib.trimS s.data.toList [48, 49]))) ∧ Below w.heap.size w w' :=
  Any.strings_Trim_laid Tryz.lays160 info203 s ⟨#[48, 49]⟩ w (by omega) (by decide) (ascii_of_all (by decide))

set_option maxHeartbeats 400000 in
theorem isFlags_any (s : ByteArray) (w : World) (hs : s.size ≤ 140737488355328) :
    Calls Tryz.prog 95 #[.string s] w fun e w' => e = .returned (.bool (flagsB s.data.toList)) ∧ Below w.heap.size w w' := by
  unfold flagsB
  generalize ht : Lib.trimS s.data.toList [48, 49] = t
  have HT := Lib.hid ht
  clear ht
  go_enter Tryz.func95, Tryz.ntmps95
  go_wp2_with fail
  refine (trim01 s _ hs).mono ?_
  rw [HT.out]
  rintro e w1 ⟨rfl, b1⟩
  go_wp2_with fail
  go_ret
  refine ⟨?_, b1⟩
  show Ending.returned (.bool (ba t).toList.isEmpty) = _
  rw [Lib.toList_data, ba_toList]

set_option maxRecDepth 100000 in
set_option maxHeartbeats 2000000 in
theorem isNumbers_any (s : ByteArray) (w : World) (hE : Env w) (hs : s.size ≤ 140737488355328) :
    Calls Tryz.prog 94 #[.string s] w fun e w' => e = .returned (.bool (numsB s.data.toList)) ∧ Below w.heap.size w w' := by
  refine (callsIn_wide (n := 0)).1 ?_
  refine callsIn_of_wp_marks Tryz.func94 rfl trivial ?_ rfl
  simp only [Tryz.ntmps94, List.size_toArray, List.length_cons, List.length_nil, Nat.reduceAdd, Nat.reduceSub, Array.replicate_succ, Array.replicate_zero, List.push_toArray, List.append_toArray, List.nil_append, List.cons_append]
  have hfn : ∀ f, Fence.wide.fn f := fun _ => trivial
  have hdp : Fence.wide.depth = none := rfl
  gi_wp2_with (gi_at_call 29; refine (callsIn_wide.2 (splitSeq_call s 44 _)).mono ?_; rintro e w' ⟨rfl, rfl⟩)
  have by0 := (((Blk.new w 4 #[.bool false]).alloc (.cells #[.string s] 9)).alloc (.cells #[.string ⟨#[44]⟩] 9)).alloc (.cells #[.int .i64 0] 3)
  have bs0 := ((Blk.new (w.alloc (.cells #[.bool false] 4)) 9 #[.string s]).alloc (.cells #[.string ⟨#[44]⟩] 9)).alloc (.cells #[.int .i64 0] 3)
  have bs1 := (Blk.new ((w.alloc (.cells #[.bool false] 4)).alloc (.cells #[.string s] 9)) 9 #[.string ⟨#[44]⟩]).alloc (.cells #[.int .i64 0] 3)
  have bs2 := Blk.new (((w.alloc (.cells #[.bool false] 4)).alloc (.cells #[.string s] 9)).alloc (.cells #[.string ⟨#[44]⟩] 9)) 3 #[.int .i64 0]
  have kW := ((((Kept.refl NoF w).alloc (.cells #[.bool false] 4)).alloc (.cells #[.string s] 9)).alloc (.cells #[.string ⟨#[44]⟩] 9)).alloc (.cells #[.int .i64 0] 3)
  have hsz : ((((w.alloc (.cells #[.bool false] 4)).alloc (.cells #[.string s] 9)).alloc (.cells #[.string ⟨#[44]⟩] 9)).alloc (.cells #[.int .i64 0] 3)).heap.size = w.heap.size + 4 := by simp
  simp only [World.size_alloc] at bs0 bs1 bs2
  generalize (((w.alloc (.cells #[.bool false] 4)).alloc (.cells #[.string s] 9)).alloc (.cells #[.string ⟨#[44]⟩] 9)).alloc (.cells #[.int .i64 0] 3) = w4 at by0 bs0 bs1 bs2 kW hsz ⊢
  have b4 : Below w.heap.size w w4 := kW.below (Nat.le_refl _) (fun _ h => h.elim)
  have HSZ := Lib.hid hsz
  clear hsz kW
  have hn16 := hE.size
  have hpr : ∀ k, Priv w4.heap.size (SplitB (w.heap.size + 1)) k → w.heap.size < k := fun k hk => by
    have := HSZ.out
    rcases hk with h | h | h
    · omega
    · omega
    · unfold SplitB at h; omega
  refine wp_range (gf := 85) (lb := #[.pointer (some ⟨w.heap.size + 1 + 1, 0, none⟩), .pointer (some ⟨w.heap.size + 1, 0, none⟩), .pointer (some ⟨w.heap.size + 1 + 2, 0, none⟩)]) (vs := (parts 44 s.data.toList).map (fun p => #[.string (ba p)])) (S := SplitB (w.heap.size + 1)) rfl (enters_of Tryz.func85 (by kernel_rfl) rfl)
    (fun r => split_iter (w.heap.size + 1) 44 s _ ((bs0.alloc _).alloc _) ((bs1.alloc _).alloc _) ((bs2.alloc _).alloc _) (by omega)) ?hS ?hps
    (fun i Wc => Blk Wc w.heap.size 4 #[.bool false] ∧ ((parts 44 s.data.toList).take i).all isNumB = true ∧ Below w.heap.size w Wc) (fun c _ Wc => c = .ret ∧ Blk Wc w.heap.size 4 #[.bool false] ∧ numsB s.data.toList = false ∧ Below w.heap.size w Wc) ?hI ?hIx ?h0
    (fun i => { tmps := #[.string s, undef, .pointer (some ⟨w.heap.size, 0, none⟩), .string (ba ((parts 44 s.data.toList).getD i [])), .string s, .func (.func 85) #[] #[.pointer (some ⟨w.heap.size + 1 + 1, 0, none⟩), .pointer (some ⟨w.heap.size + 1, 0, none⟩), .pointer (some ⟨w.heap.size + 1 + 2, 0, none⟩)], .string (ba ((parts 44 s.data.toList).getD i [])), undef, undef, undef], defers := [] }) ?hassign ?hbody ?hdone ?hstop
  case hS =>
    intro k hk
    have := HSZ.out
    unfold SplitB at hk
    omega
  case hps =>
    intro v hv
    obtain ⟨p, _, rfl⟩ := List.mem_map.1 hv
    rfl
  case hI =>
    rintro i A B ⟨hb, ha, hw⟩ hk
    exact ⟨hk.blk hb (fun h => by have := hpr _ h; omega), ha, Below.after hw hk (fun x hx => by have := hpr _ hx; omega) (Nat.le_refl _)⟩
  case hIx =>
    rintro c i A B ⟨hc, hb, ha, hw⟩ hk
    exact ⟨hc, hk.blk hb (fun h => by have := hpr _ h; omega), ha, Below.after hw hk (fun x hx => by have := hpr _ hx; omega) (Nat.le_refl _)⟩
  case h0 => exact ⟨by0, by simp, b4⟩
  case hassign =>
    intro l' i h Wc K hK
    have hlen : i < (parts 44 s.data.toList).length := by simpa using h
    have hg : (parts 44 s.data.toList).getD i [] = (parts 44 s.data.toList)[i] := by simp [hlen]
    rw [hg] at hK
    simp only [List.getElem_map]
    generalize (parts 44 s.data.toList)[i] = p at hK ⊢
    gi_wp2
    exact hK
  case hbody =>
    rintro l' i h Wc ⟨hb, ha, hw⟩ hlt
    have hlen : i < (parts 44 s.data.toList).length := by simpa using h
    have hg : (parts 44 s.data.toList).getD i [] = (parts 44 s.data.toList)[i] := by simp [hlen]
    have hpl := parts_mem_le (List.getElem_mem hlen)
    rw [← size_list] at hpl
    have hfn' : ∀ f, (Fence.wide.inRound l').fn f := fun _ => trivial
    have hdp' : (Fence.wide.inRound l').depth = none := rfl
    have hEc := hE.below hw hn16
    have CN := isNumber_any (ba (parts 44 s.data.toList)[i]) Wc hEc (by rw [ba_size]; omega)
    rw [ba_toList] at CN
    have htk : ((parts 44 s.data.toList).take (i + 1)).all isNumB = isNumB (parts 44 s.data.toList)[i] := by
      rw [List.take_succ_eq_append_getElem hlen, List.all_append, ha]
      simp
    have hall : isNumB (parts 44 s.data.toList)[i] = false → numsB s.data.toList = false := fun hf => by
      unfold numsB
      rw [List.all_eq_false]
      exact ⟨_, List.getElem_mem hlen, by simp [hf]⟩
    rw [hg]
    have HTK := Lib.hid htk
    have HALL := Lib.hid hall
    clear hg htk hall ha
    generalize (parts 44 s.data.toList)[i] = p at CN HTK HALL hpl ⊢
    cases hnb : isNumB p
    · rw [hnb] at CN
      have HN := Lib.hid CN
      have HF := Lib.hid (HALL.out hnb)
      clear CN hnb HTK HALL
      gi_wp2_with fail
      refine (CallsIn.inRound l' (callsIn_wide.2 HN.out)).mono ?_
      rintro e W3 ⟨rfl, b3⟩
      have hb3 := hb.below b3 hb.lt
      have c3 : W3.cell? ⟨w.heap.size, 0, none⟩ = some (.bool false) := (hb3.cell 0).trans rfl
      have f3 := hb3.frozen 0
      have s3 : Same (Priv w4.heap.size (SplitB (w.heap.size + 1))) Wc W3 := Same.of_kept (Kept.of_below (F := NoF) b3) hlt (fun _ _ h => h)
      gi_wp2
      refine ⟨s3.trans ⟨by simp [World.setCell], fun k hk => Below.heap_setCell _ _ _ k (by have := hpr _ hk; simp; omega)⟩, rfl, hb3.set_ 0 _, HF.out, ?_⟩
      exact (hw.trans (b3.mono (Nat.le_trans (Nat.le_refl _) hw.size))).setCell (p := ⟨w.heap.size, 0, none⟩) (Nat.le_refl _) _
    · rw [hnb] at CN
      have HN := Lib.hid CN
      have HT' := Lib.hid (HTK.out.trans hnb)
      clear CN hnb HTK HALL
      gi_wp2_with fail
      refine (CallsIn.inRound l' (callsIn_wide.2 HN.out)).mono ?_
      rintro e W3 ⟨rfl, b3⟩
      have hb3 := hb.below b3 hb.lt
      gi_wp2
      exact ⟨Same.of_kept (Kept.of_below (F := NoF) b3) hlt (fun _ _ h => h), hb3, HT'.out, hw.trans (b3.mono hw.size)⟩
  case hdone =>
    rintro Wc ⟨hb, ha, hw⟩ hD
    rw [List.length_map, List.take_length] at ha
    have c3 : Wc.cell? ⟨w.heap.size, 0, none⟩ = some (.bool false) := (hb.cell 0).trans rfl
    have f3 := hb.frozen 0
    have HA := Lib.hid ha
    clear ha
    gi_wp2
    have hD' : (Wc.setCell ⟨w.heap.size, 0, none⟩ (.bool true)).heap[w4.heap.size]? = some (.deferred (some [])) := (Below.heap_setCell _ _ _ _ (by have := HSZ.out; simp; omega)).trans hD
    refine ⟨by simp, .inl ⟨_, _, rfl, run_takeDeferred hD', ?_⟩⟩
    have hbt := hb.set_ 0 (.bool true)
    have kp : Kept (fun k => k = w4.heap.size) (Wc.setCell ⟨w.heap.size, 0, none⟩ (.bool true)) ((Wc.setCell ⟨w.heap.size, 0, none⟩ (.bool true)).putObj w4.heap.size (.deferred none)) := Kept.putObj _ rfl
    have hbp := kp.blk hbt (by have := HSZ.out; omega)
    have cp : ((Wc.setCell ⟨w.heap.size, 0, none⟩ (.bool true)).putObj w4.heap.size (.deferred none)).cell? ⟨w.heap.size, 0, none⟩ = some (.bool true) := (hbp.cell 0).trans rfl
    refine ⟨.bool true, ?_, ?_, ?_⟩
    · simp [results, Tryz.f94, go_sem, cp]
    · unfold numsB; rw [HA.out]
    · exact Below.after (hw.setCell (p := ⟨w.heap.size, 0, none⟩) (Nat.le_refl _) _) kp (fun x hx => by have := HSZ.out; omega) (Nat.le_refl _)
  case hstop =>
    rintro c i Wc hi ⟨rfl, hb, ha, hw⟩ hD
    gi_wp2
    refine ⟨by simp, .inl ⟨_, _, rfl, run_takeDeferred hD, ?_⟩⟩
    have kp : Kept (fun k => k = w4.heap.size) Wc (Wc.putObj w4.heap.size (.deferred none)) := Kept.putObj _ rfl
    have hbp := kp.blk hb (by have := HSZ.out; omega)
    have cp : (Wc.putObj w4.heap.size (.deferred none)).cell? ⟨w.heap.size, 0, none⟩ = some (.bool false) := (hbp.cell 0).trans rfl
    refine ⟨.bool false, ?_, ?_, ?_⟩
    · simp [results, Tryz.f94, go_sem, cp]
    · rw [ha]
    · exact Below.after hw kp (fun x hx => by have := HSZ.out; omega) (Nat.le_refl _)

end Go.Proofs.YtfnfjfcncijapaaGreatDoor
