/- script.words: the iterator over the words of a line. -/
import Derived.Test.YtfnfjfcncijapaaGreatDoorSplit
namespace Go.Proofs.YtfnfjfcncijapaaGreatDoor
open Go.RowKit Go.Shelf
attribute [local go_sem] Oper.semAt_some

/-- The words of a line. -/
def wordsOf (l : List UInt8) : List (List UInt8) := (parts 32 l).filter (fun p => !p.isEmpty)
/-- How many of the first i parts are words. -/
def wcount (l : List UInt8) (i : Nat) : Nat := (((parts 32 l).take i).filter (fun p => !p.isEmpty)).length
theorem wcount_zero (l : List UInt8) : wcount l 0 = 0 := by simp [wcount]
theorem wcount_all (l : List UInt8) : wcount l (parts 32 l).length = (wordsOf l).length := by simp [wcount, wordsOf]
theorem wcount_skip {l : List UInt8} {i : Nat} (h : i < (parts 32 l).length) (he : (parts 32 l)[i] = []) : wcount l (i + 1) = wcount l i := by
  unfold wcount
  rw [List.take_succ_eq_append_getElem h, List.filter_append, he]
  simp
theorem wcount_word {l : List UInt8} {i : Nat} (h : i < (parts 32 l).length) (he : (parts 32 l)[i] ≠ []) : wcount l (i + 1) = wcount l i + 1 ∧ ∃ hw : wcount l i < (wordsOf l).length, (wordsOf l)[wcount l i] = (parts 32 l)[i] := by
  have hne : (!((parts 32 l)[i]).isEmpty) = true := by
    cases hq : (parts 32 l)[i] with
    | nil => exact absurd hq he
    | cons a b => rfl
  have e1 : ((parts 32 l).take (i + 1)).filter (fun p => !p.isEmpty) = ((parts 32 l).take i).filter (fun p => !p.isEmpty) ++ [(parts 32 l)[i]] := by
    rw [List.take_succ_eq_append_getElem h, List.filter_append, List.filter_cons, if_pos hne]
    rfl
  have e2 : wordsOf l = ((parts 32 l).take i).filter (fun p => !p.isEmpty) ++ ((parts 32 l)[i] :: ((parts 32 l).drop (i + 1)).filter (fun p => !p.isEmpty)) := by
    unfold wordsOf
    conv => lhs; rw [← List.take_append_drop i (parts 32 l), List.filter_append, List.drop_eq_getElem_cons h, List.filter_cons, if_pos hne]
  refine ⟨by unfold wcount; rw [e1]; simp, ?_⟩
  have hw : wcount l i < (wordsOf l).length := by rw [e2]; unfold wcount; simp
  refine ⟨hw, ?_⟩
  have : (wordsOf l)[wcount l i]? = some (parts 32 l)[i] := by
    rw [e2, List.getElem?_append_right (by unfold wcount; exact Nat.le_refl _)]
    unfold wcount
    simp
  rw [List.getElem?_eq_getElem hw] at this
  exact Option.some.inj this

theorem words_call (s : ByteArray) (w : World) :
    Calls Tryz.prog 57 #[.string s] w fun e w' => e = .returned (.func (.func 88) #[] #[.pointer (some ⟨w.heap.size, 0, none⟩)]) ∧ w.alloc (.cells #[.string s] 9) = w' := by
  go_enter Tryz.func57, Tryz.ntmps57
  go_wp2
  go_ret
  exact ⟨rfl, rfl⟩

/-- The blocks that the iterator makes when it begins in a world of n blocks. -/
def WordB (n : Nat) : Nat → Prop := fun k => n ≤ k ∧ k < n + 6

set_option maxRecDepth 100000 in
set_option maxHeartbeats 2000000 in
theorem words_iter (b : Nat) (s : ByteArray) (W : World) (h0 : Blk W b 9 #[.string s]) (hs : s.size ≤ 9223372036854775806) :
    Iter Tryz.prog 88 #[.pointer (some ⟨b, 0, none⟩)] ((wordsOf s.data.toList).map (fun p => #[.string (ba p)])) (WordB W.heap.size) W := by
  intro l J Jx hJ hJx hY hj0
  refine (callsIn_wide (n := 0)).1 ?_
  refine callsIn_of_wp_marks Tryz.func88 rfl trivial ?_ rfl
  simp only [Tryz.ntmps88, List.size_toArray, List.length_cons, List.length_nil, Nat.reduceAdd, Nat.reduceSub, Array.replicate_succ, Array.replicate_zero, List.push_toArray, List.append_toArray, List.nil_append, List.cons_append]
  have hfn : ∀ f, Fence.wide.fn f := fun _ => trivial
  have hdp : Fence.wide.depth = none := rfl
  have c0 : (W.alloc (.cells #[.func (.yield l) #[] #[]] 32)).cell? ⟨b, 0, none⟩ = some (.string s) := ((h0.alloc _).cell 0).trans rfl
  gi_wp2_with (gi_at_call 29; refine (callsIn_wide.2 (splitSeq_call s 32 _)).mono ?_; rintro e w' ⟨rfl, rfl⟩)
  have by0 := (((Blk.new W 32 #[.func (.yield l) #[] #[]]).alloc (.cells #[.string s] 9)).alloc (.cells #[.string ⟨#[32]⟩] 9)).alloc (.cells #[.int .i64 0] 3)
  have bs0 := ((Blk.new (W.alloc (.cells #[.func (.yield l) #[] #[]] 32)) 9 #[.string s]).alloc (.cells #[.string ⟨#[32]⟩] 9)).alloc (.cells #[.int .i64 0] 3)
  have bs1 := (Blk.new ((W.alloc (.cells #[.func (.yield l) #[] #[]] 32)).alloc (.cells #[.string s] 9)) 9 #[.string ⟨#[32]⟩]).alloc (.cells #[.int .i64 0] 3)
  have bs2 := Blk.new (((W.alloc (.cells #[.func (.yield l) #[] #[]] 32)).alloc (.cells #[.string s] 9)).alloc (.cells #[.string ⟨#[32]⟩] 9)) 3 #[.int .i64 0]
  have kW := ((((Kept.refl NoF W).alloc (.cells #[.func (.yield l) #[] #[]] 32)).alloc (.cells #[.string s] 9)).alloc (.cells #[.string ⟨#[32]⟩] 9)).alloc (.cells #[.int .i64 0] 3)
  have hsz : ((((W.alloc (.cells #[.func (.yield l) #[] #[]] 32)).alloc (.cells #[.string s] 9)).alloc (.cells #[.string ⟨#[32]⟩] 9)).alloc (.cells #[.int .i64 0] 3)).heap.size = W.heap.size + 4 := by simp
  simp only [World.size_alloc] at bs0 bs1 bs2
  clear c0
  generalize (((W.alloc (.cells #[.func (.yield l) #[] #[]] 32)).alloc (.cells #[.string s] 9)).alloc (.cells #[.string ⟨#[32]⟩] 9)).alloc (.cells #[.int .i64 0] 3) = w at by0 bs0 bs1 bs2 kW hsz ⊢
  generalize W.heap.size = n at *
  have hj1 : J 0 w := hJ 0 _ _ hj0 (kW.mono (fun _ h => h.elim))
  have HSZ := Lib.hid hsz
  clear hsz kW hj0 h0
  refine wp_range (gf := 85) (lb := #[.pointer (some ⟨n + 1 + 1, 0, none⟩), .pointer (some ⟨n + 1, 0, none⟩), .pointer (some ⟨n + 1 + 2, 0, none⟩)]) (vs := (parts 32 s.data.toList).map (fun p => #[.string (ba p)])) (S := SplitB (n + 1)) rfl (enters_of Tryz.func85 (by kernel_rfl) rfl)
    (fun r => split_iter (n + 1) 32 s _ ((bs0.alloc _).alloc _) ((bs1.alloc _).alloc _) ((bs2.alloc _).alloc _) hs) ?hS ?hps
    (fun i Wc => Blk Wc n 32 #[.func (.yield l) #[] #[]] ∧ J (wcount s.data.toList i) Wc) (fun c _ Wc => c = .ret ∧ ∃ j, j < (wordsOf s.data.toList).length ∧ Jx (j + 1) Wc) ?hI ?hIx ?h0
    (fun i => { tmps := #[.func (.yield l) #[] #[], .pointer (some ⟨b, 0, none⟩), .pointer (some ⟨n, 0, none⟩), .string (ba ((parts 32 s.data.toList).getD i [])), .string s, .func (.func 85) #[] #[.pointer (some ⟨n + 1 + 1, 0, none⟩), .pointer (some ⟨n + 1, 0, none⟩), .pointer (some ⟨n + 1 + 2, 0, none⟩)], .string (ba ((parts 32 s.data.toList).getD i [])), undef, undef, undef, undef, undef, undef, undef, undef], defers := [] }) ?hassign ?hbody ?hdone ?hstop
  case hS =>
    intro k hk
    have := HSZ.out
    unfold SplitB at hk
    omega
  case hps =>
    intro v hv
    obtain ⟨p, _, rfl⟩ := List.mem_map.1 hv
    rfl
  case hI =>
    rintro i A B ⟨hb, hj⟩ hk
    refine ⟨hk.blk hb ?_, hJ _ _ _ hj (hk.mono ?_)⟩
    · rintro (h | h | h)
      · have := HSZ.out; omega
      · have := HSZ.out; omega
      · unfold SplitB at h; omega
    · rintro k (h | h | h)
      · have := HSZ.out; unfold WordB; omega
      · have := HSZ.out; unfold WordB; omega
      · unfold SplitB at h; unfold WordB; omega
  case hIx =>
    rintro c i A B ⟨hc, j, hj, hx⟩ hk
    refine ⟨hc, j, hj, hJx _ _ _ hx (hk.mono ?_)⟩
    rintro k (h | h | h)
    · have := HSZ.out; unfold WordB; omega
    · have := HSZ.out; unfold WordB; omega
    · unfold SplitB at h; unfold WordB; omega
  case h0 => exact ⟨by0, by rw [wcount_zero]; exact hj1⟩
  case hassign =>
    intro l' i h Wc K hK
    have hlen : i < (parts 32 s.data.toList).length := by simpa using h
    have hg : (parts 32 s.data.toList).getD i [] = (parts 32 s.data.toList)[i] := by simp [hlen]
    rw [hg] at hK
    simp only [List.getElem_map]
    generalize (parts 32 s.data.toList)[i] = p at hK ⊢
    gi_wp2
    exact hK
  case hbody =>
    rintro l' i h Wc ⟨hb, hj⟩ hlt
    have hlen : i < (parts 32 s.data.toList).length := by simpa using h
    have hg : (parts 32 s.data.toList).getD i [] = (parts 32 s.data.toList)[i] := by simp [hlen]
    rw [hg]
    have hfn' : ∀ f, (Fence.wide.inRound l').fn f := fun _ => trivial
    have hdp' : (Fence.wide.inRound l').depth = none := rfl
    have hc : Wc.cell? ⟨n, 0, none⟩ = some (.func (.yield l) #[] #[]) := (hb.cell 0).trans rfl
    by_cases he : (parts 32 s.data.toList)[i] = []
    · have hw := wcount_skip hlen he
      rw [he, show ba [] = ⟨#[]⟩ from rfl]
      have HW := Lib.hid hw
      clear hw he hg
      gi_wp2
      exact ⟨Same.refl _ _, hb, by rw [HW.out]; exact hj⟩
    · obtain ⟨hw, hl1, hwe⟩ := wcount_word hlen he
      obtain ⟨fn, tmps, assign, body, hy, hR⟩ := hY _ (by simpa using hl1) Wc hj (fun k hk => by
        have h1 := hb.lt
        have h2 := HSZ.out
        unfold WordB at hk
        by_cases hkn : k = n
        · omega
        · refine hlt k ?_
          unfold Priv SplitB
          omega)
      simp only [List.getElem_map] at hy
      rw [hwe] at hy
      generalize (parts 32 s.data.toList)[i] = p at hy he ⊢
      have HW := Lib.hid hw
      clear hw hg hwe
      have hne := ba_full he
      clear he
      gi_wp2
      refine RoundIn.mono (F := Fence.wide.inRound l') hR ?_
      rintro e W3 (⟨rfl, hJ3, hk3⟩ | ⟨rfl, hJx3, hk3⟩)
      · gi_wp2
        refine ⟨hk3.mono ?_, (hk3.2 n ⟨by omega, by omega⟩).trans hb, by rw [HW.out]; exact hJ3⟩
        rintro k (h | h | h)
        · have := HSZ.out; unfold WordB; omega
        · have := HSZ.out; unfold WordB; omega
        · unfold SplitB at h; unfold WordB; omega
      · gi_wp2
        refine ⟨hk3.mono ?_, rfl, _, hl1, hJx3⟩
        rintro k (h | h | h)
        · have := HSZ.out; unfold WordB; omega
        · have := HSZ.out; unfold WordB; omega
        · unfold SplitB at h; unfold WordB; omega
  case hdone =>
    rintro Wc ⟨hb, hj⟩ hD
    rw [List.length_map, wcount_all] at hj
    gi_wp2
    refine ⟨by simp, .inl ⟨_, _, rfl, run_takeDeferred hD, ?_⟩⟩
    refine ⟨_, results_none rfl _ _ _, ⟨_, rfl⟩, .inl ?_⟩
    rw [List.length_map]
    exact hJ _ _ _ hj (Kept.putObj _ (by have := HSZ.out; unfold WordB; omega))
  case hstop =>
    rintro c i Wc hi ⟨rfl, j, hj, hx⟩ hD
    gi_wp2
    refine ⟨by simp, .inl ⟨_, _, rfl, run_takeDeferred hD, ?_⟩⟩
    refine ⟨_, results_none rfl _ _ _, ⟨_, rfl⟩, .inr ⟨j, by rw [List.length_map]; exact hj, ?_⟩⟩
    exact hJx _ _ _ hx (Kept.putObj _ (by have := HSZ.out; unfold WordB; omega))

end Go.Proofs.YtfnfjfcncijapaaGreatDoor
