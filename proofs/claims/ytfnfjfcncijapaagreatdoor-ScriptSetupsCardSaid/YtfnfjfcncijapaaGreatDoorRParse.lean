/- kinkeepref56.Parse (printed by genrparse.py). -/
import Derived.Test.YtfnfjfcncijapaaGreatDoorStep
namespace Go.Proofs.YtfnfjfcncijapaaGreatDoor
open Go.RowKit Go.Shelf
attribute [local go_sem] Oper.semAt_some

/-- What a line adds, as the reference says. -/
def lineR (out : List StepD) (l : List UInt8) : List StepD × Int := match wordsOf l with
  | [] => (out, 0)
  | c :: r => if c.head? = some 35 then (out, 0) else match argsR r with
    | none => (out, 3)
    | some args => if validR c args = false then (out, 3) else if orderR out c ≠ 0 then (out, orderR out c) else (out ++ [⟨c, args⟩], 0)
def parseLR : List StepD → List (List UInt8) → Nat → List StepD × Int × Int
  | out, [], _ => (out, 0, 0)
  | out, l :: ls, n => if (lineR out l).2 = 0 then parseLR (lineR out l).1 ls (n + 1) else ([], (n : Int) + 1, (lineR out l).2)
def parseR (s : List UInt8) : List StepD × Int × Int := if 65536 < s.length then ([], 0, 2) else parseLR [] (parts 10 s) 0

section
variable {out : List StepD} {l c : List UInt8} {r args : List (List UInt8)}
theorem lineR_nil (h : wordsOf l = []) : lineR out l = (out, 0) := by unfold lineR; rw [h]
theorem lineR_hash (h : wordsOf l = c :: r) (hp : c.head? = some 35) : lineR out l = (out, 0) := by unfold lineR; rw [h]; exact if_pos hp
theorem lineR_bad (h : wordsOf l = c :: r) (hp : c.head? ≠ some 35) (ha : argsR r = none) : lineR out l = (out, 3) := by unfold lineR; rw [h]; dsimp only; rw [if_neg hp, ha]
theorem lineR_invalid (h : wordsOf l = c :: r) (hp : c.head? ≠ some 35) (ha : argsR r = some args) (hv : validR c args = false) : lineR out l = (out, 3) := by
  unfold lineR; rw [h]; dsimp only; rw [if_neg hp, ha]; exact if_pos hv
theorem lineR_order (h : wordsOf l = c :: r) (hp : c.head? ≠ some 35) (ha : argsR r = some args) (hv : validR c args = true) (ho : orderR out c ≠ 0) : lineR out l = (out, orderR out c) := by
  unfold lineR; rw [h]; dsimp only; rw [if_neg hp, ha]; dsimp only; rw [if_neg (by simp [hv]), if_pos ho]
theorem lineR_add (h : wordsOf l = c :: r) (hp : c.head? ≠ some 35) (ha : argsR r = some args) (hv : validR c args = true) (ho : orderR out c = 0) : lineR out l = (out ++ [⟨c, args⟩], 0) := by
  unfold lineR; rw [h]; dsimp only; rw [if_neg hp, ha]; dsimp only; rw [if_neg (by simp [hv]), if_neg (by simp [ho])]
end
theorem parseLR_step {out : List StepD} {ls : List (List UInt8)} {j : Nat} (h : j < ls.length) {o : List StepD} {e : Int} (hl : lineR out ls[j] = (o, e)) : parseLR out (ls.drop j) j = if e = 0 then parseLR o (ls.drop (j + 1)) (j + 1) else ([], (j : Int) + 1, e) := by
  rw [List.drop_eq_getElem_cons h]
  show (if (lineR out ls[j]).2 = 0 then parseLR (lineR out ls[j]).1 (ls.drop (j + 1)) (j + 1) else ([], (j : Int) + 1, (lineR out ls[j]).2)) = _
  rw [hl]

theorem StrsAt.grown2 {w w' : World} {B : Option Addr} {ps : List (List UInt8)} {row : Option Nat} (h : StrsAt w B ps) (hg : w.grownBy w' row) (hB : ∀ ad, B = some ad → 0 < ps.length → row ≠ some ad.block) : StrsAt w' B ps :=
  (show Kept (fun k => row = some k) w w' from ⟨hg.os, hg.tape, hg.output, hg.size, fun k hk hn => hg.block k hk (fun e => hn e.symm)⟩).src h (fun ad e hp => hB ad e hp)

/-- The steps so far. -/
def RPRel (w : World) (B : Option Addr) (ls : List (List UInt8)) (v i : Value) (wr : World) : Prop :=
  ∃ (j : Nat) (sv : List (StepD × Option Addr × Nat)), j ≤ ls.length ∧ i = .int .i64 (j : Int) ∧ parseLR [] ls 0 = parseLR (sv.map (·.1)) (ls.drop j) j ∧ sv.length ≤ j ∧ wr.ownsRow w.heap.size 39 2 v sv.length (svCells sv) ∧ Below w.heap.size w wr ∧ StrsAt wr B ls ∧
    (∀ ad, B = some ad → v.ownBlock ≠ some ad.block) ∧ (∀ x ∈ sv, StrsAt wr x.2.1 x.1.args ∧ ∀ ad, x.2.1 = some ad → 0 < x.1.args.length → v.ownBlock ≠ some ad.block)

set_option maxHeartbeats 4000000 in
set_option maxRecDepth 100000 in
theorem rparse_small (s : ByteArray) (w : World) (hs : s.size ≤ 65536) : Calls Tryz.prog 11 #[.string s] w (ParsePost (parseLR [] (parts 10 s.data.toList) 0) w) := by
  obtain ⟨i0, hi, hz0, hz1, hz2⟩ := info_parts info39
  have hle : decide ((65536 : Int) < (s.size : Int)) = false := by simp; omega
  have how0 : (w.alloc (.cells #[] 39)).ownsRow w.heap.size 39 2 (.slice (some ⟨w.heap.size, 0, none⟩) 0 0) 0 [] := World.ownsRow_made w #[] 0 (Nat.le_refl _) (by simp) (by simp)
  have k0 : Below w.heap.size w (w.alloc (.cells #[] 39)) := (Below.refl _ _).alloc (Nat.le_refl _) _
  have hpl := parts_length 10 s.data.toList
  rw [← size_list] at hpl
  have hpm : ∀ p ∈ parts 10 s.data.toList, p.length ≤ 65536 := fun p hp => by have := parts_mem_le hp; rw [← size_list] at this; omega
  have CP := rparts_any s 10 (w.alloc (.cells #[] 39)) hs
  generalize parts 10 s.data.toList = ls at hpl hpm CP ⊢
  have HCP := Lib.hid CP
  clear CP
  go_enter Tryz.func11, Tryz.ntmps11
  go_wp2_with fail
  refine HCP.out.mono ?_
  clear HCP
  rintro e w2 ⟨B, cb, rfl, hB, hBf, bB⟩
  have kB : Kept NoF _ w2 := Kept.of_below bB
  have how1 := kB.own how0 (fun _ _ h => h)
  have k1 := k0.trans (bB.mono (by simp))
  have hB0 : ∀ ad, B = some ad → (Value.slice (some ⟨w.heap.size, 0, none⟩) 0 0).ownBlock ≠ some ad.block := fun ad e h => by
    have := hBf ad e
    simp only [World.size_alloc] at this
    simp only [Value.ownBlock, Option.some.injEq] at h
    omega
  clear how0 k0 kB bB hBf
  go_wp2_with fail
  go_loopw [5, 7] (RPRel w B ls) (fun _ i _ => ls.length - (intOf i).toNat)
  case atStart => exact ⟨0, [], Nat.zero_le _, rfl, rfl, Nat.le_refl _, how1, k1, hB, hB0, fun x hx => by simp at hx⟩
  case round =>
    clear hB how1 k1 hB0
    obtain ⟨j, sv, hj, rfl, hp, hsj, how, hb, hB, hBv, hx⟩ := hrel
    have hwz := hb.size
    by_cases hlt : j < ls.length
    · obtain ⟨xb, xo, rfl, hxb, cx⟩ := hB.at_ hlt
      have i1 : (j : Int) < (ls.length : Int) := by omega
      have hls : ls[j].length ≤ 65536 := hpm _ (List.getElem_mem hlt)
      have CW := rwords_any (ba ls[j]) wr (by rw [ba_size]; exact hls)
      have hwl := words_length (ba ls[j])
      have hwm := words_le (ba ls[j])
      rw [ba_toList] at CW hwl hwm
      rw [ba_size] at hwl hwm
      have hne : ∀ p ∈ wordsOf ls[j], p ≠ [] := fun p hp => by
        have := (List.mem_filter.1 hp).2
        simpa using this
      have HST : Hid (∀ (o : List StepD) (e : Int), lineR (sv.map (·.1)) ls[j] = (o, e) → parseLR (sv.map (·.1)) (ls.drop j) j = if e = 0 then parseLR o (ls.drop (j + 1)) (j + 1) else ([], (j : Int) + 1, e)) := Lib.hid (fun o e => parseLR_step hlt)
      have HP := Lib.hid hp
      generalize hws : wordsOf ls[j] = ws at CW hwl hwm hne
      have HWS := Lib.hid hws
      have HCW := Lib.hid CW
      clear hp CW hws hpm
      go_wp2_with fail
      refine HCW.out.mono ?_
      clear HCW
      rintro e w3 ⟨C, cc, rfl, hC, hCf, b3⟩
      have k3 : Kept NoF wr w3 := Kept.of_below b3
      have how3 := k3.own how (fun _ _ h => h)
      have hb3 := hb.trans (b3.mono hwz)
      have hB3 := hB.same k3
      have hx3 : ∀ x ∈ sv, StrsAt w3 x.2.1 x.1.args ∧ ∀ ad, x.2.1 = some ad → 0 < x.1.args.length → _ := fun x hm => ⟨(hx x hm).1.same k3, (hx x hm).2⟩
      clear hx hB how hb k3 b3 hwz hxb cx
      have hwz := hb3.size
      rcases ws with _ | ⟨c, r⟩
      · have HL := Lib.hid (HP.out.trans (HST.out _ _ (lineR_nil HWS.out)))
        go_wp2_with fail
        go_roundw
        case rel => exact ⟨j + 1, sv, hlt, by go_num, HL.out, by omega, how3, hb3, hB3, hBv, hx3⟩
        case measure => simp [intOf]; omega
      · obtain ⟨ab, ao, rfl, hab, hc0⟩ := hC.at_ (k := 0) (by simp)
        simp only [Nat.add_zero, List.getElem_cons_zero, List.length_cons] at hc0 hwl
        have hcne : c ≠ [] := hne c (by simp)
        have hcp : 0 < (ba c).size := by rw [ba_size]; exact List.length_pos_iff.2 hcne
        have h0 := head_at (ba c) hcp
        rw [ba_toList] at h0
        have h256 : (ba c)[0].toNat < 256 := (ba c)[0].toNat_lt
        have i2 : (0 : Int) < (r.length : Int) + 1 := by omega
        have l1 : (((r.length : Int) + 1) == 0) = false := by simp; omega
        have hcp2 : (0 : Int) < ((ba c).size : Int) := by omega
        by_cases hh : (ba c)[0] = 35
        · have t1 : (((ba c)[0].toNat : Int) == 35) = true := by rw [hh]; rfl
          have HL := Lib.hid (HP.out.trans (HST.out _ _ (lineR_hash HWS.out (by rw [h0, hh]))))
          clear hh h0 hcne hne hwm
          go_wp2_with fail
          go_roundw
          case rel => exact ⟨j + 1, sv, hlt, by go_num, HL.out, by omega, how3, hb3, hB3, hBv, hx3⟩
          case measure => simp [intOf]; omega
        · have t1 : (((ba c)[0].toNat : Int) == 35) = false := by
            simp only [beq_eq_false_iff_ne, ne_eq]; exact fun e => hh (UInt8.toNat_inj.1 (by show _ = 35; omega))
          have hh' : c.head? ≠ some 35 := by rw [h0]; simpa using hh
          have HH := Lib.hid hh'
          have CS := step_any c cc w3 hC (by omega) (fun a ha => by have := hwm a (by simp [ha]); omega)
          clear hh hh' h0 hcne hne hwm
          generalize hag : argsR r = ag at CS
          have HAG := Lib.hid hag
          have HCS := Lib.hid CS
          clear hag CS
          go_wp2_with fail
          refine HCS.out.mono ?_
          clear HCS
          rintro e w4 ⟨he, b4⟩
          have k4 : Kept NoF w3 w4 := Kept.of_below b4
          have how4 := k4.own how3 (fun _ _ h => h)
          have hb4 := hb3.trans (b4.mono hwz)
          have hB4 := hB3.same k4
          have hx4 : ∀ x ∈ sv, StrsAt w4 x.2.1 x.1.args ∧ ∀ ad, x.2.1 = some ad → 0 < x.1.args.length → _ := fun x hm => ⟨(hx3 x hm).1.same k4, (hx3 x hm).2⟩
          have hown3 : ∀ g, u5.ownBlock = some g → g < w3.heap.size := fun g hg => (how3.lt g hg).2
          clear hx3 hB3 k4 how3 hb3 hC hc0 hab
          rcases ag with _ | args
          · dsimp only at he
            subst he
            have HL := Lib.hid (HP.out.trans (HST.out _ _ (lineR_bad HWS.out HH.out HAG.out)))
            go_wp2_with fail
            go_ret3
            rw [HL.out]
            exact ⟨none, 0, rfl, Nat.le_refl _, ⟨[], rfl, Reads.none_, fun x hx => by simp at hx⟩, hb4.alloc hb4.size _⟩
          · obtain ⟨X, cx, rfl, hX, hXf⟩ := he
            have hn4 := hb4.size
            have bsn := Blk.new w4 39 #[.string (ba c), .slice X args.length cx]
            have k5 := (Kept.refl NoF w4).alloc (.cells #[.string (ba c), .slice X args.length cx] 39)
            have hb5 := hb4.alloc hn4 (.cells #[.string (ba c), .slice X args.length cx] 39)
            cases hv : validR c args
            · have HL := Lib.hid (HP.out.trans (HST.out _ _ (lineR_invalid HWS.out HH.out HAG.out hv)))
              clear hv
              go_wp2_with fail
              go_ret3
              rw [HL.out]
              exact ⟨none, 0, rfl, Nat.le_refl _, ⟨[], rfl, Reads.none_, fun x hx => by simp at hx⟩, hb5⟩
            · have HV := Lib.hid hv
              clear hv
              go_upto_region 13 with fail
              generalize w4.alloc (.cells #[.string (ba c), .slice X args.length cx] 39) = w5 at bsn k5 hb5 ⊢
              generalize hwb : w4.heap.size = wb at bsn ⊢
              clear hwb
              have hX5 : StrsAt w5 X args := k5.src hX (fun _ _ _ h => h)
              have how5 := k5.own how4 (fun _ _ h => h)
              have hB5 := hB4.same k5
              have hx5 : ∀ x ∈ sv, StrsAt w5 x.2.1 x.1.args ∧ ∀ ad, x.2.1 = some ad → 0 < x.1.args.length → _ := fun x hm => ⟨(hx4 x hm).1.same k5, (hx4 x hm).2⟩
              clear hx4 hB4 how4 hb4 hX k5 hn4
              obtain ⟨O, co, rfl, _, _⟩ := own_form how5
              have hSt : StepsAt w5 O (sv.map (·.1)) := ⟨sv, rfl, by simpa using Reads.of_own how5, fun x hm => (hx5 x hm).1⟩
              have CO := order_any (ba c) X O args.length cx co w5 hSt (by simp; omega)
              rw [ba_toList, List.length_map] at CO
              generalize hor : orderR (sv.map (·.1)) c = eo at CO
              have HOR := Lib.hid hor
              have HCO := Lib.hid CO
              have e0 : w5.cell? ⟨wb, 0, none⟩ = some (.string (ba c)) := (bsn.cell 0).trans rfl
              have e1 : w5.cell? ⟨wb, 1, none⟩ = some (.slice X args.length cx) := (bsn.cell 1).trans rfl
              clear hor CO hSt
              go_wp2_with fail
              refine HCO.out.mono ?_
              clear HCO
              rintro e w6 ⟨rfl, b6⟩
              have k6 : Kept NoF w5 w6 := Kept.of_below b6
              have bs6 := k6.blk bsn (fun h => h)
              have how6 := k6.own how5 (fun _ _ h => h)
              have hB6 := hB5.same k6
              have hX6 := hX5.same k6
              have hx6 : ∀ x ∈ sv, StrsAt w6 x.2.1 x.1.args ∧ ∀ ad, x.2.1 = some ad → 0 < x.1.args.length → _ := fun x hm => ⟨(hx5 x hm).1.same k6, (hx5 x hm).2⟩
              have hb6 := hb5.trans (b6.mono hb5.size)
              have hn6 := hb6.size
              clear hx5 hB5 how5 hb5 hX5 k6 e0 e1 bsn b6
              have e0 : w6.cell? ⟨wb, 0, none⟩ = some (.string (ba c)) := (bs6.cell 0).trans rfl
              have e1 : w6.cell? ⟨wb, 1, none⟩ = some (.slice X args.length cx) := (bs6.cell 1).trans rfl
              by_cases heo : eo = 0
              · subst heo
                have HL := Lib.hid (HP.out.trans (HST.out _ _ (lineR_add HWS.out HH.out HAG.out HV.out HOR.out)))
                go_wp2_with (at_builtin; refine wpList_append_own_at _ rfl _ _ 27 rfl w.heap.size 39 i0 (.agg #[.string ⟨#[]⟩, .slice none 0 0]) 2 40 Tryz.underlying27 hi hz0 hz1 hz2 rfl (by decide) _ _ _ rfl (how6.alloc _) ⟨w6.heap.size, 0, none⟩ 1 1 [.string (ba c), .slice X args.length cx] rfl rfl ?d1 ?d2 ?d3 ?d4 ?d5 ?_)
                case d1 =>
                  intro q u hu
                  rw [Addr.add_lit, (Blk.new w6 39 _).cell, Nat.zero_add, ← Array.getElem?_toList]
                  exact hu
                case d2 => intro u hu; simp at hu; rcases hu with rfl | rfl <;> rfl
                case d3 => unfold maxLen; omega
                case d4 => omega
                case d5 => simp; omega
                intro v' w7 hown' hgrow _ hat
                have ka := (Kept.refl NoF w6).alloc (.cells #[.string (ba c), .slice X args.length cx] 39)
                have hz7 := World.size_alloc w6 (.cells #[.string (ba c), .slice X args.length cx] 39)
                obtain ⟨g', cap', rfl⟩ := ownsRow_succ hown'
                have bw7 : Below w.heap.size w w7 := (hb6.alloc hn6 _).grown hgrow (by simp; omega) (fun k hk => (how6.lt k hk).1)
                have HXf := Lib.hid (fun ad e h => (⟨hXf ad e h, fun hm => by have := hown3 ad.block hm; have := hXf ad e h; omega⟩ : _ ∧ (Value.slice O sv.length co).ownBlock ≠ some ad.block))
                clear hXf hown3
                go_wp2_with fail
                go_roundw
                case rel =>
                  refine ⟨j + 1, sv ++ [(⟨c, args⟩, X, cx)], hlt, by go_num, by rw [List.map_append]; exact HL.out, by simp; omega, ?_, bw7, ?_, ?_, ?_⟩
                  · rw [svCells_snoc, List.length_append]
                    exact hown'
                  · exact StrsAt.grown (hB6.same ka) hgrow hBv
                  · intro ad e
                    injection e with e
                    subst e
                    have hxb6 : xb < w6.heap.size := by
                      obtain ⟨b', o', e', hb', _⟩ := hB6.at_ hlt
                      injection e' with e'
                      injection e' with e1' e2'
                      omega
                    rcases hat with h | h
                    · rw [h]; exact hBv _ rfl
                    · rw [h]; simp only [ne_eq, Option.some.injEq]; omega
                  · intro x hm
                    have key : ∀ (Y : Option Addr) (l : List (List UInt8)), StrsAt w6 Y l → (∀ ad, Y = some ad → 0 < l.length → (Value.slice O sv.length co).ownBlock ≠ some ad.block) → StrsAt w7 Y l ∧ ∀ ad, Y = some ad → 0 < l.length → (Value.slice (some ⟨g', 0, none⟩) (sv.length + 1) cap').ownBlock ≠ some ad.block := fun Y l h1 h2 => by
                      refine ⟨StrsAt.grown2 (h1.same ka) hgrow h2, fun ad e hp => ?_⟩
                      have hlt6 : ad.block < w6.heap.size := by
                        obtain ⟨ad', e', hb', _⟩ := h1.2 hp
                        rw [e] at e'
                        injection e' with e'
                        subst e'
                        exact hb'
                      rcases hat with h | h
                      · rw [h]; exact h2 ad e hp
                      · rw [h]; simp only [ne_eq, Option.some.injEq]; omega
                    rcases List.mem_append.1 hm with h | h
                    · exact key _ _ (hx6 x h).1 (hx6 x h).2
                    · simp only [List.mem_singleton] at h
                      subst h
                      exact key _ _ hX6 (fun ad e hp => (HXf.out ad e hp).2)
                case measure => simp [intOf]; omega
              · have q0 : (eo != 0) = true := by simpa using heo
                have HL := Lib.hid (HP.out.trans ((HST.out _ _ (lineR_order HWS.out HH.out HAG.out HV.out (by rw [HOR.out]; exact heo))).trans (if_neg (by rw [HOR.out]; exact heo))))
                clear heo
                go_wp2_with fail
                go_ret3
                rw [HL.out, HOR.out]
                exact ⟨none, 0, rfl, Nat.le_refl _, ⟨[], rfl, Reads.none_, fun x hx => by simp at hx⟩, hb6⟩
    · have hj' : j = ls.length := by omega
      have hr : parseLR [] ls 0 = (sv.map (·.1), 0, 0) := by rw [hp, hj', List.drop_length]; rfl
      have HR := Lib.hid hr
      obtain ⟨C, cc, rfl, hcc, _⟩ := own_form how
      clear hr hp hpm
      subst hj'
      go_wp2_with fail
      go_ret3
      rw [HR.out]
      exact ⟨C, cc, by simp, by simpa using hcc, ⟨sv, rfl, by simpa using Reads.of_own how, fun x hm => (hx x hm).1⟩, hb⟩

set_option maxHeartbeats 1000000 in
theorem rparse_any (s : ByteArray) (w : World) : Calls Tryz.prog 11 #[.string s] w (ParsePost (parseR s.data.toList) w) := by
  unfold parseR
  by_cases hs : 65536 < s.data.toList.length
  · rw [if_pos hs]
    rw [← size_list] at hs
    have hle : decide ((65536 : Int) < (s.size : Int)) = true := by simp; omega
    go_enter Tryz.func11, Tryz.ntmps11
    go_wp2_with fail
    go_ret3
    exact ⟨none, 0, rfl, Nat.le_refl _, ⟨[], rfl, Reads.none_, fun x hx => by simp at hx⟩, Below.refl _ _⟩
  · rw [if_neg hs]
    exact rparse_small s w (by rw [size_list]; omega)

end Go.Proofs.YtfnfjfcncijapaaGreatDoor
