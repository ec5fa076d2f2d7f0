/-
  kinkeeplaw56.ScriptSetups returns true for every list of steps, and its argument reads afterwards as before.
  Conditions: the listed variables of Go's library hold what the program's text lays (the card ties them).
-/
import Derived.Test.YtfnfjfcncijapaaGreatDoorSetX
import Derived.Test.YtfnfjfcncijapaaGreatDoorAwake
import Derived.Test.YtfnfjfcncijapaaGreatDoorFrame
import Derived.Test.YtfnfjfcncijapaaGreatDoorCards
import Derived.Test.YtfnfjfcncijapaaGreatDoorTie
import Derived.SevenTiedAt
import Derived.ShutString
import Derived.OpenShut
import Derived.ChangeOld
import Derived.SizedLaws
namespace Go.Proofs.YtfnfjfcncijapaaGreatDoor
open Go.RowKit Go.Shelf
attribute [local go_sem] Oper.semAt_some

def Wr (d : SetD) : Prop := ∀ v ∈ d.vaults, v.writers.length ≤ 65537
theorem lastV_wr {l : List VaultD} {f : VaultD → VaultD} (hf : ∀ v, (f v).writers = v.writers) (h : ∀ v ∈ l, v.writers.length ≤ 65537) : ∀ v ∈ lastV l f, v.writers.length ≤ 65537 := by
  rcases List.eq_nil_or_concat l with e | ⟨l', u, e⟩
  · subst e; intro v hv; simp [lastV] at hv
  · rw [e, List.concat_eq_append] at h ⊢
    rw [lastV_snoc]
    intro v hv
    rcases List.mem_append.1 hv with h1 | h1
    · exact h v (List.mem_append_left _ h1)
    · rw [List.mem_singleton.1 h1, hf]
      exact h u (List.mem_append_right _ (by simp))
theorem decl_wr {d : SetD} (cmd : List UInt8) {args : List (List UInt8)} (ha : ∀ a ∈ args, a.length ≤ 65536) (h : Wr d) : Wr (decl d cmd args) := by
  have hz : ∀ k, (args.getD k []).length ≤ 65536 := fun k => by
    rcases Nat.lt_or_ge k args.length with hk | hk
    · rw [List.getD_eq_getElem?_getD, List.getElem?_eq_getElem hk]; exact ha _ (List.getElem_mem hk)
    · rw [List.getD_eq_getElem?_getD, List.getElem?_eq_none hk]; simp
  unfold Wr decl
  repeat' split
  all_goals (try dsimp only)
  all_goals first
    | exact h
    | exact lastV_wr (fun _ => rfl) h
    | (intro v hv
       rcases List.mem_append.1 hv with h1 | h1
       · exact h v h1
       · rw [List.mem_singleton.1 h1]
         have h2 := parts_length 44 (args.getD 0 [])
         have h3 := hz 0
         simp only [List.length_map]
         omega)
theorem setS_bound : ∀ (l : List StepD) (i : Nat) (x : SetD), (∀ s ∈ l, ∀ a ∈ s.args, a.length ≤ 65536) → Wr x →
    (setS l i x).1.names.length ≤ x.names.length + l.length ∧ (setS l i x).1.quotas.length ≤ x.quotas.length + l.length ∧ (setS l i x).1.vaults.length ≤ x.vaults.length + l.length ∧ Wr (setS l i x).1
  | [], _, x, _, h => ⟨Nat.le_refl _, Nat.le_refl _, Nat.le_refl _, h⟩
  | s :: r, i, x, ha, h => by
    have hz : ∀ n e, (((setZ, n, e) : SetD × Int × Int).1.names.length ≤ x.names.length + (s :: r).length ∧ ((setZ, n, e) : SetD × Int × Int).1.quotas.length ≤ x.quotas.length + (s :: r).length ∧ ((setZ, n, e) : SetD × Int × Int).1.vaults.length ≤ x.vaults.length + (s :: r).length ∧ Wr ((setZ, n, e) : SetD × Int × Int).1) := fun n e => ⟨Nat.zero_le _, Nat.zero_le _, Nat.zero_le _, fun v hv => by cases hv⟩
    rw [setS_cons]
    split
    · exact ⟨by simp, by simp, by simp, h⟩
    · split
      · exact hz _ _
      · split
        · exact hz _ _
        · have ih := setS_bound r (i + 1) (decl x s.cmd s.args) (fun t ht => ha t (by simp [ht])) (decl_wr _ (ha s (by simp)) h)
          have hl := decl_lens x s.cmd s.args
          simp only [List.length_cons]
          exact ⟨by omega, by omega, by omega, ih.2.2.2⟩

set_option maxHeartbeats 8000000 in
set_option maxRecDepth 100000 in
theorem setupsL_any {A : Option Addr} {l : List StepD} (ca : Nat) (w : World) (hE : Env w) (ha : StepsAt w A l) (hl : l.length ≤ 140737488351232) (hin : ∀ s ∈ l, ArgsIn s) :
    Calls Tryz.prog 7 #[.slice A l.length ca] w fun e w' => e = .returned (.bool true) ∧ Below w.heap.size w w' := by
  have CF := Lib.hid (few_any ca w ha hl hin)
  have HE := Lib.hid hE
  clear hl hin hE
  go_enter Tryz.func7, Tryz.ntmps7
  go_wp2_with fail
  refine CF.out.mono ?_
  clear CF
  rintro e w0 ⟨⟨b, rfl, hfew⟩, rfl⟩
  cases b
  · clear hfew
    go_wp2_with fail
    refine (awake_any w0 HE.out).mono ?_
    rintro e w1 ⟨rfl, b1⟩
    go_wp2_with fail
    go_ret
    exact ⟨rfl, b1⟩
  · obtain ⟨h40, h2k, h8⟩ := hfew rfl
    have H8 := Lib.hid (show ∀ s ∈ l, s.args.length ≤ 1000 from fun s hs => by have := h8 s hs; omega)
    have HA2 := Lib.hid (show ∀ s ∈ l, ∀ a ∈ s.args, a.length ≤ 65536 from fun s hs a ha => by
      have h4 : lenS s.args ≤ totS l := le_sum_of_mem (List.mem_map.2 ⟨s, hs, rfl⟩)
      have h5 : a.length ≤ lenS s.args := le_sum_of_mem (List.mem_map.2 ⟨a, ha, rfl⟩)
      omega)
    clear h8 hfew
    have hbd := setS_bound l 0 set0 HA2.out (fun v hv => by cases hv)
    have CS := setup_any ca w0 HE.out ha (by omega) HA2.out
    have CR := Lib.hid (fun (B : Option Addr) (cb : Nat) (hcb : l.length ≤ cb) (W : World) (hB : StepsAt W B l) => rsetup_any cb hcb W hB (by omega) H8.out HA2.out)
    rw [set_same l] at CR
    generalize setS l 0 set0 = r at CS CR hbd
    obtain ⟨d, n, er⟩ := r
    dsimp only at hbd
    obtain ⟨hN, hQ, hV, hW⟩ := hbd
    have hN : d.names.length ≤ 100000 := by have : set0.names.length = 0 := rfl; omega
    have hQ : d.quotas.length ≤ 100000 := by have : set0.quotas.length = 0 := rfl; omega
    have hV : d.vaults.length ≤ 100000 := by have : set0.vaults.length = 0 := rfl; omega
    have HW := Lib.hid hW
    have HCS := Lib.hid CS
    clear CS hW
    go_wp2_with fail
    refine HCS.out.mono ?_
    clear HCS
    rintro e w1 ⟨B1, nm, qs, vs, vl, rfl, hr1, b1⟩
    dsimp only at hr1 ⊢
    obtain ⟨U1, cU1, rfl, _, _⟩ := own_form hr1.n1
    obtain ⟨U2, cU2, rfl, _, _⟩ := own_form hr1.n2
    obtain ⟨U3, cU3, rfl, _, _⟩ := own_form hr1.n3
    have HA1 := Lib.hid (ha.same (Kept.of_below b1))
    have k2 := (Kept.refl NoF w1).alloc (.cells #[.slice U1 d.names.length cU1, .slice U2 d.quotas.length cU2, .slice U3 d.vaults.length cU3, .int .i64 d.quorum, .string (ba d.seed), .int .i64 d.bits, .int .i64 d.height, .int .i64 d.sectors, .int .i64 d.size, .int .i64 d.day, .int .i64 d.leap, .int .i64 d.agree] 60)
    have bx := Blk.new w1 60 #[.slice U1 d.names.length cU1, .slice U2 d.quotas.length cU2, .slice U3 d.vaults.length cU3, .int .i64 d.quorum, .string (ba d.seed), .int .i64 d.bits, .int .i64 d.height, .int .i64 d.sectors, .int .i64 d.size, .int .i64 d.day, .int .i64 d.leap, .int .i64 d.agree]
    have b2 := b1.alloc b1.size (.cells #[.slice U1 d.names.length cU1, .slice U2 d.quotas.length cU2, .slice U3 d.vaults.length cU3, .int .i64 d.quorum, .string (ba d.seed), .int .i64 d.bits, .int .i64 d.height, .int .i64 d.sectors, .int .i64 d.size, .int .i64 d.day, .int .i64 d.leap, .int .i64 d.agree] 60)
    unfold SetD.cells
    go_upto_region 4 with fail
    generalize w1.alloc (.cells #[.slice U1 d.names.length cU1, .slice U2 d.quotas.length cU2, .slice U3 d.vaults.length cU3, .int .i64 d.quorum, .string (ba d.seed), .int .i64 d.bits, .int .i64 d.height, .int .i64 d.sectors, .int .i64 d.size, .int .i64 d.day, .int .i64 d.leap, .int .i64 d.agree] 60) = w2 at k2 bx b2 ⊢
    have hr2 := hr1.same k2
    have HA2' := Lib.hid (HA1.out.same k2)
    generalize w1.heap.size = xb at bx ⊢
    clear HA1 ha b1 k2 hr1
    go_wp2_with fail
    refine (plain_cap ca w2 HA2'.out (by omega)).mono ?_
    rintro e w3 ⟨B, cb, rfl, hcb, hB, b23⟩
    have b3 := b2.trans (b23.mono b2.size)
    have k3 : Kept NoF w2 w3 := Kept.of_below b23
    have bx3 := k3.blk bx (fun h => h)
    have hr3 := hr2.same k3
    have HB := Lib.hid hB
    clear b2 b23 bx hr2 HA2' hB k3
    go_wp2_with fail
    refine (CR.out B cb hcb w3 HB.out).mono ?_
    clear CR HB
    rintro e w4 ⟨B4, nm, qs, vs, vl4, rfl, hs4, b34⟩
    dsimp only at hs4 ⊢
    obtain ⟨V1, cV1, rfl, _, _⟩ := own_form hs4.n1
    obtain ⟨V2, cV2, rfl, _, _⟩ := own_form hs4.n2
    obtain ⟨V3, cV3, rfl, _, _⟩ := own_form hs4.n3
    have b4 := b3.trans (b34.mono b3.size)
    have k4 : Kept NoF w3 w4 := Kept.of_below b34
    have k5 := k4.alloc (.cells #[.slice V1 d.names.length cV1, .slice V2 d.quotas.length cV2, .slice V3 d.vaults.length cV3, .int .i64 d.quorum, .string (ba d.seed), .int .i64 d.bits, .int .i64 d.height, .int .i64 d.sectors, .int .i64 d.size, .int .i64 d.day, .int .i64 d.leap, .int .i64 d.agree] 63)
    have kk := (Kept.refl NoF w4).alloc (.cells #[.slice V1 d.names.length cV1, .slice V2 d.quotas.length cV2, .slice V3 d.vaults.length cV3, .int .i64 d.quorum, .string (ba d.seed), .int .i64 d.bits, .int .i64 d.height, .int .i64 d.sectors, .int .i64 d.size, .int .i64 d.day, .int .i64 d.leap, .int .i64 d.agree] 63)
    have by5 := Blk.new w4 63 #[.slice V1 d.names.length cV1, .slice V2 d.quotas.length cV2, .slice V3 d.vaults.length cV3, .int .i64 d.quorum, .string (ba d.seed), .int .i64 d.bits, .int .i64 d.height, .int .i64 d.sectors, .int .i64 d.size, .int .i64 d.day, .int .i64 d.leap, .int .i64 d.agree]
    have b5 := b4.alloc b4.size (.cells #[.slice V1 d.names.length cV1, .slice V2 d.quotas.length cV2, .slice V3 d.vaults.length cV3, .int .i64 d.quorum, .string (ba d.seed), .int .i64 d.bits, .int .i64 d.height, .int .i64 d.sectors, .int .i64 d.size, .int .i64 d.day, .int .i64 d.leap, .int .i64 d.agree] 63)
    unfold SetD.cells
    go_upto_region 5 with fail
    generalize w4.alloc (.cells #[.slice V1 d.names.length cV1, .slice V2 d.quotas.length cV2, .slice V3 d.vaults.length cV3, .int .i64 d.quorum, .string (ba d.seed), .int .i64 d.bits, .int .i64 d.height, .int .i64 d.sectors, .int .i64 d.size, .int .i64 d.day, .int .i64 d.leap, .int .i64 d.agree] 63) = w5 at k5 kk by5 b5 ⊢
    have hs5 := hs4.same kk
    have hr5 := hr3.same k5
    have bx5 := k5.blk bx3 (fun h => h)
    generalize w4.heap.size = yb at by5 ⊢
    clear b34 k4 k5 kk hs4 hr3 bx3 b3 b4 hcb
    go_wp2_with fail
    refine (awake_any w5 (HE.out.later b5)).mono ?_
    rintro e w6 ⟨rfl, b56⟩
    have k6 : Kept NoF w5 w6 := Kept.of_below b56
    have bx6 := k6.blk bx5 (fun h => h)
    have by6 := k6.blk by5 (fun h => h)
    have hr6 := hr5.same k6
    have hs6 := hs5.same k6
    have b6 := b5.trans (b56.mono b5.size)
    clear k6 b56 bx5 by5 hr5 hs5 b5
    have CS := Lib.hid (sameSetup_any d w6 hr6 hs6 hN hQ hV (fun v hv => by have := HW.out v hv; omega))
    unfold SetD.cells at CS
    have q1 : (er == er) = true := by simp
    have q2 : (n == n) = true := by simp
    have x0 := (bx6.cell 0).trans (show _ = some (.slice U1 d.names.length cU1) from rfl)
    have x1 := (bx6.cell 1).trans (show _ = some (.slice U2 d.quotas.length cU2) from rfl)
    have x2 := (bx6.cell 2).trans (show _ = some (.slice U3 d.vaults.length cU3) from rfl)
    have x3 := (bx6.cell 3).trans (show _ = some (.int .i64 d.quorum) from rfl)
    have x4 := (bx6.cell 4).trans (show _ = some (.string (ba d.seed)) from rfl)
    have x5 := (bx6.cell 5).trans (show _ = some (.int .i64 d.bits) from rfl)
    have x6 := (bx6.cell 6).trans (show _ = some (.int .i64 d.height) from rfl)
    have x7 := (bx6.cell 7).trans (show _ = some (.int .i64 d.sectors) from rfl)
    have x8 := (bx6.cell 8).trans (show _ = some (.int .i64 d.size) from rfl)
    have x9 := (bx6.cell 9).trans (show _ = some (.int .i64 d.day) from rfl)
    have x10 := (bx6.cell 10).trans (show _ = some (.int .i64 d.leap) from rfl)
    have x11 := (bx6.cell 11).trans (show _ = some (.int .i64 d.agree) from rfl)
    have y0 := (by6.cell 0).trans (show _ = some (.slice V1 d.names.length cV1) from rfl)
    have y1 := (by6.cell 1).trans (show _ = some (.slice V2 d.quotas.length cV2) from rfl)
    have y2 := (by6.cell 2).trans (show _ = some (.slice V3 d.vaults.length cV3) from rfl)
    have y3 := (by6.cell 3).trans (show _ = some (.int .i64 d.quorum) from rfl)
    have y4 := (by6.cell 4).trans (show _ = some (.string (ba d.seed)) from rfl)
    have y5 := (by6.cell 5).trans (show _ = some (.int .i64 d.bits) from rfl)
    have y6 := (by6.cell 6).trans (show _ = some (.int .i64 d.height) from rfl)
    have y7 := (by6.cell 7).trans (show _ = some (.int .i64 d.sectors) from rfl)
    have y8 := (by6.cell 8).trans (show _ = some (.int .i64 d.size) from rfl)
    have y9 := (by6.cell 9).trans (show _ = some (.int .i64 d.day) from rfl)
    have y10 := (by6.cell 10).trans (show _ = some (.int .i64 d.leap) from rfl)
    have y11 := (by6.cell 11).trans (show _ = some (.int .i64 d.agree) from rfl)
    clear bx6 by6 hr6 hs6
    go_wp2_with (go_at_call 24; refine CS.out.mono ?_; rintro e w7 ⟨rfl, b7⟩)
    go_ret
    exact ⟨rfl, b6.trans (b7.mono b6.size)⟩

end Go.Proofs.YtfnfjfcncijapaaGreatDoor

namespace Go.Proofs.YtfnfjfcncijapaaGreatDoor.scriptSetups
open Go.ChangeShapes Go.WideShapes Go.ChangeAt Go.RowKit

theorem laidOut : laidOutB Tryz.prog = true := by kernel_rfl

set_option maxRecDepth 100000 in
theorem lifted (os : Os) (started : os.Started) (H : Type) (enc : TypeId × Value → H) :
    ReturnsInHanded {} Tryz.checked os 7 .any (fun w args => (Rows.scriptSetupsSpec.pre enc Tryz.prog Tryz.f7 [] false w args ∧ laidMetH Tryz.prog laid9 w) ∧ sizedMet enc Tryz.prog Tryz.f7 (OpenSpec.ofChange Rows.scriptSetupsSpec) false w args)
      (Rows.scriptSetupsSpec.post enc Tryz.prog Tryz.f7 false true false false) := by
  refine returnsInHanded_of_change_and (C := Tryz.checked) (X := fun w _ => laidMetH Tryz.prog laid9 w) (fun _ _ _ hh h => h.of_heap hh) own started (by kernel_rfl) Tryz.func7
    (ChangeSpec.witness_shaped (enc := enc) (C := Tryz.checked) (os := os) (X := fun w _ => laidMetH Tryz.prog laid9 w) false (World.laidAll Tryz.prog os laid9) #[.slice none 0 0] 8 (World.laidAll_os _ _ _)
      (World.shaped_of_ZipB (by kernel_rfl) (by kernel_rfl)) (by kernel_rfl) (by kernel_rfl) (by kernel_rfl) (laid_world os _)) ?_
  intro W base args ds gs before hval0 hW hcnd hsz hL _
  have hval : ∀ (j : Nat) t v, Tryz.f7.params[j]? = some t → args[j]? = some v → Value.okWide Tryz.prog W .any base t v := hval0
  have hW' := hW
  obtain ⟨p, q, hA0, hV, rfl, _, _⟩ := hW
  have hA : DataW.TrodAll enc Tryz.prog W 0 (fun _ => true) true Tryz.f7.params.toList args.toList ds p := hA0
  have hsz0 : (DataW.weightsEach Tryz.prog (Tryz.f7.params.toList ++ Rows.scriptSetupsSpec.plain.varTypes Tryz.prog) (ds ++ gs)).all (· ≤ reachBytes) = true := hsz
  rw [Tryz.params7] at hA hval hsz0
  obtain ⟨v0, vs0, d0, ds0, p0, q0, hargs, rfl, rfl, h0, r0⟩ := trodAll_cons hA
  obtain ⟨rfl, rfl, rfl⟩ := trodAll_nil r0
  obtain rfl : args = #[v0] := by cases args; simp_all
  obtain ⟨rfl, rfl⟩ := trodVars_none hV
  have k0 := h0
  have lt0 : ∀ x ∈ p0, x.block < W.heap.size := by obtain ⟨m, hm⟩ := k0; exact DataW.trod_lt m _ _ _ hm
  obtain ⟨A, cap, l, rfl, hl, hn, hin⟩ : ∃ A cap l, v0 = .slice A (List.length l) cap ∧ StepsAt W A l ∧ l.length ≤ 140737488351232 ∧ ∀ s ∈ l, ArgsIn s := by
    obtain ⟨a0, len0, cap0, rfl⟩ := okWide_slice Tryz.underlying23 (hval 0 23 v0 rfl rfl)
    obtain ⟨fuel, hf⟩ := h0
    obtain ⟨A, cap, l, hcs, hl, hn, hin⟩ := open_steps hf (fun k hk => by
      have := List.all_eq_true.1 hsz0 k (DataW.weights_mem_each (j := 0) (t := 23) (d := d0) rfl rfl k hk)
      simpa using this)
    simp only [Value.cells, List.cons.injEq, and_true] at hcs
    exact ⟨A, cap, l, hcs, hl, hn, hin⟩
  clear hA0 hval0
  refine (setupsL_any cap W (env_of_laidH hL) hl hn hin).mono fun e W' ⟨he, hb⟩ => ?_
  subst he
  exact ⟨_, rfl, _, _, _, [], _, [], hW', trodAll_mk1 (shut_bool Tryz.underlying4 _), (trodAll_cons_mk (Below.trod laidOut (by kernel_rfl) (of_decide_eq_true (by kernel_rfl)) k0 hb lt0) trodAll_mk0), rfl, hb.frame _, fun h => by cases h⟩

theorem over : Rows.scriptSetupsRow.holds Tryz.pinned (OpenSpec.ofChange Rows.scriptSetupsSpec) :=
  OpenClaim.holds_of_wide 7 Tryz.f7 rfl rfl rfl rfl rfl rfl rfl ⟨rfl, rfl, rfl, rfl, rfl⟩ rfl rfl rfl rfl rfl (by kernel_rfl) Tryz.func7 (by kernel_rfl)
    (of_decide_eq_true (by kernel_rfl)) (by unfold Func.isWrapper; first | (rw [if_pos (by decide +kernel)]; kernel_rfl) | (rw [if_neg (by decide +kernel)]; exact ⟨rfl, rfl⟩))
    (fun os started H enc _ => lifted os started H enc)

/-- THE STATEMENT -/
theorem proved : Rows.ScriptSetupsCardSaid :=
  Claim7.holds_tied_plain_at .later [] [.data, .data, .data, .data, .sentinel, .sentinel, .listed, .data, .pinned] true (true, "9f19c090244cc2f04c95745e003db57922ca6ceb36a3d1d0c63b9f981bcbe6b5") true
    over (fun _ h => by cases h) (by kernel_rfl) (fun _ h => by cases h) scriptSetups_row_tie rfl ⟨rfl, rfl⟩ (by kernel_rfl) rfl
    (fun f fn hf hfn => by
      obtain rfl : f = 7 := Option.some.inj ((show Tryz.prog.funcNamed "kinkeep/kinkeeplaw56.ScriptSetups" = some 7 by kernel_rfl).symm.trans hf) |>.symm
      obtain rfl : fn = Tryz.f7 := (Option.some.inj (Tryz.func7.symm.trans hfn)).symm
      exact ⟨by kernel_rfl, fun j t ht => by
        rw [Tryz.params7] at ht
        have h9 : t = 23 := by
          rcases j with _ | j
          · simpa using ht.symm
          · simp at ht
        subst h9
        exact (show Tryz.prog.wantsStandIn 23 = false by kernel_rfl)⟩)
    (by kernel_rfl)
#print axioms proved
end Go.Proofs.YtfnfjfcncijapaaGreatDoor.scriptSetups
