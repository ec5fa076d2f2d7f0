/- kinkeepref56.ints, kinkeepref56.SameSetup (printed by genSetX.py). -/
import Derived.Test.YtfnfjfcncijapaaGreatDoorSetW
namespace Go.Proofs.YtfnfjfcncijapaaGreatDoor
open Go.RowKit Go.Shelf
attribute [local go_sem] Oper.semAt_some

theorem ints_at {w : World} {B n : Nat} {A : Option Addr} {xs : List Int} (h : Reads w B 1 A n (ints xs)) {k : Nat} (hn : n = xs.length) (hk : k < xs.length) : ∃ b o, A = some ⟨b, o, none⟩ ∧ w.cell? ⟨b, o + k, none⟩ = some (.int .i64 xs[k]) := by
  obtain ⟨ad, e, hb, hc⟩ := h.2 (by omega)
  have g : ∀ j (hj : j < xs.length), w.cell? (ad.add j) = some (.int .i64 xs[j]) := fun j hj => hc j _ (by simp [ints, hj])
  obtain ⟨b, off, spot⟩ := ad
  have hspot : spot = none := by
    have := World.cell?_spot (g 0 (by omega))
    simpa [Addr.add] using this
  subst hspot
  have := g k hk
  rw [Addr.add_lit] at this
  exact ⟨b, off, e, this⟩
def IntsRel (w : World) (xs : List Int) (i : Value) (wr : World) : Prop := ∃ j : Nat, j ≤ xs.length ∧ i = .int .i64 (j : Int) ∧ Drawn w wr
set_option maxHeartbeats 1000000 in
theorem ints_same {A B : Option Addr} {xs : List Int} (ca cb : Nat) (w : World) (ha : Reads w w.heap.size 1 A xs.length (ints xs)) (hb : Reads w w.heap.size 1 B xs.length (ints xs)) (hx : xs.length ≤ 100000) :
    Calls Tryz.prog 53 #[.slice A xs.length ca, .slice B xs.length cb] w fun e w' => e = .returned (.bool true) ∧ Drawn w w' := by
  go_enter Tryz.func53, Tryz.ntmps53
  go_wp2_with fail
  go_loopw [5] (IntsRel w xs) (fun i _ => xs.length - (intOf i).toNat)
  case atStart => exact ⟨0, Nat.zero_le _, rfl, Drawn.refl _⟩
  case round =>
    obtain ⟨j, hj, rfl, kd⟩ := hrel
    have kr : Kept NoF w wr := kd.kept
    by_cases hlt : j < xs.length
    · obtain ⟨xb, xo, rfl, hcx⟩ := ints_at (kr.src ha (fun _ _ _ h => h)) rfl hlt
      obtain ⟨yb, yo, rfl, hcy⟩ := ints_at (kr.src hb (fun _ _ _ h => h)) rfl hlt
      have i1 : (j : Int) < (xs.length : Int) := by omega
      have hsb : (xs[j] != xs[j]) = false := by simp
      go_wp2_with fail
      go_quiet (fail)
      go_wp2_with fail
      go_roundw
      case rel => exact ⟨j + 1, hlt, by go_num, kd.drewN _⟩
      case measure => simp [intOf]; omega
    · have hje : j = xs.length := by omega
      subst hje
      go_wp2
      go_ret
      exact ⟨rfl, kd⟩
theorem vcells_get {vl : List (VaultD × Option Addr × Nat)} {i o : Nat} (h : i < vl.length) (ho : o < 15) : (vcells vl)[i * 15 + o]? = (vcell vl[i].1 vl[i].2.1 vl[i].2.2)[o]? := by
  induction vl generalizing i with
  | nil => simp at h
  | cons x xs ih =>
    cases i with
    | zero =>
      have : (vcell x.1 x.2.1 x.2.2).length = 15 := rfl
      simp only [vcells, List.flatMap_cons, Nat.zero_mul, Nat.zero_add, List.getElem_cons_zero]
      rw [List.getElem?_append_left (by omega)]
    | succ i =>
      have h1 := ih (i := i) (by simpa using h)
      have h2 : (vcell x.1 x.2.1 x.2.2).length = 15 := rfl
      simp only [vcells, List.flatMap_cons, List.getElem_cons_succ] at h1 ⊢
      rw [List.getElem?_append_right (by omega), ← h1]
      congr 1
      omega
theorem vault_at {w : World} {B : Nat} {d : SetD} {nm qs vs : Value} {vl : List (VaultD × Option Addr × Nat)} (h : RowsAt w B d nm qs vs vl) {i : Nat} (hi : i < d.vaults.length) :
    ∃ g cap A c, vs = .slice (some ⟨g, 0, none⟩) d.vaults.length cap ∧ (∀ o, o < 15 → w.cell? ⟨g, i * 15 + o, none⟩ = (vcell d.vaults[i] A c)[o]?) ∧ Reads w w.heap.size 1 A d.vaults[i].writers.length (ints d.vaults[i].writers) := by
  have hl : vl.length = d.vaults.length := by rw [← h.n0]; simp
  have hv : ∀ (hi2 : i < vl.length), d.vaults[i] = vl[i].1 := fun hi2 => by simp [← h.n0]
  have h3 := h.n3
  have hn := vcells_length vl
  obtain ⟨n, hn'⟩ : ∃ n, d.vaults.length = n + 1 := ⟨d.vaults.length - 1, by omega⟩
  rw [hn'] at h3
  obtain ⟨g, cap, rfl⟩ := ownsRow_succ h3
  have hi2 : i < vl.length := by omega
  refine ⟨g, cap, vl[i].2.1, vl[i].2.2, by rw [hn'], fun o ho => ?_, ?_⟩
  · rw [h3.cellAt (i * 15 + o) (by omega), vcells_get hi2 ho, hv hi2]
  · rw [hv hi2]
    exact (h.n4 _ (List.getElem_mem hi2)).1
def SSRel (w0 : World) (n : Nat) (i : Value) (wr : World) : Prop := ∃ j : Nat, j ≤ n ∧ i = .int .i64 (j : Int) ∧ Kept NoF w0 wr
def SCut (wr : World) (c6 c7 : Array Value) (s6 s7 : Value) (W : World) : Prop := ∃ p q, s6 = .pointer (some ⟨p, 0, none⟩) ∧ s7 = .pointer (some ⟨q, 0, none⟩) ∧ Blk W p 119 c6 ∧ Blk W q 119 c7 ∧ Kept NoF wr W

def vlist (v : VaultD) (A : Option Addr) (c : Nat) : List (Nat × Value) := [(0, .int .i64 v.num), (1, .slice A v.writers.length c), (2, .int .i64 v.data), (3, .int .i64 v.total), (4, .int .i64 v.thr), (5, .string (ba [])), (6, .int .i64 v.c0), (7, .int .i64 v.c1), (8, .int .i64 v.c2), (9, .int .i64 v.c3), (10, .int .u64 0), (11, .int .i64 v.r0), (12, .int .i64 v.r1), (13, .int .i64 v.r2), (14, .int .i64 v.r3)]
theorem vlist_fill (v : VaultD) (A : Option Addr) (c : Nat) : (vlist v A c).foldl (fun c p => c.setIfInBounds p.1 p.2) #[.int .i64 0, .slice none 0 0, .int .i64 0, .int .i64 0, .int .i64 0, .string ⟨#[]⟩, .int .i64 0, .int .i64 0, .int .i64 0, .int .i64 0, .int .u64 0, .int .i64 0, .int .i64 0, .int .i64 0, .int .i64 0] = #[.int .i64 v.num, .slice A v.writers.length c, .int .i64 v.data, .int .i64 v.total, .int .i64 v.thr, .string (ba []), .int .i64 v.c0, .int .i64 v.c1, .int .i64 v.c2, .int .i64 v.c3, .int .u64 0, .int .i64 v.r0, .int .i64 v.r1, .int .i64 v.r2, .int .i64 v.r3] := by
  simp only [vlist, List.foldl_cons, List.foldl_nil, List.setIfInBounds_toArray, List.set_cons_zero, List.set_cons_succ]
theorem rkept_new {F : Nat → Prop} {w w' : World} (h : Kept F w w') {n : Nat} (hn : w.heap.size ≤ n) (l : List (Nat × Value)) : Kept F w (l.foldl (fun W p => W.setCell ⟨n, p.1, none⟩ p.2) w') := by
  induction l generalizing w' with
  | nil => exact h
  | cons p l ih => exact ih (h.setCell (p := ⟨n, p.1, none⟩) (.inr hn) p.2)
theorem rblk_far {w : World} {n m : Nat} {t : TypeId} {cs : Array Value} (h : Blk w n t cs) (hm : n ≠ m) (l : List (Nat × Value)) : Blk (l.foldl (fun W p => W.setCell ⟨m, p.1, none⟩ p.2) w) n t cs := by
  induction l generalizing w with
  | nil => exact h
  | cons p l ih => exact ih (h.far (p := ⟨m, p.1, none⟩) hm p.2)
set_option maxHeartbeats 8000000 in
set_option maxRecDepth 100000 in
theorem sameSetup_any (d : SetD) {B B' : Nat} {nm qs vs nm' qs' vs' : Value} {vl vl' : List (VaultD × Option Addr × Nat)} (w : World) (ha : RowsAt w B d nm qs vs vl) (hb : RowsAt w B' d nm' qs' vs' vl') (hN : d.names.length ≤ 100000) (hQ : d.quotas.length ≤ 100000) (hV : d.vaults.length ≤ 100000) (hW : ∀ v ∈ d.vaults, v.writers.length ≤ 100000) :
    Calls Tryz.prog 24 #[.agg (d.cells nm qs vs), .agg (d.cells nm' qs' vs')] w fun e w' => e = .returned (.bool true) ∧ Below w.heap.size w w' := by
  obtain ⟨U1, cU1, rfl, _, _⟩ := own_form ha.n1
  obtain ⟨U2, cU2, rfl, _, _⟩ := own_form ha.n2
  obtain ⟨U3, cU3, rfl, _, _⟩ := own_form ha.n3
  obtain ⟨V1, cV1, rfl, _, _⟩ := own_form hb.n1
  obtain ⟨V2, cV2, rfl, _, _⟩ := own_form hb.n2
  obtain ⟨V3, cV3, rfl, _, _⟩ := own_form hb.n3
  have bp := (Blk.new w 63 #[.slice U1 d.names.length cU1, .slice U2 d.quotas.length cU2, .slice U3 d.vaults.length cU3, .int .i64 d.quorum, .string (ba d.seed), .int .i64 d.bits, .int .i64 d.height, .int .i64 d.sectors, .int .i64 d.size, .int .i64 d.day, .int .i64 d.leap, .int .i64 d.agree]).alloc (.cells #[.slice V1 d.names.length cV1, .slice V2 d.quotas.length cV2, .slice V3 d.vaults.length cV3, .int .i64 d.quorum, .string (ba d.seed), .int .i64 d.bits, .int .i64 d.height, .int .i64 d.sectors, .int .i64 d.size, .int .i64 d.day, .int .i64 d.leap, .int .i64 d.agree] 63)
  have bs := at_size (b := w.heap.size + 1) (by simp) (Blk.new (w.alloc (.cells #[.slice U1 d.names.length cU1, .slice U2 d.quotas.length cU2, .slice U3 d.vaults.length cU3, .int .i64 d.quorum, .string (ba d.seed), .int .i64 d.bits, .int .i64 d.height, .int .i64 d.sectors, .int .i64 d.size, .int .i64 d.day, .int .i64 d.leap, .int .i64 d.agree] 63)) 63 #[.slice V1 d.names.length cV1, .slice V2 d.quotas.length cV2, .slice V3 d.vaults.length cV3, .int .i64 d.quorum, .string (ba d.seed), .int .i64 d.bits, .int .i64 d.height, .int .i64 d.sectors, .int .i64 d.size, .int .i64 d.day, .int .i64 d.leap, .int .i64 d.agree])
  have kw0 := ((Kept.refl NoF w).alloc (.cells #[.slice U1 d.names.length cU1, .slice U2 d.quotas.length cU2, .slice U3 d.vaults.length cU3, .int .i64 d.quorum, .string (ba d.seed), .int .i64 d.bits, .int .i64 d.height, .int .i64 d.sectors, .int .i64 d.size, .int .i64 d.day, .int .i64 d.leap, .int .i64 d.agree] 63)).alloc (.cells #[.slice V1 d.names.length cV1, .slice V2 d.quotas.length cV2, .slice V3 d.vaults.length cV3, .int .i64 d.quorum, .string (ba d.seed), .int .i64 d.bits, .int .i64 d.height, .int .i64 d.sectors, .int .i64 d.size, .int .i64 d.day, .int .i64 d.leap, .int .i64 d.agree] 63)
  show Calls Tryz.prog 24 #[.agg #[.slice U1 d.names.length cU1, .slice U2 d.quotas.length cU2, .slice U3 d.vaults.length cU3, .int .i64 d.quorum, .string (ba d.seed), .int .i64 d.bits, .int .i64 d.height, .int .i64 d.sectors, .int .i64 d.size, .int .i64 d.day, .int .i64 d.leap, .int .i64 d.agree], .agg #[.slice V1 d.names.length cV1, .slice V2 d.quotas.length cV2, .slice V3 d.vaults.length cV3, .int .i64 d.quorum, .string (ba d.seed), .int .i64 d.bits, .int .i64 d.height, .int .i64 d.sectors, .int .i64 d.size, .int .i64 d.day, .int .i64 d.leap, .int .i64 d.agree]] w _
  have HWL := Lib.hid hW
  have CT := Lib.hid (fun (W : World) (k : Kept NoF w W) => (show Calls Tryz.prog 34 #[.slice U1 d.names.length cU1, .slice V1 d.names.length cV1] W fun e w' => e = .returned (.bool true) ∧ Drawn W w' from
    (texts_any cU1 cV1 W (Reads.of_own (ha.same k).n1) (Reads.of_own (hb.same k).n1) hN hN).mono (fun e w' h => ⟨by rw [h.1]; simp, h.2⟩)))
  have CI := Lib.hid (fun (W : World) (k : Kept NoF w W) => ints_same cU2 cV2 W (Reads.of_own (ha.same k).n2) (Reads.of_own (hb.same k).n2) hQ)
  go_enter Tryz.func24, Tryz.ntmps24
  go_upto_region 1 with fail
  generalize (w.alloc (.cells #[.slice U1 d.names.length cU1, .slice U2 d.quotas.length cU2, .slice U3 d.vaults.length cU3, .int .i64 d.quorum, .string (ba d.seed), .int .i64 d.bits, .int .i64 d.height, .int .i64 d.sectors, .int .i64 d.size, .int .i64 d.day, .int .i64 d.leap, .int .i64 d.agree] 63)).alloc (.cells #[.slice V1 d.names.length cV1, .slice V2 d.quotas.length cV2, .slice V3 d.vaults.length cV3, .int .i64 d.quorum, .string (ba d.seed), .int .i64 d.bits, .int .i64 d.height, .int .i64 d.sectors, .int .i64 d.size, .int .i64 d.day, .int .i64 d.leap, .int .i64 d.agree] 63) = w0 at bp bs kw0 ⊢
  generalize hsb : w.heap.size + 1 = sb at bs ⊢
  generalize hpb : w.heap.size = pb at bp ⊢
  have hps : w.heap.size ≤ pb ∧ w.heap.size ≤ sb := by omega
  clear hsb hpb
  obtain ⟨hpw, hsw⟩ := hps
  have e0 := (bp.cell 0).trans (show _ = some (.slice U1 d.names.length cU1) from rfl)
  have e1 := (bp.cell 1).trans (show _ = some (.slice U2 d.quotas.length cU2) from rfl)
  have e2 := (bp.cell 2).trans (show _ = some (.slice U3 d.vaults.length cU3) from rfl)
  have s0 := (bs.cell 0).trans (show _ = some (.slice V1 d.names.length cV1) from rfl)
  have s1 := (bs.cell 1).trans (show _ = some (.slice V2 d.quotas.length cV2) from rfl)
  have s2 := (bs.cell 2).trans (show _ = some (.slice V3 d.vaults.length cV3) from rfl)
  go_wp2_with fail
  refine (CT.out _ kw0).mono ?_
  clear CT
  rintro e w1 ⟨rfl, kd1⟩
  have k01 : Kept NoF w0 w1 := kd1.kept
  have bp1 := k01.blk bp (fun h => h)
  have bs1 := k01.blk bs (fun h => h)
  have kw1 := kw0.trans k01 (fun _ h => .inl h)
  clear kd1 k01 bp bs kw0 e0 e1 e2 s0 s1 s2
  have e0 := (bp1.cell 0).trans (show _ = some (.slice U1 d.names.length cU1) from rfl)
  have e1 := (bp1.cell 1).trans (show _ = some (.slice U2 d.quotas.length cU2) from rfl)
  have e2 := (bp1.cell 2).trans (show _ = some (.slice U3 d.vaults.length cU3) from rfl)
  have s0 := (bs1.cell 0).trans (show _ = some (.slice V1 d.names.length cV1) from rfl)
  have s1 := (bs1.cell 1).trans (show _ = some (.slice V2 d.quotas.length cV2) from rfl)
  have s2 := (bs1.cell 2).trans (show _ = some (.slice V3 d.vaults.length cV3) from rfl)
  go_wp2_with fail
  refine (CI.out _ kw1).mono ?_
  clear CI
  rintro e w2 ⟨rfl, kd2⟩
  have k12 : Kept NoF w1 w2 := kd2.kept
  have bp2 := k12.blk bp1 (fun h => h)
  have bs2 := k12.blk bs1 (fun h => h)
  have kw2 := kw1.trans k12 (fun _ h => .inl h)
  clear kd2 k12 bp1 bs1 kw1 e0 e1 e2 s0 s1 s2
  have e0 := (bp2.cell 0).trans (show _ = some (.slice U1 d.names.length cU1) from rfl)
  have e1 := (bp2.cell 1).trans (show _ = some (.slice U2 d.quotas.length cU2) from rfl)
  have e2 := (bp2.cell 2).trans (show _ = some (.slice U3 d.vaults.length cU3) from rfl)
  have s0 := (bs2.cell 0).trans (show _ = some (.slice V1 d.names.length cV1) from rfl)
  have s1 := (bs2.cell 1).trans (show _ = some (.slice V2 d.quotas.length cV2) from rfl)
  have s2 := (bs2.cell 2).trans (show _ = some (.slice V3 d.vaults.length cV3) from rfl)
  go_wp2_with fail
  clear e0 e1 e2 s0 s1 s2
  go_loopw [5] (SSRel w2 d.vaults.length) (fun i _ => d.vaults.length - (intOf i).toNat)
  case atStart => exact ⟨0, Nat.zero_le _, rfl, Kept.refl _ _⟩
  case round =>
    obtain ⟨j, hj, rfl, kr⟩ := hrel
    have bpr := kr.blk bp2 (fun h => h)
    have bsr := kr.blk bs2 (fun h => h)
    have kwr := kw2.trans kr (fun _ h => .inl h)
    by_cases hlt : j < d.vaults.length
    · obtain ⟨g, cap, A1, c1, eU, hg, hR1⟩ := vault_at (ha.same kwr) hlt
      obtain ⟨g', cap', A2, c2, eV, hg', hR2⟩ := vault_at (hb.same kwr) hlt
      injection eU with eU1 _ eU2
      injection eV with eV1 _ eV2
      subst eU1 eU2 eV1 eV2
      have hwl := HWL.out _ (List.getElem_mem hlt)
      have i1 : (j : Int) < (d.vaults.length : Int) := by omega
      generalize d.vaults[j] = v at hg hR1 hg' hR2 hwl
      have hge : (fun (w' : World) => w'.cell? ⟨pb, 2, none⟩ = some (.slice (some ⟨g, 0, none⟩) d.vaults.length cU3) ∧ w'.cell? ⟨sb, 2, none⟩ = some (.slice (some ⟨g', 0, none⟩) d.vaults.length cV3) ∧ w'.cell? ⟨g, j * 15, none⟩ = some (.int .i64 v.num) ∧ w'.cell? ⟨g, j * 15 + 1, none⟩ = some (.slice A1 v.writers.length c1) ∧ w'.cell? ⟨g, j * 15 + 2, none⟩ = some (.int .i64 v.data) ∧ w'.cell? ⟨g, j * 15 + 3, none⟩ = some (.int .i64 v.total) ∧ w'.cell? ⟨g, j * 15 + 4, none⟩ = some (.int .i64 v.thr) ∧ w'.cell? ⟨g, j * 15 + 5, none⟩ = some (.string (ba [])) ∧ w'.cell? ⟨g, j * 15 + 6, none⟩ = some (.int .i64 v.c0) ∧ w'.cell? ⟨g, j * 15 + 7, none⟩ = some (.int .i64 v.c1) ∧ w'.cell? ⟨g, j * 15 + 8, none⟩ = some (.int .i64 v.c2) ∧ w'.cell? ⟨g, j * 15 + 9, none⟩ = some (.int .i64 v.c3) ∧ w'.cell? ⟨g, j * 15 + 10, none⟩ = some (.int .u64 0) ∧ w'.cell? ⟨g, j * 15 + 11, none⟩ = some (.int .i64 v.r0) ∧ w'.cell? ⟨g, j * 15 + 12, none⟩ = some (.int .i64 v.r1) ∧ w'.cell? ⟨g, j * 15 + 13, none⟩ = some (.int .i64 v.r2) ∧ w'.cell? ⟨g, j * 15 + 14, none⟩ = some (.int .i64 v.r3) ∧ w'.cell? ⟨g', j * 15, none⟩ = some (.int .i64 v.num) ∧ w'.cell? ⟨g', j * 15 + 1, none⟩ = some (.slice A2 v.writers.length c2) ∧ w'.cell? ⟨g', j * 15 + 2, none⟩ = some (.int .i64 v.data) ∧ w'.cell? ⟨g', j * 15 + 3, none⟩ = some (.int .i64 v.total) ∧ w'.cell? ⟨g', j * 15 + 4, none⟩ = some (.int .i64 v.thr) ∧ w'.cell? ⟨g', j * 15 + 5, none⟩ = some (.string (ba [])) ∧ w'.cell? ⟨g', j * 15 + 6, none⟩ = some (.int .i64 v.c0) ∧ w'.cell? ⟨g', j * 15 + 7, none⟩ = some (.int .i64 v.c1) ∧ w'.cell? ⟨g', j * 15 + 8, none⟩ = some (.int .i64 v.c2) ∧ w'.cell? ⟨g', j * 15 + 9, none⟩ = some (.int .i64 v.c3) ∧ w'.cell? ⟨g', j * 15 + 10, none⟩ = some (.int .u64 0) ∧ w'.cell? ⟨g', j * 15 + 11, none⟩ = some (.int .i64 v.r0) ∧ w'.cell? ⟨g', j * 15 + 12, none⟩ = some (.int .i64 v.r1) ∧ w'.cell? ⟨g', j * 15 + 13, none⟩ = some (.int .i64 v.r2) ∧ w'.cell? ⟨g', j * 15 + 14, none⟩ = some (.int .i64 v.r3)) wr := ⟨(bpr.cell 2).trans rfl, (bsr.cell 2).trans rfl, (hg 0 (by omega)).trans rfl, (hg 1 (by omega)).trans rfl, (hg 2 (by omega)).trans rfl, (hg 3 (by omega)).trans rfl, (hg 4 (by omega)).trans rfl, (hg 5 (by omega)).trans rfl, (hg 6 (by omega)).trans rfl, (hg 7 (by omega)).trans rfl, (hg 8 (by omega)).trans rfl, (hg 9 (by omega)).trans rfl, (hg 10 (by omega)).trans rfl, (hg 11 (by omega)).trans rfl, (hg 12 (by omega)).trans rfl, (hg 13 (by omega)).trans rfl, (hg 14 (by omega)).trans rfl, (hg' 0 (by omega)).trans rfl, (hg' 1 (by omega)).trans rfl, (hg' 2 (by omega)).trans rfl, (hg' 3 (by omega)).trans rfl, (hg' 4 (by omega)).trans rfl, (hg' 5 (by omega)).trans rfl, (hg' 6 (by omega)).trans rfl, (hg' 7 (by omega)).trans rfl, (hg' 8 (by omega)).trans rfl, (hg' 9 (by omega)).trans rfl, (hg' 10 (by omega)).trans rfl, (hg' 11 (by omega)).trans rfl, (hg' 12 (by omega)).trans rfl, (hg' 13 (by omega)).trans rfl, (hg' 14 (by omega)).trans rfl⟩
      have HGE := Lib.hid hge
      clear hg hg' hge
      have SA := Lib.hid (fun W (k : Kept NoF wr W) => (by
        have h := HGE.out
        exact ⟨k.cell h.1 (fun h => h), k.cell h.2.1 (fun h => h), k.cell h.2.2.1 (fun h => h), k.cell h.2.2.2.1 (fun h => h), k.cell h.2.2.2.2.1 (fun h => h), k.cell h.2.2.2.2.2.1 (fun h => h), k.cell h.2.2.2.2.2.2.1 (fun h => h), k.cell h.2.2.2.2.2.2.2.1 (fun h => h), k.cell h.2.2.2.2.2.2.2.2.1 (fun h => h), k.cell h.2.2.2.2.2.2.2.2.2.1 (fun h => h), k.cell h.2.2.2.2.2.2.2.2.2.2.1 (fun h => h), k.cell h.2.2.2.2.2.2.2.2.2.2.2.1 (fun h => h), k.cell h.2.2.2.2.2.2.2.2.2.2.2.2.1 (fun h => h), k.cell h.2.2.2.2.2.2.2.2.2.2.2.2.2.1 (fun h => h), k.cell h.2.2.2.2.2.2.2.2.2.2.2.2.2.2.1 (fun h => h), k.cell h.2.2.2.2.2.2.2.2.2.2.2.2.2.2.2.1 (fun h => h), k.cell h.2.2.2.2.2.2.2.2.2.2.2.2.2.2.2.2.1 (fun h => h), k.cell h.2.2.2.2.2.2.2.2.2.2.2.2.2.2.2.2.2.1 (fun h => h), k.cell h.2.2.2.2.2.2.2.2.2.2.2.2.2.2.2.2.2.2.1 (fun h => h), k.cell h.2.2.2.2.2.2.2.2.2.2.2.2.2.2.2.2.2.2.2.1 (fun h => h), k.cell h.2.2.2.2.2.2.2.2.2.2.2.2.2.2.2.2.2.2.2.2.1 (fun h => h), k.cell h.2.2.2.2.2.2.2.2.2.2.2.2.2.2.2.2.2.2.2.2.2.1 (fun h => h), k.cell h.2.2.2.2.2.2.2.2.2.2.2.2.2.2.2.2.2.2.2.2.2.2.1 (fun h => h), k.cell h.2.2.2.2.2.2.2.2.2.2.2.2.2.2.2.2.2.2.2.2.2.2.2.1 (fun h => h), k.cell h.2.2.2.2.2.2.2.2.2.2.2.2.2.2.2.2.2.2.2.2.2.2.2.2.1 (fun h => h), k.cell h.2.2.2.2.2.2.2.2.2.2.2.2.2.2.2.2.2.2.2.2.2.2.2.2.2.1 (fun h => h), k.cell h.2.2.2.2.2.2.2.2.2.2.2.2.2.2.2.2.2.2.2.2.2.2.2.2.2.2.1 (fun h => h), k.cell h.2.2.2.2.2.2.2.2.2.2.2.2.2.2.2.2.2.2.2.2.2.2.2.2.2.2.2.1 (fun h => h), k.cell h.2.2.2.2.2.2.2.2.2.2.2.2.2.2.2.2.2.2.2.2.2.2.2.2.2.2.2.2.1 (fun h => h), k.cell h.2.2.2.2.2.2.2.2.2.2.2.2.2.2.2.2.2.2.2.2.2.2.2.2.2.2.2.2.2.1 (fun h => h), k.cell h.2.2.2.2.2.2.2.2.2.2.2.2.2.2.2.2.2.2.2.2.2.2.2.2.2.2.2.2.2.2.1 (fun h => h), k.cell h.2.2.2.2.2.2.2.2.2.2.2.2.2.2.2.2.2.2.2.2.2.2.2.2.2.2.2.2.2.2.2 (fun h => h)⟩ : (fun (w' : World) => w'.cell? ⟨pb, 2, none⟩ = some (.slice (some ⟨g, 0, none⟩) d.vaults.length cU3) ∧ w'.cell? ⟨sb, 2, none⟩ = some (.slice (some ⟨g', 0, none⟩) d.vaults.length cV3) ∧ w'.cell? ⟨g, j * 15, none⟩ = some (.int .i64 v.num) ∧ w'.cell? ⟨g, j * 15 + 1, none⟩ = some (.slice A1 v.writers.length c1) ∧ w'.cell? ⟨g, j * 15 + 2, none⟩ = some (.int .i64 v.data) ∧ w'.cell? ⟨g, j * 15 + 3, none⟩ = some (.int .i64 v.total) ∧ w'.cell? ⟨g, j * 15 + 4, none⟩ = some (.int .i64 v.thr) ∧ w'.cell? ⟨g, j * 15 + 5, none⟩ = some (.string (ba [])) ∧ w'.cell? ⟨g, j * 15 + 6, none⟩ = some (.int .i64 v.c0) ∧ w'.cell? ⟨g, j * 15 + 7, none⟩ = some (.int .i64 v.c1) ∧ w'.cell? ⟨g, j * 15 + 8, none⟩ = some (.int .i64 v.c2) ∧ w'.cell? ⟨g, j * 15 + 9, none⟩ = some (.int .i64 v.c3) ∧ w'.cell? ⟨g, j * 15 + 10, none⟩ = some (.int .u64 0) ∧ w'.cell? ⟨g, j * 15 + 11, none⟩ = some (.int .i64 v.r0) ∧ w'.cell? ⟨g, j * 15 + 12, none⟩ = some (.int .i64 v.r1) ∧ w'.cell? ⟨g, j * 15 + 13, none⟩ = some (.int .i64 v.r2) ∧ w'.cell? ⟨g, j * 15 + 14, none⟩ = some (.int .i64 v.r3) ∧ w'.cell? ⟨g', j * 15, none⟩ = some (.int .i64 v.num) ∧ w'.cell? ⟨g', j * 15 + 1, none⟩ = some (.slice A2 v.writers.length c2) ∧ w'.cell? ⟨g', j * 15 + 2, none⟩ = some (.int .i64 v.data) ∧ w'.cell? ⟨g', j * 15 + 3, none⟩ = some (.int .i64 v.total) ∧ w'.cell? ⟨g', j * 15 + 4, none⟩ = some (.int .i64 v.thr) ∧ w'.cell? ⟨g', j * 15 + 5, none⟩ = some (.string (ba [])) ∧ w'.cell? ⟨g', j * 15 + 6, none⟩ = some (.int .i64 v.c0) ∧ w'.cell? ⟨g', j * 15 + 7, none⟩ = some (.int .i64 v.c1) ∧ w'.cell? ⟨g', j * 15 + 8, none⟩ = some (.int .i64 v.c2) ∧ w'.cell? ⟨g', j * 15 + 9, none⟩ = some (.int .i64 v.c3) ∧ w'.cell? ⟨g', j * 15 + 10, none⟩ = some (.int .u64 0) ∧ w'.cell? ⟨g', j * 15 + 11, none⟩ = some (.int .i64 v.r0) ∧ w'.cell? ⟨g', j * 15 + 12, none⟩ = some (.int .i64 v.r1) ∧ w'.cell? ⟨g', j * 15 + 13, none⟩ = some (.int .i64 v.r2) ∧ w'.cell? ⟨g', j * 15 + 14, none⟩ = some (.int .i64 v.r3)) W))
      have e2 := (bpr.cell 2).trans (show _ = some (.slice (some ⟨g, 0, none⟩) d.vaults.length cU3) from rfl)
      have s2 := (bsr.cell 2).trans (show _ = some (.slice (some ⟨g', 0, none⟩) d.vaults.length cV3) from rfl)
      go_upto_region 6 with fail
      clear e2 s2
      go_cut [6, 7] from 38 to 48 (SCut wr #[.int .i64 v.num, .slice A1 v.writers.length c1, .int .i64 v.data, .int .i64 v.total, .int .i64 v.thr, .string (ba []), .int .i64 v.c0, .int .i64 v.c1, .int .i64 v.c2, .int .i64 v.c3, .int .u64 0, .int .i64 v.r0, .int .i64 v.r1, .int .i64 v.r2, .int .i64 v.r3] #[.int .i64 v.num, .slice A2 v.writers.length c2, .int .i64 v.data, .int .i64 v.total, .int .i64 v.thr, .string (ba []), .int .i64 v.c0, .int .i64 v.c1, .int .i64 v.c2, .int .i64 v.c3, .int .u64 0, .int .i64 v.r0, .int .i64 v.r1, .int .i64 v.r2, .int .i64 v.r3])
      case first =>
        rename_i J KK hJ hKK
        refine wp_region_noPanic ?_
        refine wp_region_held_drew (S := (fun (w' : World) => w'.cell? ⟨pb, 2, none⟩ = some (.slice (some ⟨g, 0, none⟩) d.vaults.length cU3) ∧ w'.cell? ⟨sb, 2, none⟩ = some (.slice (some ⟨g', 0, none⟩) d.vaults.length cV3) ∧ w'.cell? ⟨g, j * 15, none⟩ = some (.int .i64 v.num) ∧ w'.cell? ⟨g, j * 15 + 1, none⟩ = some (.slice A1 v.writers.length c1) ∧ w'.cell? ⟨g, j * 15 + 2, none⟩ = some (.int .i64 v.data) ∧ w'.cell? ⟨g, j * 15 + 3, none⟩ = some (.int .i64 v.total) ∧ w'.cell? ⟨g, j * 15 + 4, none⟩ = some (.int .i64 v.thr) ∧ w'.cell? ⟨g, j * 15 + 5, none⟩ = some (.string (ba [])) ∧ w'.cell? ⟨g, j * 15 + 6, none⟩ = some (.int .i64 v.c0) ∧ w'.cell? ⟨g, j * 15 + 7, none⟩ = some (.int .i64 v.c1) ∧ w'.cell? ⟨g, j * 15 + 8, none⟩ = some (.int .i64 v.c2) ∧ w'.cell? ⟨g, j * 15 + 9, none⟩ = some (.int .i64 v.c3) ∧ w'.cell? ⟨g, j * 15 + 10, none⟩ = some (.int .u64 0) ∧ w'.cell? ⟨g, j * 15 + 11, none⟩ = some (.int .i64 v.r0) ∧ w'.cell? ⟨g, j * 15 + 12, none⟩ = some (.int .i64 v.r1) ∧ w'.cell? ⟨g, j * 15 + 13, none⟩ = some (.int .i64 v.r2) ∧ w'.cell? ⟨g, j * 15 + 14, none⟩ = some (.int .i64 v.r3) ∧ w'.cell? ⟨g', j * 15, none⟩ = some (.int .i64 v.num) ∧ w'.cell? ⟨g', j * 15 + 1, none⟩ = some (.slice A2 v.writers.length c2) ∧ w'.cell? ⟨g', j * 15 + 2, none⟩ = some (.int .i64 v.data) ∧ w'.cell? ⟨g', j * 15 + 3, none⟩ = some (.int .i64 v.total) ∧ w'.cell? ⟨g', j * 15 + 4, none⟩ = some (.int .i64 v.thr) ∧ w'.cell? ⟨g', j * 15 + 5, none⟩ = some (.string (ba [])) ∧ w'.cell? ⟨g', j * 15 + 6, none⟩ = some (.int .i64 v.c0) ∧ w'.cell? ⟨g', j * 15 + 7, none⟩ = some (.int .i64 v.c1) ∧ w'.cell? ⟨g', j * 15 + 8, none⟩ = some (.int .i64 v.c2) ∧ w'.cell? ⟨g', j * 15 + 9, none⟩ = some (.int .i64 v.c3) ∧ w'.cell? ⟨g', j * 15 + 10, none⟩ = some (.int .u64 0) ∧ w'.cell? ⟨g', j * 15 + 11, none⟩ = some (.int .i64 v.r0) ∧ w'.cell? ⟨g', j * 15 + 12, none⟩ = some (.int .i64 v.r1) ∧ w'.cell? ⟨g', j * 15 + 13, none⟩ = some (.int .i64 v.r2) ∧ w'.cell? ⟨g', j * 15 + 14, none⟩ = some (.int .i64 v.r3))) (by kernel_rfl) ?_ (fun hHeld => ?_)
        · exact SA.out _ (Kept.refl NoF wr).drew
        have k0 := (Kept.refl NoF wr).drew
        generalize wr.drew = W0 at hHeld k0 ⊢
        refine wpAnyH_take (i := 0) (v := ?_) rfl (by kernel_rfl) (by kernel_rfl) (by kernel_rfl) (fun _ _ _ h => h) (Or.inl ⟨by rfl, ?_⟩) hHeld ?_
        rotate_left
        · (intro w hSw; (try dsimp only at hSw); go_simp; try (with_reducible rfl))
        simp only [Act.put, List.getElem_toArray, List.getElem_cons_zero, List.setIfInBounds_toArray, List.set_cons_zero, List.set_cons_succ]
        refine wpAnyH_take (i := 1) (v := ?_) rfl (by kernel_rfl) (by kernel_rfl) (by kernel_rfl) (fun _ _ _ h => h) (Or.inl ⟨by rfl, ?_⟩) hHeld ?_
        rotate_left
        · (intro w hSw; (try dsimp only at hSw); go_simp; try (with_reducible rfl))
        simp only [Act.put, List.getElem_toArray, List.getElem_cons_zero, List.getElem_cons_succ, List.setIfInBounds_toArray, List.set_cons_zero, List.set_cons_succ]
        refine wpAnyH_take (i := 2) (v := ?_) rfl (by kernel_rfl) (by kernel_rfl) (by kernel_rfl) (fun _ _ _ h => h) (Or.inl ⟨by rfl, ?_⟩) hHeld ?_
        rotate_left
        · (intro w hSw; (try dsimp only at hSw); go_simp; try (with_reducible rfl))
        simp only [Act.put, List.getElem_toArray, List.getElem_cons_zero, List.getElem_cons_succ, List.setIfInBounds_toArray, List.set_cons_zero, List.set_cons_succ]
        refine wpAnyH_take (i := 3) (v := ?_) rfl (by kernel_rfl) (by kernel_rfl) (by kernel_rfl) (fun _ _ _ h => h) (Or.inl ⟨by rfl, ?_⟩) hHeld ?_
        rotate_left
        · (intro w hSw; (try dsimp only at hSw); go_simp; try (with_reducible rfl))
        simp only [Act.put, List.getElem_toArray, List.getElem_cons_zero, List.getElem_cons_succ, List.setIfInBounds_toArray, List.set_cons_zero, List.set_cons_succ]
        refine wpAnyH_take (i := 4) (v := ?_) rfl (by kernel_rfl) (by kernel_rfl) (by kernel_rfl) (fun _ _ _ h => h) (Or.inl ⟨by rfl, ?_⟩) hHeld ?_
        rotate_left
        · (intro w hSw; (try dsimp only at hSw); go_simp; try (with_reducible rfl))
        simp only [Act.put, List.getElem_toArray, List.getElem_cons_zero, List.getElem_cons_succ, List.setIfInBounds_toArray, List.set_cons_zero, List.set_cons_succ]
        refine wpAnyH_take (i := 5) (v := ?_) rfl (by kernel_rfl) (by kernel_rfl) (by kernel_rfl) (fun _ _ _ h => h) (Or.inl ⟨by rfl, ?_⟩) hHeld ?_
        rotate_left
        · (intro w hSw; (try dsimp only at hSw); go_simp; try (with_reducible rfl))
        simp only [Act.put, List.getElem_toArray, List.getElem_cons_zero, List.getElem_cons_succ, List.setIfInBounds_toArray, List.set_cons_zero, List.set_cons_succ]
        refine wpAnyH_take (i := 6) (v := ?_) rfl (by kernel_rfl) (by kernel_rfl) (by kernel_rfl) (fun _ _ _ h => h) (Or.inl ⟨by rfl, ?_⟩) hHeld ?_
        rotate_left
        · (intro w hSw; (try dsimp only at hSw); go_simp; try (with_reducible rfl))
        simp only [Act.put, List.getElem_toArray, List.getElem_cons_zero, List.getElem_cons_succ, List.setIfInBounds_toArray, List.set_cons_zero, List.set_cons_succ]
        refine wpAnyH_take (i := 7) (v := ?_) rfl (by kernel_rfl) (by kernel_rfl) (by kernel_rfl) (fun _ _ _ h => h) (Or.inl ⟨by rfl, ?_⟩) hHeld ?_
        rotate_left
        · (intro w hSw; (try dsimp only at hSw); go_simp; try (with_reducible rfl))
        simp only [Act.put, List.getElem_toArray, List.getElem_cons_zero, List.getElem_cons_succ, List.setIfInBounds_toArray, List.set_cons_zero, List.set_cons_succ]
        refine wpAnyH_take (i := 8) (v := ?_) rfl (by kernel_rfl) (by kernel_rfl) (by kernel_rfl) (fun _ _ _ h => h) (Or.inl ⟨by rfl, ?_⟩) hHeld ?_
        rotate_left
        · (intro w hSw; (try dsimp only at hSw); go_simp; try (with_reducible rfl))
        simp only [Act.put, List.getElem_toArray, List.getElem_cons_zero, List.getElem_cons_succ, List.setIfInBounds_toArray, List.set_cons_zero, List.set_cons_succ]
        refine wpAnyH_take (i := 9) (v := ?_) rfl (by kernel_rfl) (by kernel_rfl) (by kernel_rfl) (fun _ _ _ h => h) (Or.inl ⟨by rfl, ?_⟩) hHeld ?_
        rotate_left
        · (intro w hSw; (try dsimp only at hSw); go_simp; try (with_reducible rfl))
        simp only [Act.put, List.getElem_toArray, List.getElem_cons_zero, List.getElem_cons_succ, List.setIfInBounds_toArray, List.set_cons_zero, List.set_cons_succ]
        refine wpAnyH_ready (rs := [10, 11]) (by kernel_rfl) (by simp) ?_
        refine AllReadyH.cons rfl (fun K hK => ?_) (AllReadyH.cons rfl (fun K hK => ?_) (AllReadyH.nil))
        · skip
          go_simp
          have ba0 := Blk.new W0 119 #[.int .i64 0, .slice none 0 0, .int .i64 0, .int .i64 0, .int .i64 0, .string ⟨#[]⟩, .int .i64 0, .int .i64 0, .int .i64 0, .int .i64 0, .int .u64 0, .int .i64 0, .int .i64 0, .int .i64 0, .int .i64 0]
          have k1 := k0.alloc (.cells #[.int .i64 0, .slice none 0 0, .int .i64 0, .int .i64 0, .int .i64 0, .string ⟨#[]⟩, .int .i64 0, .int .i64 0, .int .i64 0, .int .i64 0, .int .u64 0, .int .i64 0, .int .i64 0, .int .i64 0, .int .i64 0] 119)
          have hza := k0.size
          generalize W0.alloc (.cells #[.int .i64 0, .slice none 0 0, .int .i64 0, .int .i64 0, .int .i64 0, .string ⟨#[]⟩, .int .i64 0, .int .i64 0, .int .i64 0, .int .i64 0, .int .u64 0, .int .i64 0, .int .i64 0, .int .i64 0, .int .i64 0] 119) = W1 at ba0 k1 ⊢
          generalize W0.heap.size = va at ba0 hza ⊢
          refine hK.out _ _ (SA.out _ k1) (fun hHeld => ?_)
          clear hK K
          refine wpAnyH_ready (rs := [11]) (by kernel_rfl) (by simp) ?_
          refine AllReadyH.cons rfl (fun K hK => ?_) AllReadyH.nil
          go_simp
          have bb0 := Blk.new W1 119 #[.int .i64 0, .slice none 0 0, .int .i64 0, .int .i64 0, .int .i64 0, .string ⟨#[]⟩, .int .i64 0, .int .i64 0, .int .i64 0, .int .i64 0, .int .u64 0, .int .i64 0, .int .i64 0, .int .i64 0, .int .i64 0]
          have ba1 := ba0.alloc (.cells #[.int .i64 0, .slice none 0 0, .int .i64 0, .int .i64 0, .int .i64 0, .string ⟨#[]⟩, .int .i64 0, .int .i64 0, .int .i64 0, .int .i64 0, .int .u64 0, .int .i64 0, .int .i64 0, .int .i64 0, .int .i64 0] 119)
          have hab := ba0.lt
          have k2 := k1.alloc (.cells #[.int .i64 0, .slice none 0 0, .int .i64 0, .int .i64 0, .int .i64 0, .string ⟨#[]⟩, .int .i64 0, .int .i64 0, .int .i64 0, .int .i64 0, .int .u64 0, .int .i64 0, .int .i64 0, .int .i64 0, .int .i64 0] 119)
          generalize W1.alloc (.cells #[.int .i64 0, .slice none 0 0, .int .i64 0, .int .i64 0, .int .i64 0, .string ⟨#[]⟩, .int .i64 0, .int .i64 0, .int .i64 0, .int .i64 0, .int .u64 0, .int .i64 0, .int .i64 0, .int .i64 0, .int .i64 0] 119) = W2 at ba1 bb0 k2 ⊢
          generalize W1.heap.size = vb at bb0 hab ⊢
          refine hK.out _ _ (SA.out _ k2) (fun hHeld => ?_)
          clear hK K
          have z6 : ∀ i, W2.frozen? ⟨va, i, none⟩ = false := fun i => ba1.frozen i
          have p0 := (ba1.cell 0).trans (show _ = some (.int .i64 0) from rfl)
          have p1 := (ba1.cell 1).trans (show _ = some (.slice none 0 0) from rfl)
          have p2 := (ba1.cell 2).trans (show _ = some (.int .i64 0) from rfl)
          have p3 := (ba1.cell 3).trans (show _ = some (.int .i64 0) from rfl)
          have p4 := (ba1.cell 4).trans (show _ = some (.int .i64 0) from rfl)
          have p5 := (ba1.cell 5).trans (show _ = some (.string ⟨#[]⟩) from rfl)
          have p6 := (ba1.cell 6).trans (show _ = some (.int .i64 0) from rfl)
          have p7 := (ba1.cell 7).trans (show _ = some (.int .i64 0) from rfl)
          have p8 := (ba1.cell 8).trans (show _ = some (.int .i64 0) from rfl)
          have p9 := (ba1.cell 9).trans (show _ = some (.int .i64 0) from rfl)
          have p10 := (ba1.cell 10).trans (show _ = some (.int .u64 0) from rfl)
          have p11 := (ba1.cell 11).trans (show _ = some (.int .i64 0) from rfl)
          have p12 := (ba1.cell 12).trans (show _ = some (.int .i64 0) from rfl)
          have p13 := (ba1.cell 13).trans (show _ = some (.int .i64 0) from rfl)
          have p14 := (ba1.cell 14).trans (show _ = some (.int .i64 0) from rfl)
          have k3 := rkept_new k2 (n := va) (by omega) (vlist v A1 c1)
          have q6 := rblk_puts ba1 (vlist v A1 c1)
          rw [vlist_fill] at q6
          have q7 := rblk_far bb0 (m := va) (by omega) (vlist v A1 c1)
          refine wpAnyH_ready (rs := [12]) (by kernel_rfl) (by simp) ?_
          refine AllReadyH.cons rfl (fun K hK => ?_) AllReadyH.nil
          go_simp
          simp only [vlist, List.foldl_cons, List.foldl_nil] at k3 q6 q7
          refine hK.out _ _ (SA.out _ k3) (fun hHeld => ?_)
          clear hK K z6 p0 p1 p2 p3 p4 p5 p6 p7 p8 p9 p10 p11 p12 p13 p14
          generalize (((((((((((((((W2.setCell ⟨va, 0, none⟩ (.int .i64 v.num)).setCell ⟨va, 1, none⟩ (.slice A1 v.writers.length c1)).setCell ⟨va, 2, none⟩ (.int .i64 v.data)).setCell ⟨va, 3, none⟩ (.int .i64 v.total)).setCell ⟨va, 4, none⟩ (.int .i64 v.thr)).setCell ⟨va, 5, none⟩ (.string (ba []))).setCell ⟨va, 6, none⟩ (.int .i64 v.c0)).setCell ⟨va, 7, none⟩ (.int .i64 v.c1)).setCell ⟨va, 8, none⟩ (.int .i64 v.c2)).setCell ⟨va, 9, none⟩ (.int .i64 v.c3)).setCell ⟨va, 10, none⟩ (.int .u64 0)).setCell ⟨va, 11, none⟩ (.int .i64 v.r0)).setCell ⟨va, 12, none⟩ (.int .i64 v.r1)).setCell ⟨va, 13, none⟩ (.int .i64 v.r2)).setCell ⟨va, 14, none⟩ (.int .i64 v.r3)) = W3 at k3 q6 q7 hHeld ⊢
          have z7 : ∀ i, W3.frozen? ⟨vb, i, none⟩ = false := fun i => q7.frozen i
          have p0 := (q7.cell 0).trans (show _ = some (.int .i64 0) from rfl)
          have p1 := (q7.cell 1).trans (show _ = some (.slice none 0 0) from rfl)
          have p2 := (q7.cell 2).trans (show _ = some (.int .i64 0) from rfl)
          have p3 := (q7.cell 3).trans (show _ = some (.int .i64 0) from rfl)
          have p4 := (q7.cell 4).trans (show _ = some (.int .i64 0) from rfl)
          have p5 := (q7.cell 5).trans (show _ = some (.string ⟨#[]⟩) from rfl)
          have p6 := (q7.cell 6).trans (show _ = some (.int .i64 0) from rfl)
          have p7 := (q7.cell 7).trans (show _ = some (.int .i64 0) from rfl)
          have p8 := (q7.cell 8).trans (show _ = some (.int .i64 0) from rfl)
          have p9 := (q7.cell 9).trans (show _ = some (.int .i64 0) from rfl)
          have p10 := (q7.cell 10).trans (show _ = some (.int .u64 0) from rfl)
          have p11 := (q7.cell 11).trans (show _ = some (.int .i64 0) from rfl)
          have p12 := (q7.cell 12).trans (show _ = some (.int .i64 0) from rfl)
          have p13 := (q7.cell 13).trans (show _ = some (.int .i64 0) from rfl)
          have p14 := (q7.cell 14).trans (show _ = some (.int .i64 0) from rfl)
          have k4 := rkept_new k3 (n := vb) (by omega) (vlist v A2 c2)
          have r7 := rblk_puts q7 (vlist v A2 c2)
          rw [vlist_fill] at r7
          have r6 := rblk_far q6 (m := vb) (by omega) (vlist v A2 c2)
          refine wpAnyH_ready (rs := [13]) (by kernel_rfl) (by simp) ?_
          refine AllReadyH.cons rfl (fun K hK => ?_) AllReadyH.nil
          go_simp
          simp only [vlist, List.foldl_cons, List.foldl_nil] at k4 r6 r7
          refine hK.out _ _ (SA.out _ k4) (fun hHeld => ?_)
          clear hK K z7 p0 p1 p2 p3 p4 p5 p6 p7 p8 p9 p10 p11 p12 p13 p14
          refine wpAnyH_done (by kernel_rfl) ?_ _
          refine NoPanic.normal ?_
          first | refine Met.intro (hJ _ _ ?_) | refine hKK _ _ (Met.intro (hJ _ _ ?_))
          (repeat apply Exists.intro)
          refine ⟨?_, rfl⟩
          exact ⟨va, vb, rfl, rfl, r6, r7, k4⟩
        · skip
          go_simp
          have ba0 := Blk.new W0 119 #[.int .i64 0, .slice none 0 0, .int .i64 0, .int .i64 0, .int .i64 0, .string ⟨#[]⟩, .int .i64 0, .int .i64 0, .int .i64 0, .int .i64 0, .int .u64 0, .int .i64 0, .int .i64 0, .int .i64 0, .int .i64 0]
          have k1 := k0.alloc (.cells #[.int .i64 0, .slice none 0 0, .int .i64 0, .int .i64 0, .int .i64 0, .string ⟨#[]⟩, .int .i64 0, .int .i64 0, .int .i64 0, .int .i64 0, .int .u64 0, .int .i64 0, .int .i64 0, .int .i64 0, .int .i64 0] 119)
          have hza := k0.size
          generalize W0.alloc (.cells #[.int .i64 0, .slice none 0 0, .int .i64 0, .int .i64 0, .int .i64 0, .string ⟨#[]⟩, .int .i64 0, .int .i64 0, .int .i64 0, .int .i64 0, .int .u64 0, .int .i64 0, .int .i64 0, .int .i64 0, .int .i64 0] 119) = W1 at ba0 k1 ⊢
          generalize W0.heap.size = va at ba0 hza ⊢
          refine hK.out _ _ (SA.out _ k1) (fun hHeld => ?_)
          clear hK K
          refine wpAnyH_ready (rs := [10]) (by kernel_rfl) (by simp) ?_
          refine AllReadyH.cons rfl (fun K hK => ?_) AllReadyH.nil
          go_simp
          have bb0 := Blk.new W1 119 #[.int .i64 0, .slice none 0 0, .int .i64 0, .int .i64 0, .int .i64 0, .string ⟨#[]⟩, .int .i64 0, .int .i64 0, .int .i64 0, .int .i64 0, .int .u64 0, .int .i64 0, .int .i64 0, .int .i64 0, .int .i64 0]
          have ba1 := ba0.alloc (.cells #[.int .i64 0, .slice none 0 0, .int .i64 0, .int .i64 0, .int .i64 0, .string ⟨#[]⟩, .int .i64 0, .int .i64 0, .int .i64 0, .int .i64 0, .int .u64 0, .int .i64 0, .int .i64 0, .int .i64 0, .int .i64 0] 119)
          have hab := ba0.lt
          have k2 := k1.alloc (.cells #[.int .i64 0, .slice none 0 0, .int .i64 0, .int .i64 0, .int .i64 0, .string ⟨#[]⟩, .int .i64 0, .int .i64 0, .int .i64 0, .int .i64 0, .int .u64 0, .int .i64 0, .int .i64 0, .int .i64 0, .int .i64 0] 119)
          generalize W1.alloc (.cells #[.int .i64 0, .slice none 0 0, .int .i64 0, .int .i64 0, .int .i64 0, .string ⟨#[]⟩, .int .i64 0, .int .i64 0, .int .i64 0, .int .i64 0, .int .u64 0, .int .i64 0, .int .i64 0, .int .i64 0, .int .i64 0] 119) = W2 at ba1 bb0 k2 ⊢
          generalize W1.heap.size = vb at bb0 hab ⊢
          refine hK.out _ _ (SA.out _ k2) (fun hHeld => ?_)
          clear hK K
          have z6 : ∀ i, W2.frozen? ⟨vb, i, none⟩ = false := fun i => bb0.frozen i
          have p0 := (bb0.cell 0).trans (show _ = some (.int .i64 0) from rfl)
          have p1 := (bb0.cell 1).trans (show _ = some (.slice none 0 0) from rfl)
          have p2 := (bb0.cell 2).trans (show _ = some (.int .i64 0) from rfl)
          have p3 := (bb0.cell 3).trans (show _ = some (.int .i64 0) from rfl)
          have p4 := (bb0.cell 4).trans (show _ = some (.int .i64 0) from rfl)
          have p5 := (bb0.cell 5).trans (show _ = some (.string ⟨#[]⟩) from rfl)
          have p6 := (bb0.cell 6).trans (show _ = some (.int .i64 0) from rfl)
          have p7 := (bb0.cell 7).trans (show _ = some (.int .i64 0) from rfl)
          have p8 := (bb0.cell 8).trans (show _ = some (.int .i64 0) from rfl)
          have p9 := (bb0.cell 9).trans (show _ = some (.int .i64 0) from rfl)
          have p10 := (bb0.cell 10).trans (show _ = some (.int .u64 0) from rfl)
          have p11 := (bb0.cell 11).trans (show _ = some (.int .i64 0) from rfl)
          have p12 := (bb0.cell 12).trans (show _ = some (.int .i64 0) from rfl)
          have p13 := (bb0.cell 13).trans (show _ = some (.int .i64 0) from rfl)
          have p14 := (bb0.cell 14).trans (show _ = some (.int .i64 0) from rfl)
          have k3 := rkept_new k2 (n := vb) (by omega) (vlist v A1 c1)
          have q6 := rblk_puts bb0 (vlist v A1 c1)
          rw [vlist_fill] at q6
          have q7 := rblk_far ba1 (m := vb) (by omega) (vlist v A1 c1)
          refine wpAnyH_ready (rs := [12]) (by kernel_rfl) (by simp) ?_
          refine AllReadyH.cons rfl (fun K hK => ?_) AllReadyH.nil
          go_simp
          simp only [vlist, List.foldl_cons, List.foldl_nil] at k3 q6 q7
          refine hK.out _ _ (SA.out _ k3) (fun hHeld => ?_)
          clear hK K z6 p0 p1 p2 p3 p4 p5 p6 p7 p8 p9 p10 p11 p12 p13 p14
          generalize (((((((((((((((W2.setCell ⟨vb, 0, none⟩ (.int .i64 v.num)).setCell ⟨vb, 1, none⟩ (.slice A1 v.writers.length c1)).setCell ⟨vb, 2, none⟩ (.int .i64 v.data)).setCell ⟨vb, 3, none⟩ (.int .i64 v.total)).setCell ⟨vb, 4, none⟩ (.int .i64 v.thr)).setCell ⟨vb, 5, none⟩ (.string (ba []))).setCell ⟨vb, 6, none⟩ (.int .i64 v.c0)).setCell ⟨vb, 7, none⟩ (.int .i64 v.c1)).setCell ⟨vb, 8, none⟩ (.int .i64 v.c2)).setCell ⟨vb, 9, none⟩ (.int .i64 v.c3)).setCell ⟨vb, 10, none⟩ (.int .u64 0)).setCell ⟨vb, 11, none⟩ (.int .i64 v.r0)).setCell ⟨vb, 12, none⟩ (.int .i64 v.r1)).setCell ⟨vb, 13, none⟩ (.int .i64 v.r2)).setCell ⟨vb, 14, none⟩ (.int .i64 v.r3)) = W3 at k3 q6 q7 hHeld ⊢
          have z7 : ∀ i, W3.frozen? ⟨va, i, none⟩ = false := fun i => q7.frozen i
          have p0 := (q7.cell 0).trans (show _ = some (.int .i64 0) from rfl)
          have p1 := (q7.cell 1).trans (show _ = some (.slice none 0 0) from rfl)
          have p2 := (q7.cell 2).trans (show _ = some (.int .i64 0) from rfl)
          have p3 := (q7.cell 3).trans (show _ = some (.int .i64 0) from rfl)
          have p4 := (q7.cell 4).trans (show _ = some (.int .i64 0) from rfl)
          have p5 := (q7.cell 5).trans (show _ = some (.string ⟨#[]⟩) from rfl)
          have p6 := (q7.cell 6).trans (show _ = some (.int .i64 0) from rfl)
          have p7 := (q7.cell 7).trans (show _ = some (.int .i64 0) from rfl)
          have p8 := (q7.cell 8).trans (show _ = some (.int .i64 0) from rfl)
          have p9 := (q7.cell 9).trans (show _ = some (.int .i64 0) from rfl)
          have p10 := (q7.cell 10).trans (show _ = some (.int .u64 0) from rfl)
          have p11 := (q7.cell 11).trans (show _ = some (.int .i64 0) from rfl)
          have p12 := (q7.cell 12).trans (show _ = some (.int .i64 0) from rfl)
          have p13 := (q7.cell 13).trans (show _ = some (.int .i64 0) from rfl)
          have p14 := (q7.cell 14).trans (show _ = some (.int .i64 0) from rfl)
          have k4 := rkept_new k3 (n := va) (by omega) (vlist v A2 c2)
          have r7 := rblk_puts q7 (vlist v A2 c2)
          rw [vlist_fill] at r7
          have r6 := rblk_far q6 (m := va) (by omega) (vlist v A2 c2)
          refine wpAnyH_ready (rs := [13]) (by kernel_rfl) (by simp) ?_
          refine AllReadyH.cons rfl (fun K hK => ?_) AllReadyH.nil
          go_simp
          simp only [vlist, List.foldl_cons, List.foldl_nil] at k4 r6 r7
          refine hK.out _ _ (SA.out _ k4) (fun hHeld => ?_)
          clear hK K z7 p0 p1 p2 p3 p4 p5 p6 p7 p8 p9 p10 p11 p12 p13 p14
          refine wpAnyH_done (by kernel_rfl) ?_ _
          refine NoPanic.normal ?_
          first | refine Met.intro (hJ _ _ ?_) | refine hKK _ _ (Met.intro (hJ _ _ ?_))
          (repeat apply Exists.intro)
          refine ⟨?_, rfl⟩
          exact ⟨vb, va, rfl, rfl, r6, r7, k4⟩
      case rest =>
        obtain ⟨p, q, rfl, rfl, bv6, bv7, kq⟩ := hcut
        have p0 := (bv6.cell 0).trans (show _ = some (.int .i64 v.num) from rfl)
        have p1 := (bv6.cell 1).trans (show _ = some (.slice A1 v.writers.length c1) from rfl)
        have p2 := (bv6.cell 2).trans (show _ = some (.int .i64 v.data) from rfl)
        have p3 := (bv6.cell 3).trans (show _ = some (.int .i64 v.total) from rfl)
        have p4 := (bv6.cell 4).trans (show _ = some (.int .i64 v.thr) from rfl)
        have p5 := (bv6.cell 5).trans (show _ = some (.string (ba [])) from rfl)
        have p6 := (bv6.cell 6).trans (show _ = some (.int .i64 v.c0) from rfl)
        have p7 := (bv6.cell 7).trans (show _ = some (.int .i64 v.c1) from rfl)
        have p8 := (bv6.cell 8).trans (show _ = some (.int .i64 v.c2) from rfl)
        have p9 := (bv6.cell 9).trans (show _ = some (.int .i64 v.c3) from rfl)
        have p10 := (bv6.cell 10).trans (show _ = some (.int .u64 0) from rfl)
        have p11 := (bv6.cell 11).trans (show _ = some (.int .i64 v.r0) from rfl)
        have p12 := (bv6.cell 12).trans (show _ = some (.int .i64 v.r1) from rfl)
        have p13 := (bv6.cell 13).trans (show _ = some (.int .i64 v.r2) from rfl)
        have p14 := (bv6.cell 14).trans (show _ = some (.int .i64 v.r3) from rfl)
        have q0 := (bv7.cell 0).trans (show _ = some (.int .i64 v.num) from rfl)
        have q1 := (bv7.cell 1).trans (show _ = some (.slice A2 v.writers.length c2) from rfl)
        have q2 := (bv7.cell 2).trans (show _ = some (.int .i64 v.data) from rfl)
        have q3 := (bv7.cell 3).trans (show _ = some (.int .i64 v.total) from rfl)
        have q4 := (bv7.cell 4).trans (show _ = some (.int .i64 v.thr) from rfl)
        have q5 := (bv7.cell 5).trans (show _ = some (.string (ba [])) from rfl)
        have q6 := (bv7.cell 6).trans (show _ = some (.int .i64 v.c0) from rfl)
        have q7 := (bv7.cell 7).trans (show _ = some (.int .i64 v.c1) from rfl)
        have q8 := (bv7.cell 8).trans (show _ = some (.int .i64 v.c2) from rfl)
        have q9 := (bv7.cell 9).trans (show _ = some (.int .i64 v.c3) from rfl)
        have q10 := (bv7.cell 10).trans (show _ = some (.int .u64 0) from rfl)
        have q11 := (bv7.cell 11).trans (show _ = some (.int .i64 v.r0) from rfl)
        have q12 := (bv7.cell 12).trans (show _ = some (.int .i64 v.r1) from rfl)
        have q13 := (bv7.cell 13).trans (show _ = some (.int .i64 v.r2) from rfl)
        have q14 := (bv7.cell 14).trans (show _ = some (.int .i64 v.r3) from rfl)
        have CW := Lib.hid (ints_same c1 c2 wc (kq.src hR1 (fun _ _ _ h => h)) (kq.src hR2 (fun _ _ _ h => h)) hwl)
        have n_num : (v.num != v.num) = false := by simp
        have n_data : (v.data != v.data) = false := by simp
        have n_total : (v.total != v.total) = false := by simp
        have n_thr : (v.thr != v.thr) = false := by simp
        have n_c0 : (v.c0 != v.c0) = false := by simp
        have n_c1 : (v.c1 != v.c1) = false := by simp
        have n_c2 : (v.c2 != v.c2) = false := by simp
        have n_c3 : (v.c3 != v.c3) = false := by simp
        have n_r0 : (v.r0 != v.r0) = false := by simp
        have n_r1 : (v.r1 != v.r1) = false := by simp
        have n_r2 : (v.r2 != v.r2) = false := by simp
        have n_r3 : (v.r3 != v.r3) = false := by simp
        clear SA HGE
        go_wp2_with (go_at_call 53; refine CW.out.mono ?_; rintro e w9 ⟨rfl, m9, rfl⟩)
        go_roundw
        case rel => exact ⟨j + 1, hlt, by go_num, (kr.trans kq (fun _ h => .inl h)).drewN m9⟩
        case measure => simp [intOf]; omega
    · obtain rfl : j = d.vaults.length := by omega
      have i1 : ¬ (d.vaults.length : Int) < (d.vaults.length : Int) := by omega
      have e0 := (bpr.cell 0).trans (show _ = some (.slice U1 d.names.length cU1) from rfl)
      have e1 := (bpr.cell 1).trans (show _ = some (.slice U2 d.quotas.length cU2) from rfl)
      have e2 := (bpr.cell 2).trans (show _ = some (.slice U3 d.vaults.length cU3) from rfl)
      have e3 := (bpr.cell 3).trans (show _ = some (.int .i64 d.quorum) from rfl)
      have e4 := (bpr.cell 4).trans (show _ = some (.string (ba d.seed)) from rfl)
      have e5 := (bpr.cell 5).trans (show _ = some (.int .i64 d.bits) from rfl)
      have e6 := (bpr.cell 6).trans (show _ = some (.int .i64 d.height) from rfl)
      have e7 := (bpr.cell 7).trans (show _ = some (.int .i64 d.sectors) from rfl)
      have e8 := (bpr.cell 8).trans (show _ = some (.int .i64 d.size) from rfl)
      have e9 := (bpr.cell 9).trans (show _ = some (.int .i64 d.day) from rfl)
      have e10 := (bpr.cell 10).trans (show _ = some (.int .i64 d.leap) from rfl)
      have e11 := (bpr.cell 11).trans (show _ = some (.int .i64 d.agree) from rfl)
      have s0 := (bsr.cell 0).trans (show _ = some (.slice V1 d.names.length cV1) from rfl)
      have s1 := (bsr.cell 1).trans (show _ = some (.slice V2 d.quotas.length cV2) from rfl)
      have s2 := (bsr.cell 2).trans (show _ = some (.slice V3 d.vaults.length cV3) from rfl)
      have s3 := (bsr.cell 3).trans (show _ = some (.int .i64 d.quorum) from rfl)
      have s4 := (bsr.cell 4).trans (show _ = some (.string (ba d.seed)) from rfl)
      have s5 := (bsr.cell 5).trans (show _ = some (.int .i64 d.bits) from rfl)
      have s6 := (bsr.cell 6).trans (show _ = some (.int .i64 d.height) from rfl)
      have s7 := (bsr.cell 7).trans (show _ = some (.int .i64 d.sectors) from rfl)
      have s8 := (bsr.cell 8).trans (show _ = some (.int .i64 d.size) from rfl)
      have s9 := (bsr.cell 9).trans (show _ = some (.int .i64 d.day) from rfl)
      have s10 := (bsr.cell 10).trans (show _ = some (.int .i64 d.leap) from rfl)
      have s11 := (bsr.cell 11).trans (show _ = some (.int .i64 d.agree) from rfl)
      have HKW := Lib.hid kwr
      clear bp2 bs2 kw2 bpr bsr kwr kr
      go_wp2_with fail
      go_ret
      exact ⟨rfl, HKW.out.below (Nat.le_refl _) (fun _ h => h.elim)⟩

end Go.Proofs.YtfnfjfcncijapaaGreatDoor
