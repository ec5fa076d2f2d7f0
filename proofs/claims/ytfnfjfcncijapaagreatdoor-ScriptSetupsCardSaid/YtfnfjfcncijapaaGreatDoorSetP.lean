/- The setup of declarations, plainly (printed by genSetP.py). -/
import Derived.Test.YtfnfjfcncijapaaGreatDoorAgree
import Derived.Test.YtfnfjfcncijapaaGreatDoorEvB
namespace Go.Proofs.YtfnfjfcncijapaaGreatDoor

/-- A vault. -/
structure VaultD where
  num : Int
  writers : List Int
  data : Int
  total : Int
  thr : Int
  c0 : Int
  c1 : Int
  c2 : Int
  c3 : Int
  r0 : Int
  r1 : Int
  r2 : Int
  r3 : Int
/-- A setup. -/
structure SetD where
  names : List (List UInt8)
  quotas : List Int
  vaults : List VaultD
  quorum : Int
  seed : List UInt8
  bits : Int
  height : Int
  sectors : Int
  size : Int
  day : Int
  leap : Int
  agree : Int
def set0 : SetD := ⟨[], [], [], 1, List.replicate 32 0, 2, 4, 8192, 1024, 0, 30, 1⟩
def setZ : SetD := ⟨[], [], [], 0, [], 0, 0, 0, 0, 0, 0, 0⟩
def lastV (l : List VaultD) (f : VaultD → VaultD) : List VaultD := l.dropLast ++ l.getLast?.toList.map f
theorem lastV_snoc (l : List VaultD) (v : VaultD) (f : VaultD → VaultD) : lastV (l ++ [v]) f = l ++ [f v] := by simp [lastV]
theorem lastV_empty (l : List VaultD) (f : VaultD → VaultD) : (lastV l f).isEmpty = l.isEmpty := by
  rcases List.eq_nil_or_concat l with rfl | ⟨l', v, rfl⟩
  · rfl
  · rw [List.concat_eq_append, lastV_snoc]; cases l' <;> rfl
/-- A setup after a declaration. -/
def decl (x : SetD) (cmd : List UInt8) (args : List (List UInt8)) : SetD :=
  if cmd = [100, 101, 118, 105, 99, 101] then { x with names := x.names ++ [(args.getD 0 [])], quotas := x.quotas ++ [nv (args.getD 1 [])] }
  else if cmd = [118, 97, 117, 108, 116] then { x with vaults := x.vaults ++ [⟨x.vaults.length, (parts 44 (args.getD 0 [])).map nv, nv (args.getD 1 []), nv (args.getD 2 []), nv (args.getD 3 []), 64, 1024, 16, 6, 7, 4, 12, 10⟩] }
  else if cmd = [99, 117, 116, 116, 105, 110, 103] then { x with vaults := lastV x.vaults (fun v => { v with c0 := nv (args.getD 0 []), c1 := nv (args.getD 1 []), c2 := nv (args.getD 2 []), c3 := nv (args.getD 3 []) }) }
  else if cmd = [114, 117, 108, 101, 115] then { x with vaults := lastV x.vaults (fun v => { v with r0 := nv (args.getD 0 []), r1 := nv (args.getD 1 []), r2 := nv (args.getD 2 []), r3 := nv (args.getD 3 []) }) }
  else if cmd = [113, 117, 111, 114, 117, 109] then { x with quorum := nv (args.getD 0 []) }
  else if cmd = [115, 101, 101, 100] then { x with seed := (args.getD 0 []) }
  else if cmd = [115, 99, 104, 101, 109, 101] then { x with bits := nv (args.getD 0 []), height := nv (args.getD 1 []) }
  else if cmd = [100, 105, 115, 107] then { x with sectors := nv (args.getD 0 []), size := nv (args.getD 1 []) }
  else if cmd = [100, 97, 121, 115] then { x with day := nv (args.getD 0 []), leap := nv (args.getD 1 []), agree := nv (args.getD 2 []) }
  else x
/-- The declarations and the functions that carry them out. -/
def declTab : List (List UInt8 × Nat) := [([100, 101, 118, 105, 99, 101], 73), ([118, 97, 117, 108, 116], 74), ([99, 117, 116, 116, 105, 110, 103], 75), ([114, 117, 108, 101, 115], 76), ([113, 117, 111, 114, 117, 109], 77), ([115, 101, 101, 100], 78), ([115, 99, 104, 101, 109, 101], 79), ([100, 105, 115, 107], 80), ([100, 97, 121, 115], 81)]
def isDecl (cmd : List UInt8) : Bool := (declTab.find? (fun p => p.1 == cmd)).isSome
def setS : List StepD → Nat → SetD → SetD × Int × Int
  | [], i, x => (x, (i : Int), 0)
  | s :: r, i, x => if isDecl s.cmd = false then (x, (i : Int), 0) else if kindS s.cmd s.args = 0 then (setZ, (i : Int), 1) else if (needsV s.cmd && x.vaults.isEmpty) = true then (setZ, (i : Int), 6) else setS r (i + 1) (decl x s.cmd s.args)
theorem row_device : cmdTable.find? (fun p => p.1 == [100, 101, 118, 105, 99, 101]) = some ([100, 101, 118, 105, 99, 101], (1, [78, 65, 77, 69, 32, 81, 85, 79, 84, 65])) := by decide +kernel
theorem nms_device : namesOf (1, [78, 65, 77, 69, 32, 81, 85, 79, 84, 65]) = [[78, 65, 77, 69], [81, 85, 79, 84, 65]] := by decide +kernel
theorem ok_device {args : List (List UInt8)} (h : kindS [100, 101, 118, 105, 99, 101] args ≠ 0) : ∃ a0 a1, args = [a0, a1] ∧ isNumB a1 = true := by
  unfold kindS at h
  rw [row_device] at h
  dsimp only at h
  rw [nms_device] at h
  by_cases hc : ([[78, 65, 77, 69], [81, 85, 79, 84, 65]] : List (List UInt8)).length = args.length ∧ allFit [[78, 65, 77, 69], [81, 85, 79, 84, 65]] args = true
  · obtain ⟨hl, hf⟩ := hc
    match args, hl with
    | [a0, a1], _ =>
      simp only [allFit, List.zip_cons_cons, List.zip_nil_right, List.all_cons, List.all_nil, Bool.and_true, Bool.and_eq_true] at hf
      exact ⟨a0, a1, rfl, hf.2⟩
  · rw [if_neg hc] at h
    exact absurd rfl h
theorem decl_device (x : SetD) (a0 a1 : List UInt8) : decl x [100, 101, 118, 105, 99, 101] [a0, a1] = { x with names := x.names ++ [a0], quotas := x.quotas ++ [nv a1] } := rfl
theorem row_vault : cmdTable.find? (fun p => p.1 == [118, 97, 117, 108, 116]) = some ([118, 97, 117, 108, 116], (1, [87, 82, 73, 84, 69, 82, 83, 32, 68, 65, 84, 65, 32, 84, 79, 84, 65, 76, 32, 84, 72, 82, 69, 83, 72, 79, 76, 68])) := by decide +kernel
theorem nms_vault : namesOf (1, [87, 82, 73, 84, 69, 82, 83, 32, 68, 65, 84, 65, 32, 84, 79, 84, 65, 76, 32, 84, 72, 82, 69, 83, 72, 79, 76, 68]) = [[87, 82, 73, 84, 69, 82, 83], [68, 65, 84, 65], [84, 79, 84, 65, 76], [84, 72, 82, 69, 83, 72, 79, 76, 68]] := by decide +kernel
theorem ok_vault {args : List (List UInt8)} (h : kindS [118, 97, 117, 108, 116] args ≠ 0) : ∃ a0 a1 a2 a3, args = [a0, a1, a2, a3] ∧ numsB a0 = true ∧ isNumB a1 = true ∧ isNumB a2 = true ∧ isNumB a3 = true := by
  unfold kindS at h
  rw [row_vault] at h
  dsimp only at h
  rw [nms_vault] at h
  by_cases hc : ([[87, 82, 73, 84, 69, 82, 83], [68, 65, 84, 65], [84, 79, 84, 65, 76], [84, 72, 82, 69, 83, 72, 79, 76, 68]] : List (List UInt8)).length = args.length ∧ allFit [[87, 82, 73, 84, 69, 82, 83], [68, 65, 84, 65], [84, 79, 84, 65, 76], [84, 72, 82, 69, 83, 72, 79, 76, 68]] args = true
  · obtain ⟨hl, hf⟩ := hc
    match args, hl with
    | [a0, a1, a2, a3], _ =>
      simp only [allFit, List.zip_cons_cons, List.zip_nil_right, List.all_cons, List.all_nil, Bool.and_true, Bool.and_eq_true] at hf
      exact ⟨a0, a1, a2, a3, rfl, hf.1, hf.2.1, hf.2.2.1, hf.2.2.2⟩
  · rw [if_neg hc] at h
    exact absurd rfl h
theorem decl_vault (x : SetD) (a0 a1 a2 a3 : List UInt8) : decl x [118, 97, 117, 108, 116] [a0, a1, a2, a3] = { x with vaults := x.vaults ++ [⟨x.vaults.length, (parts 44 a0).map nv, nv a1, nv a2, nv a3, 64, 1024, 16, 6, 7, 4, 12, 10⟩] } := rfl
theorem row_cutting : cmdTable.find? (fun p => p.1 == [99, 117, 116, 116, 105, 110, 103]) = some ([99, 117, 116, 116, 105, 110, 103], (1, [77, 73, 78, 32, 77, 65, 88, 32, 87, 73, 78, 68, 79, 87, 32, 66, 73, 84, 83])) := by decide +kernel
theorem nms_cutting : namesOf (1, [77, 73, 78, 32, 77, 65, 88, 32, 87, 73, 78, 68, 79, 87, 32, 66, 73, 84, 83]) = [[77, 73, 78], [77, 65, 88], [87, 73, 78, 68, 79, 87], [66, 73, 84, 83]] := by decide +kernel
theorem ok_cutting {args : List (List UInt8)} (h : kindS [99, 117, 116, 116, 105, 110, 103] args ≠ 0) : ∃ a0 a1 a2 a3, args = [a0, a1, a2, a3] ∧ isNumB a0 = true ∧ isNumB a1 = true ∧ isNumB a2 = true ∧ isNumB a3 = true := by
  unfold kindS at h
  rw [row_cutting] at h
  dsimp only at h
  rw [nms_cutting] at h
  by_cases hc : ([[77, 73, 78], [77, 65, 88], [87, 73, 78, 68, 79, 87], [66, 73, 84, 83]] : List (List UInt8)).length = args.length ∧ allFit [[77, 73, 78], [77, 65, 88], [87, 73, 78, 68, 79, 87], [66, 73, 84, 83]] args = true
  · obtain ⟨hl, hf⟩ := hc
    match args, hl with
    | [a0, a1, a2, a3], _ =>
      simp only [allFit, List.zip_cons_cons, List.zip_nil_right, List.all_cons, List.all_nil, Bool.and_true, Bool.and_eq_true] at hf
      exact ⟨a0, a1, a2, a3, rfl, hf.1, hf.2.1, hf.2.2.1, hf.2.2.2⟩
  · rw [if_neg hc] at h
    exact absurd rfl h
theorem decl_cutting (x : SetD) (a0 a1 a2 a3 : List UInt8) : decl x [99, 117, 116, 116, 105, 110, 103] [a0, a1, a2, a3] = { x with vaults := lastV x.vaults (fun v => { v with c0 := nv a0, c1 := nv a1, c2 := nv a2, c3 := nv a3 }) } := rfl
theorem row_rules : cmdTable.find? (fun p => p.1 == [114, 117, 108, 101, 115]) = some ([114, 117, 108, 101, 115], (1, [68, 65, 89, 83, 32, 87, 69, 69, 75, 83, 32, 77, 79, 78, 84, 72, 83, 32, 89, 69, 65, 82, 83])) := by decide +kernel
theorem nms_rules : namesOf (1, [68, 65, 89, 83, 32, 87, 69, 69, 75, 83, 32, 77, 79, 78, 84, 72, 83, 32, 89, 69, 65, 82, 83]) = [[68, 65, 89, 83], [87, 69, 69, 75, 83], [77, 79, 78, 84, 72, 83], [89, 69, 65, 82, 83]] := by decide +kernel
theorem ok_rules {args : List (List UInt8)} (h : kindS [114, 117, 108, 101, 115] args ≠ 0) : ∃ a0 a1 a2 a3, args = [a0, a1, a2, a3] ∧ isNumB a0 = true ∧ isNumB a1 = true ∧ isNumB a2 = true ∧ isNumB a3 = true := by
  unfold kindS at h
  rw [row_rules] at h
  dsimp only at h
  rw [nms_rules] at h
  by_cases hc : ([[68, 65, 89, 83], [87, 69, 69, 75, 83], [77, 79, 78, 84, 72, 83], [89, 69, 65, 82, 83]] : List (List UInt8)).length = args.length ∧ allFit [[68, 65, 89, 83], [87, 69, 69, 75, 83], [77, 79, 78, 84, 72, 83], [89, 69, 65, 82, 83]] args = true
  · obtain ⟨hl, hf⟩ := hc
    match args, hl with
    | [a0, a1, a2, a3], _ =>
      simp only [allFit, List.zip_cons_cons, List.zip_nil_right, List.all_cons, List.all_nil, Bool.and_true, Bool.and_eq_true] at hf
      exact ⟨a0, a1, a2, a3, rfl, hf.1, hf.2.1, hf.2.2.1, hf.2.2.2⟩
  · rw [if_neg hc] at h
    exact absurd rfl h
theorem decl_rules (x : SetD) (a0 a1 a2 a3 : List UInt8) : decl x [114, 117, 108, 101, 115] [a0, a1, a2, a3] = { x with vaults := lastV x.vaults (fun v => { v with r0 := nv a0, r1 := nv a1, r2 := nv a2, r3 := nv a3 }) } := rfl
theorem row_quorum : cmdTable.find? (fun p => p.1 == [113, 117, 111, 114, 117, 109]) = some ([113, 117, 111, 114, 117, 109], (1, [78])) := by decide +kernel
theorem nms_quorum : namesOf (1, [78]) = [[78]] := by decide +kernel
theorem ok_quorum {args : List (List UInt8)} (h : kindS [113, 117, 111, 114, 117, 109] args ≠ 0) : ∃ a0, args = [a0] ∧ isNumB a0 = true := by
  unfold kindS at h
  rw [row_quorum] at h
  dsimp only at h
  rw [nms_quorum] at h
  by_cases hc : ([[78]] : List (List UInt8)).length = args.length ∧ allFit [[78]] args = true
  · obtain ⟨hl, hf⟩ := hc
    match args, hl with
    | [a0], _ =>
      simp only [allFit, List.zip_cons_cons, List.zip_nil_right, List.all_cons, List.all_nil, Bool.and_true] at hf
      exact ⟨a0, rfl, hf⟩
  · rw [if_neg hc] at h
    exact absurd rfl h
theorem decl_quorum (x : SetD) (a0 : List UInt8) : decl x [113, 117, 111, 114, 117, 109] [a0] = { x with quorum := nv a0 } := rfl
theorem row_seed : cmdTable.find? (fun p => p.1 == [115, 101, 101, 100]) = some ([115, 101, 101, 100], (1, [84, 69, 88, 84])) := by decide +kernel
theorem nms_seed : namesOf (1, [84, 69, 88, 84]) = [[84, 69, 88, 84]] := by decide +kernel
theorem ok_seed {args : List (List UInt8)} (h : kindS [115, 101, 101, 100] args ≠ 0) : ∃ a0, args = [a0] := by
  unfold kindS at h
  rw [row_seed] at h
  dsimp only at h
  rw [nms_seed] at h
  by_cases hc : ([[84, 69, 88, 84]] : List (List UInt8)).length = args.length ∧ allFit [[84, 69, 88, 84]] args = true
  · obtain ⟨hl, hf⟩ := hc
    match args, hl with
    | [a0], _ =>
      simp only [allFit, List.zip_cons_cons, List.zip_nil_right, List.all_cons, List.all_nil, Bool.and_true] at hf
      exact ⟨a0, rfl⟩
  · rw [if_neg hc] at h
    exact absurd rfl h
theorem decl_seed (x : SetD) (a0 : List UInt8) : decl x [115, 101, 101, 100] [a0] = { x with seed := a0 } := rfl
theorem row_scheme : cmdTable.find? (fun p => p.1 == [115, 99, 104, 101, 109, 101]) = some ([115, 99, 104, 101, 109, 101], (1, [66, 73, 84, 83, 32, 72, 69, 73, 71, 72, 84])) := by decide +kernel
theorem nms_scheme : namesOf (1, [66, 73, 84, 83, 32, 72, 69, 73, 71, 72, 84]) = [[66, 73, 84, 83], [72, 69, 73, 71, 72, 84]] := by decide +kernel
theorem ok_scheme {args : List (List UInt8)} (h : kindS [115, 99, 104, 101, 109, 101] args ≠ 0) : ∃ a0 a1, args = [a0, a1] ∧ isNumB a0 = true ∧ isNumB a1 = true := by
  unfold kindS at h
  rw [row_scheme] at h
  dsimp only at h
  rw [nms_scheme] at h
  by_cases hc : ([[66, 73, 84, 83], [72, 69, 73, 71, 72, 84]] : List (List UInt8)).length = args.length ∧ allFit [[66, 73, 84, 83], [72, 69, 73, 71, 72, 84]] args = true
  · obtain ⟨hl, hf⟩ := hc
    match args, hl with
    | [a0, a1], _ =>
      simp only [allFit, List.zip_cons_cons, List.zip_nil_right, List.all_cons, List.all_nil, Bool.and_true, Bool.and_eq_true] at hf
      exact ⟨a0, a1, rfl, hf.1, hf.2⟩
  · rw [if_neg hc] at h
    exact absurd rfl h
theorem decl_scheme (x : SetD) (a0 a1 : List UInt8) : decl x [115, 99, 104, 101, 109, 101] [a0, a1] = { x with bits := nv a0, height := nv a1 } := rfl
theorem row_disk : cmdTable.find? (fun p => p.1 == [100, 105, 115, 107]) = some ([100, 105, 115, 107], (1, [83, 69, 67, 84, 79, 82, 83, 32, 83, 73, 90, 69])) := by decide +kernel
theorem nms_disk : namesOf (1, [83, 69, 67, 84, 79, 82, 83, 32, 83, 73, 90, 69]) = [[83, 69, 67, 84, 79, 82, 83], [83, 73, 90, 69]] := by decide +kernel
theorem ok_disk {args : List (List UInt8)} (h : kindS [100, 105, 115, 107] args ≠ 0) : ∃ a0 a1, args = [a0, a1] ∧ isNumB a0 = true ∧ isNumB a1 = true := by
  unfold kindS at h
  rw [row_disk] at h
  dsimp only at h
  rw [nms_disk] at h
  by_cases hc : ([[83, 69, 67, 84, 79, 82, 83], [83, 73, 90, 69]] : List (List UInt8)).length = args.length ∧ allFit [[83, 69, 67, 84, 79, 82, 83], [83, 73, 90, 69]] args = true
  · obtain ⟨hl, hf⟩ := hc
    match args, hl with
    | [a0, a1], _ =>
      simp only [allFit, List.zip_cons_cons, List.zip_nil_right, List.all_cons, List.all_nil, Bool.and_true, Bool.and_eq_true] at hf
      exact ⟨a0, a1, rfl, hf.1, hf.2⟩
  · rw [if_neg hc] at h
    exact absurd rfl h
theorem decl_disk (x : SetD) (a0 a1 : List UInt8) : decl x [100, 105, 115, 107] [a0, a1] = { x with sectors := nv a0, size := nv a1 } := rfl
theorem row_days : cmdTable.find? (fun p => p.1 == [100, 97, 121, 115]) = some ([100, 97, 121, 115], (1, [68, 65, 89, 32, 76, 69, 65, 80, 32, 65, 71, 82, 69, 69])) := by decide +kernel
theorem nms_days : namesOf (1, [68, 65, 89, 32, 76, 69, 65, 80, 32, 65, 71, 82, 69, 69]) = [[68, 65, 89], [76, 69, 65, 80], [65, 71, 82, 69, 69]] := by decide +kernel
theorem ok_days {args : List (List UInt8)} (h : kindS [100, 97, 121, 115] args ≠ 0) : ∃ a0 a1 a2, args = [a0, a1, a2] ∧ isNumB a0 = true ∧ isNumB a1 = true ∧ isNumB a2 = true := by
  unfold kindS at h
  rw [row_days] at h
  dsimp only at h
  rw [nms_days] at h
  by_cases hc : ([[68, 65, 89], [76, 69, 65, 80], [65, 71, 82, 69, 69]] : List (List UInt8)).length = args.length ∧ allFit [[68, 65, 89], [76, 69, 65, 80], [65, 71, 82, 69, 69]] args = true
  · obtain ⟨hl, hf⟩ := hc
    match args, hl with
    | [a0, a1, a2], _ =>
      simp only [allFit, List.zip_cons_cons, List.zip_nil_right, List.all_cons, List.all_nil, Bool.and_true, Bool.and_eq_true] at hf
      exact ⟨a0, a1, a2, rfl, hf.1, hf.2.1, hf.2.2⟩
  · rw [if_neg hc] at h
    exact absurd rfl h
theorem decl_days (x : SetD) (a0 a1 a2 : List UInt8) : decl x [100, 97, 121, 115] [a0, a1, a2] = { x with day := nv a0, leap := nv a1, agree := nv a2 } := rfl

theorem decl_ref : ∀ f ∈ refTable, (f.2.2 == 1) = isDecl f.1 := by decide +kernel
theorem decl_in : ∀ p ∈ declTab, (refTable.find? (fun f => f.1 == p.1)).isSome = true := by decide +kernel
theorem isDecl_find (cmd : List UInt8) : ((findR cmd).1.2.2 == 1) = isDecl cmd := by
  unfold findR
  cases h : refTable.find? (fun f => f.1 == cmd) with
  | some f =>
    have hc : f.1 = cmd := by simpa using List.find?_some h
    have := decl_ref f (List.mem_of_find?_eq_some h)
    rw [hc] at this
    exact this
  | none =>
    unfold isDecl
    cases h2 : declTab.find? (fun p => p.1 == cmd) with
    | none => rfl
    | some p =>
      have hc : p.1 = cmd := by simpa using List.find?_some h2
      have := decl_in p (List.mem_of_find?_eq_some h2)
      rw [hc, h] at this
      cases this
theorem decl_cases {cmd : List UInt8} (h : isDecl cmd = true) : cmd = [100, 101, 118, 105, 99, 101] ∨ cmd = [118, 97, 117, 108, 116] ∨ cmd = [99, 117, 116, 116, 105, 110, 103] ∨ cmd = [114, 117, 108, 101, 115] ∨ cmd = [113, 117, 111, 114, 117, 109] ∨ cmd = [115, 101, 101, 100] ∨ cmd = [115, 99, 104, 101, 109, 101] ∨ cmd = [100, 105, 115, 107] ∨ cmd = [100, 97, 121, 115] := by
  unfold isDecl at h
  obtain ⟨p, hp⟩ := Option.isSome_iff_exists.1 h
  have hc : p.1 = cmd := by simpa using List.find?_some hp
  have hm := List.mem_of_find?_eq_some hp
  subst hc
  simp only [declTab, List.mem_cons, List.not_mem_nil, or_false] at hm
  rcases hm with rfl | rfl | rfl | rfl | rfl | rfl | rfl | rfl | rfl <;> simp
/-- Are there vaults, after a valid declaration? -/
theorem decl_vaults (x : SetD) {cmd : List UInt8} {args : List (List UInt8)} (h : isDecl cmd = true) (hk : kindS cmd args ≠ 0) : (!(decl x cmd args).vaults.isEmpty) = (!x.vaults.isEmpty || isV ⟨cmd, args⟩) := by
  have hv : isV ⟨cmd, args⟩ = isVault cmd := by unfold isV isVault; rw [(kind_find hk).2]
  rw [hv]
  rcases decl_cases h with rfl | rfl | rfl | rfl | rfl | rfl | rfl | rfl | rfl
  · obtain ⟨a0, a1, rfl, _⟩ := ok_device hk
    rw [decl_device]
    simp [isVault]
  · obtain ⟨a0, a1, a2, a3, rfl, _, _, _, _⟩ := ok_vault hk
    rw [decl_vault]
    simp [isVault]
  · obtain ⟨a0, a1, a2, a3, rfl, _, _, _, _⟩ := ok_cutting hk
    rw [decl_cutting]
    simp only [lastV_empty]; simp [isVault]
  · obtain ⟨a0, a1, a2, a3, rfl, _, _, _, _⟩ := ok_rules hk
    rw [decl_rules]
    simp only [lastV_empty]; simp [isVault]
  · obtain ⟨a0, rfl, _⟩ := ok_quorum hk
    rw [decl_quorum]
    simp [isVault]
  · obtain ⟨a0, rfl⟩ := ok_seed hk
    rw [decl_seed]
    simp [isVault]
  · obtain ⟨a0, a1, rfl, _, _⟩ := ok_scheme hk
    rw [decl_scheme]
    simp [isVault]
  · obtain ⟨a0, a1, rfl, _, _⟩ := ok_disk hk
    rw [decl_disk]
    simp [isVault]
  · obtain ⟨a0, a1, a2, rfl, _, _, _⟩ := ok_days hk
    rw [decl_days]
    simp [isVault]
theorem setS_cons (s : StepD) (r : List StepD) (i : Nat) (x : SetD) : setS (s :: r) i x = if isDecl s.cmd = false then (x, (i : Int), 0) else if kindS s.cmd s.args = 0 then (setZ, (i : Int), 1) else if (needsV s.cmd && x.vaults.isEmpty) = true then (setZ, (i : Int), 6) else setS r (i + 1) (decl x s.cmd s.args) := rfl

end Go.Proofs.YtfnfjfcncijapaaGreatDoor
