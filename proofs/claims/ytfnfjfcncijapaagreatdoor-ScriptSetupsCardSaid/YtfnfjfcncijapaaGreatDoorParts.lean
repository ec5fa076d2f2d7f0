/- The parts of a byte string between separators, in plain Lean. -/
import Derived.Lib.IndexLaws
import Derived.Lib.IndexBytes
namespace Go.Proofs.YtfnfjfcncijapaaGreatDoor

def ba (xs : List UInt8) : ByteArray := ⟨xs.toArray⟩
theorem ba_data (s : ByteArray) : ba s.data.toList = s := by cases s; rfl
theorem ba_toList (xs : List UInt8) : (ba xs).data.toList = xs := by simp [ba]
theorem ba_size (xs : List UInt8) : (ba xs).size = xs.length := by simp [ba, ByteArray.size]
theorem ba_inj {a b : List UInt8} (h : ba a = ba b) : a = b := by have := congrArg (fun x : ByteArray => x.data.toList) h; simpa [ba] using this

theorem size_list (s : ByteArray) : s.size = s.data.toList.length := by obtain ⟨⟨l⟩⟩ := s; rfl
theorem ba_take (r : ByteArray) (o : Nat) : ba (r.data.toList.take o) = r.extract 0 o := by
  rw [← ba_data (r.extract 0 o), Lib.extract_data, List.drop_zero, Nat.sub_zero]
theorem extract_end (r : ByteArray) (k : Nat) : (r.extract k r.size).data.toList = r.data.toList.drop k := Lib.extract_to_end r k
theorem extract_end_size (r : ByteArray) (k : Nat) : (r.extract k r.size).size = r.size - k := by
  rw [size_list, extract_end, List.length_drop, ← size_list]

theorem ba_full {p : List UInt8} (h : p ≠ []) : (ba p).toList.isEmpty = false := by
  rw [Lib.toList_data, ba_toList]
  cases p with
  | nil => exact absurd rfl h
  | cons a b => rfl
theorem ba_empty : (ba []).toList.isEmpty = true := by rw [Lib.toList_data, ba_toList]; rfl

/-- The parts of a string between separators. -/
def parts (c : UInt8) : List UInt8 → List (List UInt8)
  | [] => [[]]
  | x :: xs => if x = c then [] :: parts c xs else match parts c xs with
    | [] => [[x]]
    | p :: ps => (x :: p) :: ps

theorem parts_ne (c : UInt8) (l : List UInt8) : parts c l ≠ [] := by
  cases l with
  | nil => simp [parts]
  | cons x xs =>
    unfold parts
    split
    · simp
    · split <;> simp

theorem parts_none {c : UInt8} : ∀ {l : List UInt8}, (∀ x ∈ l, x ≠ c) → parts c l = [l]
  | [], _ => rfl
  | x :: xs, h => by
    unfold parts
    rw [if_neg (h x (by simp)), parts_none (fun y hy => h y (by simp [hy]))]

theorem parts_some {c : UInt8} : ∀ {l : List UInt8} {o : Nat}, l[o]? = some c → (∀ k, k < o → l[k]? ≠ some c) → parts c l = l.take o :: parts c (l.drop (o + 1))
  | [], o, h, _ => by simp at h
  | x :: xs, 0, h, _ => by
    simp only [List.getElem?_cons_zero, Option.some.injEq] at h
    subst h
    simp [parts]
  | x :: xs, o + 1, h, hk => by
    have hx : x ≠ c := fun e => hk 0 (by omega) (by simp [e])
    have ih := parts_some (l := xs) (o := o) (by simpa using h) (fun k hlt => by have := hk (k + 1) (by omega); simpa using this)
    conv => lhs; unfold parts
    rw [if_neg hx, ih]
    simp

theorem parts_length (c : UInt8) : ∀ l : List UInt8, (parts c l).length ≤ l.length + 1
  | [] => by simp [parts]
  | x :: xs => by
    have ih := parts_length c xs
    unfold parts
    split
    · simp; omega
    · split
      · simp
      · rename_i p ps e
        rw [e] at ih
        simp at ih ⊢
        omega

theorem parts_sum (c : UInt8) : ∀ l : List UInt8, ((parts c l).map List.length).sum ≤ l.length
  | [] => by simp [parts]
  | x :: xs => by
    have ih := parts_sum c xs
    unfold parts
    split
    · simp; omega
    · split
      · simp
      · rename_i p ps e
        rw [e] at ih
        simp at ih ⊢
        omega
theorem le_sum_of_mem : ∀ {l : List Nat} {n : Nat}, n ∈ l → n ≤ l.sum
  | a :: l, n, h => by
    simp only [List.mem_cons] at h
    simp only [List.sum_cons]
    rcases h with rfl | h
    · omega
    · have := le_sum_of_mem h; omega
theorem parts_mem_le {c : UInt8} {l p : List UInt8} (h : p ∈ parts c l) : p.length ≤ l.length :=
  Nat.le_trans (le_sum_of_mem (List.mem_map.2 ⟨p, h, rfl⟩)) (parts_sum c l)
/-- A part holds bytes of the string. -/
theorem parts_mem {c : UInt8} : ∀ {l p : List UInt8} {x : UInt8}, p ∈ parts c l → x ∈ p → x ∈ l ∧ x ≠ c
  | [], p, x, hp, hx => by
    simp only [parts, List.mem_singleton] at hp
    subst hp
    simp at hx
  | y :: ys, p, x, hp, hx => by
    unfold parts at hp
    split at hp
    · rcases List.mem_cons.1 hp with rfl | hp
      · simp at hx
      · have := parts_mem hp hx; exact ⟨by simp [this.1], this.2⟩
    · rename_i hy
      split at hp
      · rename_i e; exact absurd e (parts_ne _ _)
      · rename_i q qs e
        rcases List.mem_cons.1 hp with rfl | hp
        · rcases List.mem_cons.1 hx with rfl | hx
          · exact ⟨by simp, hy⟩
          · have := parts_mem (c := c) (l := ys) (p := q) (by rw [e]; simp) hx; exact ⟨by simp [this.1], this.2⟩
        · have := parts_mem (c := c) (l := ys) (p := p) (by rw [e]; simp [hp]) hx; exact ⟨by simp [this.1], this.2⟩

theorem none_of_index {c : UInt8} {r : List UInt8} (hx : Lib.indexByte r c = -1) : ∀ y ∈ r, y ≠ c := fun y hy e => by
  obtain ⟨k, hk⟩ := List.mem_iff_getElem?.1 hy
  exact Lib.indexByte_none hx k (by rw [hk, e])

/-- The last part. -/
theorem parts_last {c : UInt8} {l r : List UInt8} {i : Nat} (hd : (parts c l).drop i = parts c r) (hi : i < (parts c l).length) (hx : Lib.indexByte r c = -1) : (parts c l)[i] = r ∧ i + 1 = (parts c l).length := by
  rw [parts_none (none_of_index hx)] at hd
  have e1 := List.drop_eq_getElem_cons hi
  have e2 := congrArg List.length hd
  rw [hd] at e1
  simp at e2
  exact ⟨(List.cons.inj e1).1.symm, by omega⟩

/-- A part that another one follows. -/
theorem parts_next {c : UInt8} {l r : List UInt8} {i o : Nat} (hd : (parts c l).drop i = parts c r) (hi : i < (parts c l).length) (hx : Lib.indexByte r c = (o : Int)) :
    (parts c l)[i] = r.take o ∧ (parts c l).drop (i + 1) = parts c (r.drop (o + 1)) ∧ i + 1 < (parts c l).length ∧ o < r.length := by
  obtain ⟨h1, h2⟩ := Lib.indexByte_some hx
  rw [parts_some h1 h2] at hd
  have e1 := List.drop_eq_getElem_cons hi
  have e2 := congrArg List.length hd
  rw [hd] at e1
  obtain ⟨e3, e4⟩ := List.cons.inj e1
  have hp := List.length_pos_iff.2 (parts_ne c (r.drop (o + 1)))
  simp at e2
  exact ⟨e3.symm, e4.symm, by omega, (List.getElem?_eq_some_iff.1 h1).1⟩

end Go.Proofs.YtfnfjfcncijapaaGreatDoor
