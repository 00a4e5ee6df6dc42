/- Plain functions on words of steps: a step, the places of a way, the area, the way back. No program is in sight. -/
import Derived.Test.YtcgohceakjjlhaaDoorKit
import Derived.IntWalk
namespace Go.Proofs.YtcgohceakjjlhaaDoor
open Go.RowKit
set_option linter.unusedVariables false

/-- A step by a letter; a letter that is no step leads nowhere. -/
def stepW (c : C) (b : UInt8) : Option C :=
  if b = 114 then some (wrap64 (c.1 + 1), c.2) else if b = 108 then some (wrap64 (c.1 - 1), c.2) else if b = 100 then some (c.1, wrap64 (c.2 + 1)) else if b = 117 then some (c.1, wrap64 (c.2 - 1)) else none

theorem u8_of {b : UInt8} (k : UInt8) (h : ((b.toNat : Int) == (k.toNat : Int)) = true) : b = k := by
  have := beq_iff_eq.1 h
  exact UInt8.toNat_inj.1 (by omega)
theorem u8_ne {b : UInt8} (k : UInt8) (h : ((b.toNat : Int) == (k.toNat : Int)) = false) : b ≠ k := by
  rintro rfl
  simp at h
theorem u8_is (b k : UInt8) : ((b.toNat : Int) == (k.toNat : Int)) = decide (b = k) := by
  rw [Bool.eq_iff_iff, beq_iff_eq, decide_eq_true_eq, ← UInt8.toNat_inj]; omega

/-- The places of a way, the start first. -/
def wayW (c : C) : List UInt8 → Option (List C)
  | [] => some [c]
  | b :: t => (stepW c b).bind fun d => (wayW d t).map (c :: ·)
/-- Where a way ends. -/
def endW (c : C) : List UInt8 → Option C
  | [] => some c
  | b :: t => (stepW c b).bind fun d => endW d t

theorem wayW_len {c : C} {w : List UInt8} {l : List C} (h : wayW c w = some l) : l.length = w.length + 1 := by
  induction w generalizing c l with
  | nil => simp [wayW] at h; subst h; rfl
  | cons b t ih =>
    simp only [wayW, Option.bind_eq_some_iff, Option.map_eq_some_iff] at h
    obtain ⟨d, _, l', h', rfl⟩ := h
    simp [ih h']
theorem endW_snoc (c : C) (t : List UInt8) (b : UInt8) : endW c (t ++ [b]) = (endW c t).bind fun d => stepW d b := by
  induction t generalizing c with
  | nil => simp [endW]
  | cons a t ih =>
    simp only [List.cons_append, endW]
    cases stepW c a with
    | none => rfl
    | some d => exact ih d
theorem wayW_snoc (c : C) (t : List UInt8) (b : UInt8) : wayW c (t ++ [b]) = (wayW c t).bind fun l => (endW c t).bind fun d => (stepW d b).map fun e => l ++ [e] := by
  induction t generalizing c with
  | nil => simp [wayW, endW]; cases stepW c b <;> simp
  | cons a t ih =>
    simp only [List.cons_append, wayW, endW]
    cases stepW c a with
    | none => rfl
    | some d =>
      simp only [Option.bind_some, ih]
      cases wayW d t <;> simp
      cases endW d t <;> simp
      rename_i x y
      cases stepW y b <;> simp
theorem endW_of_way {c : C} {w : List UInt8} {l : List C} (h : wayW c w = some l) : endW c w = l.getLast? := by
  induction w generalizing c l with
  | nil => simp [wayW] at h; subst h; rfl
  | cons b t ih =>
    simp only [wayW, Option.bind_eq_some_iff, Option.map_eq_some_iff] at h
    obtain ⟨d, hd, l', h', rfl⟩ := h
    simp only [endW, hd, Option.bind_some, ih h']
    cases l' with
    | nil => have := wayW_len h'; simp at this
    | cons x y => simp [List.getLast?_cons_cons]
theorem wayW_none {c : C} {w : List UInt8} : wayW c w = none ↔ endW c w = none := by
  induction w generalizing c with
  | nil => simp [wayW, endW]
  | cons b t ih =>
    simp only [wayW, endW]
    cases stepW c b with
    | none => simp
    | some d => simp [ih]
/-- A way that breaks off breaks off for good. -/
theorem endW_none_append {c : C} {t : List UInt8} (h : endW c t = none) (r : List UInt8) : endW c (t ++ r) = none := by
  induction t generalizing c with
  | nil => simp [endW] at h
  | cons a t ih =>
    simp only [List.cons_append, endW] at h ⊢
    cases hs : stepW c a with
    | none => rfl
    | some d => rw [hs] at h; exact ih h

theorem take_snoc (s : ByteArray) (k : Nat) (h : k < s.size) : s.data.toList.take (k + 1) = s.data.toList.take k ++ [s[k]] := by
  rw [List.take_succ_eq_append_getElem (by simpa using h)]; rfl
theorem take_all (s : ByteArray) : s.data.toList.take s.size = s.data.toList := List.take_of_length_le (by rw [Array.length_toList]; exact Nat.le_refl _)
theorem end_step (s : ByteArray) (k : Nat) (h : k < s.size) (c d : C) (hd : endW c (s.data.toList.take k) = some d) : endW c (s.data.toList.take (k + 1)) = stepW d s[k] := by
  rw [take_snoc s k h, endW_snoc, hd]; rfl
theorem way_step (s : ByteArray) (k : Nat) (h : k < s.size) (c d : C) (l : List C) (hl : wayW c (s.data.toList.take k) = some l) (hd : endW c (s.data.toList.take k) = some d) :
    wayW c (s.data.toList.take (k + 1)) = (stepW d s[k]).map fun e => l ++ [e] := by
  rw [take_snoc s k h, wayW_snoc, hl, hd]; rfl
theorem way_end {c : C} {w : List UInt8} {l : List C} (h : wayW c w = some l) : endW c w = some (l.getD w.length (0, 0)) := by
  rw [endW_of_way h, List.getLast?_eq_getElem?, wayW_len h, Nat.add_sub_cancel, List.getD_eq_getElem?_getD, List.getElem?_eq_getElem (by rw [wayW_len h]; omega)]
  rfl
theorem end_none_of_take {c : C} {s : ByteArray} {k : Nat} (h : endW c (s.data.toList.take k) = none) : endW c s.data.toList = none := by
  have := endW_none_append h (s.data.toList.drop k)
  rwa [List.take_append_drop] at this

/-- A closed word: at most 40 steps that lead back. -/
def closedW (w : List UInt8) : Bool := decide (w.length ≤ 40) && decide (endW (0, 0) w = some (0, 0))

theorem end_take {c e : C} {t : List UInt8} (h : endW c t = some e) (k : Nat) : ∃ d, endW c (t.take k) = some d := by
  cases hd : endW c (t.take k) with
  | some d => exact ⟨d, rfl⟩
  | none =>
    have := endW_none_append hd (t.drop k)
    rw [List.take_append_drop, h] at this
    cases this
theorem wayW_take {c : C} {t : List UInt8} {l : List C} (h : wayW c t = some l) (k : Nat) : wayW c (t.take k) = some (l.take (k + 1)) := by
  induction t generalizing c l k with
  | nil => simp [wayW] at h; subst h; simp [wayW]
  | cons b t ih =>
    cases k with
    | zero =>
      simp only [wayW, Option.bind_eq_some_iff, Option.map_eq_some_iff] at h
      obtain ⟨d, hd, l', h', rfl⟩ := h
      simp [wayW]
    | succ k =>
      simp only [wayW, Option.bind_eq_some_iff, Option.map_eq_some_iff] at h
      obtain ⟨d, hd, l', h', rfl⟩ := h
      simp [wayW, hd, ih h' k]
theorem way_at {c : C} {t : List UInt8} {l : List C} (h : wayW c t = some l) (k : Nat) (hk : k ≤ t.length) : endW c (t.take k) = some (l.getD k (0, 0)) := by
  have h1 := way_end (wayW_take h k)
  rw [List.length_take, Nat.min_eq_left hk] at h1
  rw [h1, List.getD_eq_getElem?_getD, List.getD_eq_getElem?_getD, List.getElem?_take_of_lt (by omega)]

/-- The area inside: a step to the left adds the height, one to the right takes it away. -/
def areaS (n : Int) (b : UInt8) (c : C) : Int := if b = 114 then wrap64 (n - c.2) else if b = 108 then wrap64 (n + c.2) else n
def areaW (c : C) : List UInt8 → Int → Int
  | [], n => n
  | b :: t, n => areaW ((stepW c b).getD c) t (areaS n b c)
theorem areaW_snoc {c d : C} {t : List UInt8} (b : UInt8) (n : Int) (h : endW c t = some d) : areaW c (t ++ [b]) n = areaS (areaW c t n) b d := by
  induction t generalizing c n with
  | nil => simp [endW] at h; subst h; rfl
  | cons a t ih =>
    simp only [endW, Option.bind_eq_some_iff] at h
    obtain ⟨e, he, h'⟩ := h
    simp only [List.cons_append, areaW, he, Option.getD_some]
    exact ih _ h'
theorem area_step (s : ByteArray) (k : Nat) (h : k < s.size) (c d : C) (n : Int) (hd : endW c (s.data.toList.take k) = some d) :
    areaW c (s.data.toList.take (k + 1)) n = areaS (areaW c (s.data.toList.take k) n) s[k] d := by
  rw [take_snoc s k h, areaW_snoc _ _ hd]
def areaV (s : ByteArray) : Value := if closedW s.data.toList = true then .tuple #[.int .i64 (areaW (0, 0) s.data.toList 0), .bool true] else .tuple #[.int .i64 0, .bool false]
theorem data_len (s : ByteArray) : s.data.toList.length = s.size := by rw [Array.length_toList]; rfl
theorem closedW_of {s : ByteArray} (h40 : s.size ≤ 40) (e : C) (h : endW (0, 0) s.data.toList = some e) : closedW s.data.toList = (e.1 == 0 && e.2 == 0) := by
  unfold closedW
  rw [data_len, h]
  obtain ⟨x, y⟩ := e
  by_cases h1 : x = 0 <;> by_cases h2 : y = 0 <;> simp [h1, h2, h40]
theorem closedW_far {s : ByteArray} (h40 : ¬ s.size ≤ 40) : closedW s.data.toList = false := by
  unfold closedW
  rw [data_len]
  simp [h40]
theorem closedW_none {s : ByteArray} (h : endW (0, 0) s.data.toList = none) : closedW s.data.toList = false := by
  unfold closedW
  rw [h]
  simp
theorem closedW_yes {s : ByteArray} (h : closedW s.data.toList = true) : s.size ≤ 40 ∧ endW (0, 0) s.data.toList = some (0, 0) := by
  unfold closedW at h
  rw [data_len] at h
  simpa using h

/-- The way back. -/
def oppS (b : UInt8) : UInt8 := if b = 114 then 108 else if b = 100 then 117 else if b = 108 then 114 else 100
def isS (b : UInt8) : Bool := b == 114 || b == 108 || b == 100 || b == 117
def revW (w : List UInt8) : List UInt8 := w.reverse.map oppS
/-- The letter of the step from one place to another. -/
def stepV (a b : C) : UInt8 := if b.1 > a.1 then 114 else if b.1 < a.1 then 108 else if b.2 > a.2 then 100 else 117
theorem stepW_some {c : C} {b : UInt8} : (stepW c b).isSome = isS b := by
  unfold stepW isS
  by_cases h1 : b = 114 <;> by_cases h2 : b = 108 <;> by_cases h3 : b = 100 <;> by_cases h4 : b = 117 <;> simp [h1, h2, h3, h4]
theorem wayW_all {c : C} {w : List UInt8} : (wayW c w).isSome = w.all isS := by
  induction w generalizing c with
  | nil => rfl
  | cons b t ih =>
    simp only [wayW, List.all_cons]
    cases h : stepW c b with
    | none => have := stepW_some (c := c) (b := b); rw [h] at this; simp [← this]
    | some d => have := stepW_some (c := c) (b := b); rw [h] at this; simp [← this, ih]
theorem stepW_val {x y : Int} {b : UInt8} {d : C} (h : stepW (x, y) b = some d) (hx : -1000 ≤ x ∧ x ≤ 1000) (hy : -1000 ≤ y ∧ y ≤ 1000) :
    d = if b = 114 then (x + 1, y) else if b = 108 then (x - 1, y) else if b = 100 then (x, y + 1) else (x, y - 1) := by
  have e1 : wrap64 (x + 1) = x + 1 := IntWalk.wrap64_in _ (by omega)
  have e2 : wrap64 (x - 1) = x - 1 := IntWalk.wrap64_in _ (by omega)
  have e3 : wrap64 (y + 1) = y + 1 := IntWalk.wrap64_in _ (by omega)
  have e4 : wrap64 (y - 1) = y - 1 := IntWalk.wrap64_in _ (by omega)
  unfold stepW at h
  rw [e1, e2, e3, e4] at h
  by_cases h1 : b = 114
  · simp [h1] at h ⊢; exact h.symm
  by_cases h2 : b = 108
  · simp [h2] at h ⊢; exact h.symm
  by_cases h3 : b = 100
  · simp [h3] at h ⊢; exact h.symm
  by_cases h4 : b = 117
  · simp [h4] at h ⊢; exact h.symm
  simp [h1, h2, h3, h4] at h
theorem endW_bound {c d : C} {t : List UInt8} (h : endW c t = some d) (m : Nat) (hm : m + t.length ≤ 1000) (hc : (-(m : Int) ≤ c.1 ∧ c.1 ≤ m) ∧ (-(m : Int) ≤ c.2 ∧ c.2 ≤ m)) :
    (-((m + t.length : Nat) : Int) ≤ d.1 ∧ d.1 ≤ ((m + t.length : Nat) : Int)) ∧ (-((m + t.length : Nat) : Int) ≤ d.2 ∧ d.2 ≤ ((m + t.length : Nat) : Int)) := by
  induction t generalizing c m with
  | nil => simp [endW] at h; subst h; simpa using hc
  | cons b t ih =>
    simp only [endW, Option.bind_eq_some_iff] at h
    obtain ⟨e, he, h'⟩ := h
    simp only [List.length_cons] at hm ⊢
    obtain ⟨x, y⟩ := c
    simp only at hc
    have hv := stepW_val he (by omega) (by omega)
    have := ih h' (m + 1) (by omega) (by
      rw [hv]
      split
      · constructor <;> constructor <;> simp only <;> omega
      split
      · constructor <;> constructor <;> simp only <;> omega
      split
      · constructor <;> constructor <;> simp only <;> omega
      · constructor <;> constructor <;> simp only <;> omega)
    rw [show m + (t.length + 1) = m + 1 + t.length from by omega]
    exact this
theorem stepV_back {x y : Int} {b : UInt8} {d : C} (h : stepW (x, y) b = some d) (hx : -1000 ≤ x ∧ x ≤ 1000) (hy : -1000 ≤ y ∧ y ≤ 1000) : stepV d (x, y) = oppS b := by
  have hs : isS b = true := by rw [← stepW_some (c := (x, y)), h]; rfl
  have hv := stepW_val h hx hy
  subst hv
  unfold stepV oppS
  by_cases h1 : b = 114
  · subst h1
    have a1 : ¬ x > x + 1 := by omega
    have a2 : x < x + 1 := by omega
    simp only [if_true, a1, a2, if_false]
  by_cases h2 : b = 108
  · subst h2
    have a1 : x > x - 1 := by omega
    simp [a1]
  by_cases h3 : b = 100
  · subst h3
    have a1 : ¬ y > y + 1 := by omega
    simp [a1]
  by_cases h4 : b = 117
  · subst h4
    have a1 : y > y - 1 := by omega
    simp [a1]
  simp [isS, h1, h2, h3, h4] at hs
theorem revW_drop (s : ByteArray) (k : Nat) (h : k < s.size) : revW (s.data.toList.drop k) = revW (s.data.toList.drop (k + 1)) ++ [oppS s[k]] := by
  unfold revW
  rw [List.drop_eq_getElem_cons (by rw [data_len]; exact h), List.reverse_cons, List.map_append]
  rfl
theorem all_drop (s : ByteArray) (k : Nat) (h : k < s.size) : (s.data.toList.drop k).all isS = (isS s[k] && (s.data.toList.drop (k + 1)).all isS) := by
  rw [List.drop_eq_getElem_cons (by rw [data_len]; exact h), List.all_cons]
  rfl
def bs (l : List UInt8) : ByteArray := ⟨l.toArray⟩
theorem bs_of {o : ByteArray} {l : List UInt8} (h : o.data.toList = l) : o = bs l := by
  subst h
  unfold bs
  cases o
  rfl
def revV (s : ByteArray) : Value := if s.size ≤ 20 ∧ s.data.toList.all isS = true then .tuple #[.string (bs (revW s.data.toList)), .bool true] else .tuple #[.string (bs []), .bool false]
end Go.Proofs.YtcgohceakjjlhaaDoor
