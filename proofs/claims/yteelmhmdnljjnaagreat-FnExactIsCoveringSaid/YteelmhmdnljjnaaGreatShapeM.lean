/- Plain functions on cells: the board, neighbours, growth. No program is in sight. -/
import Derived.Test.YteelmhmdnljjnaaGreatKit
import Derived.IntWalk
namespace Go.Proofs.YteelmhmdnljjnaaGreat
open Go.RowKit
set_option linter.unusedVariables false

def hasC (s : List C) (x y : Int) : Bool := s.any fun c => c.1 == x && c.2 == y
def onB (c : C) : Bool := (decide (0 ≤ c.1) && decide (c.1 ≤ 7)) && (decide (0 ≤ c.2) && decide (c.2 ≤ 7))
/-- Two cells have a side in common: as the reference reckons it, as the program does. -/
def nearS (a b : C) : Bool := wrap64 (wrap64 (wrap64 (a.1 - b.1) * wrap64 (a.1 - b.1)) + wrap64 (wrap64 (a.2 - b.2) * wrap64 (a.2 - b.2))) == 1
def nearI (a b : C) : Bool :=
  wrap64 ((if wrap64 (a.1 - b.1) < wrap64 (b.1 - a.1) then wrap64 (b.1 - a.1) else wrap64 (a.1 - b.1)) + (if wrap64 (a.2 - b.2) < wrap64 (b.2 - a.2) then wrap64 (b.2 - a.2) else wrap64 (a.2 - b.2))) == 1
def near (a b : C) : Bool := decide ((a.1 - b.1).natAbs + (a.2 - b.2).natAbs = 1)
def small (c : C) : Prop := (-1000 ≤ c.1 ∧ c.1 ≤ 1000) ∧ (-1000 ≤ c.2 ∧ c.2 ≤ 1000)
theorem small_of_onB {c : C} (h : onB c = true) : small c := by
  simp [onB] at h
  unfold small
  omega
theorem near_symm (a b : C) : near a b = near b a := by
  unfold near
  congr 1
  simp only [eq_iff_iff]
  omega
theorem nearI_eq {a b : C} (ha : small a) (hb : small b) : nearI a b = near a b := by
  unfold small at ha hb
  unfold nearI near
  rw [IntWalk.wrap64_in (a.1 - b.1) (by omega), IntWalk.wrap64_in (b.1 - a.1) (by omega), IntWalk.wrap64_in (a.2 - b.2) (by omega), IntWalk.wrap64_in (b.2 - a.2) (by omega)]
  rw [IntWalk.wrap64_in _ (by split <;> split <;> omega)]
  rw [Bool.eq_iff_iff, beq_iff_eq, decide_eq_true_eq]
  split <;> split <;> omega
theorem sq_small (d : Int) (h : -2000 ≤ d ∧ d ≤ 2000) : 0 ≤ d * d ∧ d * d ≤ 4000000 := by
  refine ⟨by rcases Int.le_total 0 d with h0 | h0; exact Int.mul_nonneg h0 h0; exact Int.mul_nonneg_of_nonpos_of_nonpos h0 h0, ?_⟩
  have h1 : d * d ≤ 2000 * 2000 := by
    rcases Int.le_total 0 d with h0 | h0
    · exact Int.mul_le_mul h.2 h.2 h0 (by omega)
    · have := Int.mul_le_mul (a := -d) (b := -d) (c := 2000) (d := 2000) (by omega) (by omega) (by omega) (by omega)
      rwa [Int.neg_mul_neg] at this
  omega
theorem sq_cases (d : Int) : d * d = 0 ∧ d = 0 ∨ d * d = 1 ∧ (d = 1 ∨ d = -1) ∨ 2 ≤ d * d ∧ (2 ≤ d ∨ d ≤ -2) := by
  rcases (by omega : d = 0 ∨ d = 1 ∨ d = -1 ∨ 2 ≤ d ∨ d ≤ -2) with h | h | h | h | h
  · left; subst h; simp
  · right; left; subst h; simp
  · right; left; subst h; simp
  · right; right
    have := Int.mul_le_mul (a := 2) (b := 2) (c := d) (d := d) h h (by omega) (by omega)
    omega
  · right; right
    have := Int.mul_le_mul (a := 2) (b := 2) (c := -d) (d := -d) (by omega) (by omega) (by omega) (by omega)
    rw [Int.neg_mul_neg] at this
    omega
theorem nearS_eq {a b : C} (ha : small a) (hb : small b) : nearS a b = near a b := by
  unfold small at ha hb
  unfold nearS near
  have h1 := sq_small (a.1 - b.1) (by omega)
  have h2 := sq_small (a.2 - b.2) (by omega)
  rw [IntWalk.wrap64_in (a.1 - b.1) (by omega), IntWalk.wrap64_in (a.2 - b.2) (by omega)]
  rw [IntWalk.wrap64_in ((a.1 - b.1) * (a.1 - b.1)) (by omega), IntWalk.wrap64_in ((a.2 - b.2) * (a.2 - b.2)) (by omega)]
  rw [IntWalk.wrap64_in _ (by omega)]
  rw [Bool.eq_iff_iff, beq_iff_eq, decide_eq_true_eq]
  have c1 := sq_cases (a.1 - b.1)
  have c2 := sq_cases (a.2 - b.2)
  omega
def touchI (l : List C) (c : C) : Bool := l.any fun d => nearI c d
def touchS (l : List C) (c : C) : Bool := l.any fun d => nearS d c
def touch (l : List C) (c : C) : Bool := l.any fun d => near c d
theorem any_congr' {α : Type} {p q : α → Bool} {l : List α} (h : ∀ x ∈ l, p x = q x) : l.any p = l.any q := by
  induction l with
  | nil => rfl
  | cons a t ih => simp only [List.any_cons, h a (by simp), ih (fun x hx => h x (by simp [hx]))]
theorem touchI_eq {l : List C} {c : C} (hl : ∀ d ∈ l, small d) (hc : small c) : touchI l c = touch l c := any_congr' fun d hd => nearI_eq hc (hl d hd)
theorem touchS_eq {l : List C} {c : C} (hl : ∀ d ∈ l, small d) (hc : small c) : touchS l c = touch l c := any_congr' fun d hd => by rw [nearS_eq (hl d hd) hc, near_symm]
theorem any_take {α : Type} (p : α → Bool) (xs : List α) (k : Nat) (hk : k < xs.length) : (xs.take (k + 1)).any p = ((xs.take k).any p || p xs[k]) := by
  rw [List.take_succ_eq_append_getElem hk, List.any_append]
  simp
theorem any_full {α : Type} (p : α → Bool) (xs : List α) (k : Nat) (hk : k < xs.length) (h : p xs[k] = true) : xs.any p = true := by
  rw [List.any_eq_true]; exact ⟨_, List.getElem_mem hk, h⟩

/-- The k-th cell may grow on those before it. -/
def growAt (l : List C) (k : Nat) (c : C) : Bool := onB c && !hasC (l.take k) c.1 c.2 && (k == 0 || touch (l.take k) c)
def growTo (l : List C) (k : Nat) : Bool := (List.range k).all fun i => growAt l i (l.getD i (0, 0))
def isGrowth (l : List C) : Bool := growTo l l.length && (decide (1 ≤ l.length) && decide (l.length ≤ 8))
theorem growTo_succ (l : List C) (k : Nat) (hk : k < l.length) : growTo l (k + 1) = (growTo l k && growAt l k l[k]) := by
  unfold growTo
  rw [List.range_succ, List.all_append]
  simp [List.getD_eq_getElem?_getD, hk]
theorem growTo_onB (l : List C) (k : Nat) (hk : k ≤ l.length) (h : growTo l k = true) : ∀ c ∈ l.take k, onB c = true := by
  intro c hc
  obtain ⟨i, hi, rfl⟩ := List.mem_iff_getElem.1 hc
  rw [List.length_take] at hi
  unfold growTo at h
  rw [List.all_eq_true] at h
  have := h i (by simp; omega)
  rw [List.getD_eq_getElem?_getD, List.getElem?_eq_getElem (by omega)] at this
  simp only [growAt, Option.getD_some, Bool.and_eq_true] at this
  rw [List.getElem_take]
  exact this.1.1
theorem isGrowth_no (l : List C) (k : Nat) (hk : k < l.length) (h : growAt l k l[k] = false) : isGrowth l = false := by
  have : growTo l l.length = false := by
    rw [Bool.eq_false_iff]
    intro ht
    unfold growTo at ht
    rw [List.all_eq_true] at ht
    have := ht k (by simp; omega)
    rw [List.getD_eq_getElem?_getD, List.getElem?_eq_getElem hk] at this
    simp only [Option.getD_some] at this
    rw [h] at this
    cases this
  unfold isGrowth
  rw [this]
  rfl
end Go.Proofs.YteelmhmdnljjnaaGreat
