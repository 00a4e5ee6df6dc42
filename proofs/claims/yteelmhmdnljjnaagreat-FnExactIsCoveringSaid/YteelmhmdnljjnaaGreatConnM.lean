/- Plain functions on cells: shapes, connected shapes. No program is in sight. -/
import Derived.Test.YteelmhmdnljjnaaGreatShapeM
namespace Go.Proofs.YteelmhmdnljjnaaGreat
open Go.RowKit
set_option linter.unusedVariables false

def befC (a b : C) : Bool := decide (a.2 < b.2) || (a.2 == b.2 && decide (a.1 < b.1))
theorem befC_trans {a b c : C} (h : befC a b = true) (k : befC b c = true) : befC a c = true := by
  simp only [befC, Bool.or_eq_true, Bool.and_eq_true, decide_eq_true_eq, beq_iff_eq] at *
  omega
theorem befC_irr (a : C) : befC a a = false := by simp [befC]
/-- The k-th cell of a list is on the board and behind the one before it. -/
def shapeAt (l : List C) (k : Nat) (c : C) : Bool := onB c && (k == 0 || befC (l.getD (k - 1) (0, 0)) c)
def shapeTo (l : List C) (k : Nat) : Bool := (List.range k).all fun i => shapeAt l i (l.getD i (0, 0))
def isShape (l : List C) : Bool := shapeTo l l.length && (decide (1 ≤ l.length) && decide (l.length ≤ 8))
theorem shapeTo_succ (l : List C) (k : Nat) (hk : k < l.length) : shapeTo l (k + 1) = (shapeTo l k && shapeAt l k l[k]) := by
  unfold shapeTo
  rw [List.range_succ, List.all_append]
  simp [List.getD_eq_getElem?_getD, hk]
theorem shapeTo_at {l : List C} {k : Nat} (h : shapeTo l k = true) {i : Nat} (hi : i < k) (hl : i < l.length) : shapeAt l i l[i] = true := by
  unfold shapeTo at h
  rw [List.all_eq_true] at h
  have := h i (by simp; omega)
  rwa [List.getD_eq_getElem?_getD, List.getElem?_eq_getElem hl] at this
theorem isShape_no (l : List C) (k : Nat) (hk : k < l.length) (h : shapeAt l k l[k] = false) : isShape l = false := by
  have : shapeTo l l.length = false := by
    rw [Bool.eq_false_iff]
    intro ht
    rw [shapeTo_at ht hk hk] at h
    cases h
  unfold isShape
  rw [this]
  rfl
theorem shape_len {l : List C} (h : isShape l = true) : 1 ≤ l.length ∧ l.length ≤ 8 := by
  simp only [isShape, Bool.and_eq_true, decide_eq_true_eq] at h
  exact h.2
theorem shape_to {l : List C} (h : isShape l = true) : shapeTo l l.length = true := by
  simp only [isShape, Bool.and_eq_true, decide_eq_true_eq] at h
  exact h.1
theorem shape_onB {l : List C} (h : isShape l = true) : ∀ c ∈ l, onB c = true := by
  intro c hc
  obtain ⟨i, hi, rfl⟩ := List.mem_iff_getElem.1 hc
  have := shapeTo_at (shape_to h) hi hi
  simp only [shapeAt, Bool.and_eq_true] at this
  exact this.1
theorem shape_small {l : List C} (h : isShape l = true) : ∀ c ∈ l, small c := fun c hc => small_of_onB (shape_onB h c hc)
theorem shape_bef {l : List C} (h : isShape l = true) : ∀ j i (hj : j < l.length) (hi : i < j), befC (l[i]'(by omega)) l[j] = true := by
  intro j
  induction j with
  | zero => intro i _ hi; omega
  | succ j ih =>
    intro i hj hi
    have h1 := shapeTo_at (shape_to h) hj hj
    simp only [shapeAt, Bool.and_eq_true] at h1
    have h2 := h1.2
    rw [show (j + 1 == 0) = false from rfl, Bool.false_or, show j + 1 - 1 = j from rfl, List.getD_eq_getElem?_getD, List.getElem?_eq_getElem (by omega : j < l.length)] at h2
    rcases Nat.lt_or_ge i j with h3 | h3
    · exact befC_trans (ih i (by omega) h3) h2
    · obtain rfl : i = j := by omega
      exact h2
theorem shape_nodup {l : List C} (h : isShape l = true) : l.Nodup := by
  rw [List.Nodup, List.pairwise_iff_getElem]
  intro i j hi hj hij he
  have := shape_bef h j i hj hij
  rw [he, befC_irr] at this
  cases this

/-- What is reached from a cell by steps within a list. -/
inductive Rch (s : List C) (a : C) : C → Prop
  | base : Rch s a a
  | step {b c : C} : Rch s a b → c ∈ s → near b c = true → Rch s a c
def s0 (s : List C) : C := s.getD 0 (0, 0)
noncomputable def conn (s : List C) : Bool := @decide (∀ c ∈ s, Rch s (s0 s) c) (Classical.propDecidable _)
theorem conn_iff (s : List C) : conn s = true ↔ ∀ c ∈ s, Rch s (s0 s) c := by
  unfold conn
  exact @decide_eq_true_iff _ (Classical.propDecidable _)
theorem nodup_len {α : Type} [DecidableEq α] : ∀ (l m : List α), l.Nodup → (∀ x ∈ l, x ∈ m) → l.length ≤ m.length := by
  intro l
  induction l with
  | nil => intro m _ _; simp
  | cons a t ih =>
    intro m hn hs
    have ha := hs a (by simp)
    have h1 := ih (m.erase a) (List.nodup_cons.1 hn).2 (fun x hx => (List.mem_erase_of_ne (by rintro rfl; exact (List.nodup_cons.1 hn).1 hx)).2 (hs x (by simp [hx])))
    rw [List.length_erase_of_mem ha] at h1
    have : 0 < m.length := List.length_pos_of_mem ha
    simp only [List.length_cons]
    omega
theorem nodup_full {α : Type} [DecidableEq α] (l m : List α) (hl : l.Nodup) (hs : ∀ x ∈ l, x ∈ m) (he : l.length = m.length) : ∀ x ∈ m, x ∈ l := by
  intro x hx
  rcases Decidable.em (x ∈ l) with h | h
  · exact h
  · have := nodup_len (x :: l) m (List.nodup_cons.2 ⟨h, hl⟩) (fun y hy => by
      rcases List.mem_cons.1 hy with rfl | hy
      · exact hx
      · exact hs y hy)
    simp only [List.length_cons] at this
    omega
theorem nodup_inj {α : Type} {l : List α} (h : l.Nodup) {i j : Nat} (hi : i < l.length) (hj : j < l.length) (he : l[i] = l[j]) : i = j := by
  rw [List.Nodup, List.pairwise_iff_getElem] at h
  rcases Nat.lt_trichotomy i j with h1 | h1 | h1
  · exact absurd he (h i j hi hj h1)
  · exact h1
  · exact absurd he.symm (h j i hj hi h1)
/-- Connectedness as the reference finds it: the list of all that was seen is closed. -/
theorem conn_of_list (s seen : List C) (h0 : s0 s ∈ seen) (hsub : ∀ c ∈ seen, c ∈ s) (hnd : seen.Nodup) (hs : s.Nodup) (hr : ∀ c ∈ seen, Rch s (s0 s) c)
    (hcl : ∀ b ∈ seen, ∀ c ∈ s, near b c = true → c ∈ seen) : conn s = decide (seen.length = s.length) := by
  rw [Bool.eq_iff_iff, conn_iff, decide_eq_true_eq]
  constructor
  · intro h
    have all : ∀ c, Rch s (s0 s) c → c ∈ seen := by
      intro c hc
      induction hc with
      | base => exact h0
      | step _ hc hn ih => exact hcl _ ih _ hc hn
    have h1 := nodup_len s seen hs (fun c hc => all c (h c hc))
    have h2 := nodup_len seen s hnd hsub
    omega
  · intro h c hc
    exact hr c (nodup_full seen s hnd hsub h c hc)
/-- As the program finds it: the marks are closed. -/
def cnt (fl : List Bool) : Nat := fl.count true
theorem conn_of_marks (s : List C) (fl : List Bool) (hl : fl.length = s.length) (h0 : fl[0]? = some true) (hnd : s.Nodup)
    (hin : ∀ i (h : i < s.length), fl[i]? = some true → Rch s (s0 s) s[i])
    (hcl : ∀ i j (hi : i < s.length) (hj : j < s.length), fl[i]? = some true → near s[i] s[j] = true → fl[j]? = some true) : conn s = decide (cnt fl = s.length) := by
  have hpos : 0 < s.length := by
    rw [← hl]
    rcases Nat.eq_zero_or_pos fl.length with h | h
    · rw [List.getElem?_eq_none (by omega)] at h0; cases h0
    · exact h
  rw [Bool.eq_iff_iff, conn_iff, decide_eq_true_eq]
  unfold cnt
  rw [← hl, List.count_eq_length]
  constructor
  · intro h
    have all : ∀ c, Rch s (s0 s) c → ∃ i, ∃ h : i < s.length, s[i] = c ∧ fl[i]? = some true := by
      intro c hc
      induction hc with
      | base => exact ⟨0, hpos, by simp [s0, List.getD_eq_getElem?_getD, hpos], h0⟩
      | step _ hc hn ih =>
        obtain ⟨i, hi, rfl, hf⟩ := ih
        obtain ⟨j, hj, rfl⟩ := List.mem_iff_getElem.1 hc
        exact ⟨j, hj, rfl, hcl i j hi hj hf hn⟩
    intro b hb
    obtain ⟨j, hj, rfl⟩ := List.mem_iff_getElem.1 hb
    obtain ⟨i, hi, he, hf⟩ := all (s[j]'(by omega)) (h _ (List.getElem_mem _))
    obtain rfl := nodup_inj hnd hi (by omega) he
    rw [List.getElem?_eq_getElem hj] at hf
    injection hf with hf
    exact hf.symm
  · intro h c hc
    obtain ⟨i, hi, rfl⟩ := List.mem_iff_getElem.1 hc
    refine hin i hi ?_
    rw [List.getElem?_eq_getElem (by omega)]
    rw [← h _ (List.getElem_mem (by omega : i < fl.length))]
theorem cnt_set (fl : List Bool) (j : Nat) (h : fl[j]? = some false) : cnt (fl.set j true) = cnt fl + 1 := by
  unfold cnt
  induction fl generalizing j with
  | nil => simp at h
  | cons a t ih =>
    cases j with
    | zero =>
      simp at h
      subst h
      simp
    | succ j =>
      simp at h
      simp only [List.set_cons_succ, List.count_cons, ih j h]
      omega
theorem cnt_le (fl : List Bool) : cnt fl ≤ fl.length := List.count_le_length
end Go.Proofs.YteelmhmdnljjnaaGreat
