/- Plain functions on shapes: inner sides, trees, snakes, ends, the order of growth. No program is in sight. -/
import Derived.Test.YteelmhmdnljjnaaConnM
namespace Go.Proofs.Yteelmhmdnljjnaa
open Go.RowKit
set_option linter.unusedVariables false

theorem countP_take {α : Type} (p : α → Bool) (xs : List α) (k : Nat) (hk : k < xs.length) : (xs.take (k + 1)).countP p = (xs.take k).countP p + (if p xs[k] then 1 else 0) := by
  rw [List.take_succ_eq_append_getElem hk, List.countP_append, List.countP_singleton]
theorem countP_congr' {α : Type} {p q : α → Bool} {l : List α} (h : ∀ x ∈ l, p x = q x) : l.countP p = l.countP q := by
  induction l with
  | nil => rfl
  | cons a t ih => simp only [List.countP_cons, h a (by simp), ih (fun x hx => h x (by simp [hx]))]
def degI (s : List C) (c : C) : Nat := s.countP fun d => nearI c d
def degS (s : List C) (c : C) : Nat := s.countP fun d => nearS d c
def deg (s : List C) (c : C) : Nat := s.countP fun d => near c d
theorem degI_eq {l : List C} {c : C} (hl : ∀ d ∈ l, small d) (hc : small c) : degI l c = deg l c := countP_congr' fun d hd => nearI_eq hc (hl d hd)
theorem degS_eq {l : List C} {c : C} (hl : ∀ d ∈ l, small d) (hc : small c) : degS l c = deg l c := countP_congr' fun d hd => by rw [nearS_eq (hl d hd) hc, near_symm]
def inner (l : List C) : Nat → Nat
  | 0 => 0
  | k + 1 => inner l k + (l.take k).countP fun d => near (l.getD k (0, 0)) d
theorem countP_le' {α : Type} (p : α → Bool) (l : List α) : l.countP p ≤ l.length := List.countP_le_length
theorem inner_le (l : List C) (k : Nat) (hk : k ≤ 8) : inner l k ≤ k * 8 := by
  induction k with
  | zero => simp [inner]
  | succ k ih =>
    have h1 := ih (by omega)
    have h2 := countP_le' (fun d => near (l.getD k (0, 0)) d) (l.take k)
    rw [List.length_take] at h2
    simp only [inner]
    omega
noncomputable def isConn (l : List C) : Bool := isShape l && conn l
noncomputable def isTree (l : List C) : Bool := isConn l && (inner l l.length == l.length - 1)
noncomputable def isSnake (l : List C) : Bool := isTree l && l.all fun c => decide (deg l c ≤ 2)
theorem conn_shape {l : List C} (h : isConn l = true) : isShape l = true := by simp only [isConn, Bool.and_eq_true] at h; exact h.1
theorem tree_conn {l : List C} (h : isTree l = true) : isConn l = true := by simp only [isTree, Bool.and_eq_true] at h; exact h.1
theorem snake_tree {l : List C} (h : isSnake l = true) : isTree l = true := by simp only [isSnake, Bool.and_eq_true] at h; exact h.1
theorem snake_no {s : List C} {c : C} (hc : c ∈ s) (h : 2 < degI s c) : isSnake s = false := by
  rw [Bool.eq_false_iff]
  intro hs
  have hsm := shape_small (conn_shape (tree_conn (snake_tree hs)))
  rw [degI_eq hsm (hsm c hc)] at h
  simp only [isSnake, Bool.and_eq_true, List.all_eq_true, decide_eq_true_eq] at hs
  have := hs.2 c hc
  omega
theorem snake_end {s : List C} (h : ∀ c ∈ s, ¬ (s.length ≤ 8 ∧ 2 < degI s c)) : isTree s = isSnake s := by
  unfold isSnake
  cases ht : isTree s with
  | false => rfl
  | true =>
    have hsh := conn_shape (tree_conn ht)
    have hsm := shape_small hsh
    symm
    rw [Bool.true_and, List.all_eq_true]
    intro c hc
    have h1 := h c hc
    rw [degI_eq hsm (hsm c hc)] at h1
    have := shape_len hsh
    rw [decide_eq_true_eq]
    omega
def ends (l : List C) : List C := if isShape l then l.filter fun c => deg l c == 1 else []
theorem filter_take {α : Type} (p : α → Bool) (xs : List α) (k : Nat) (hk : k < xs.length) : (xs.take (k + 1)).filter p = (xs.take k).filter p ++ (if p xs[k] then [xs[k]] else []) := by
  rw [List.take_succ_eq_append_getElem hk, List.filter_append, List.filter_cons, List.filter_nil]

/-- A cell that is new and has a neighbour among those that came. -/
def nextTo (out : List C) (c : C) : Bool := !hasC out c.1 c.2 && touch out c
theorem hasC_iff (s : List C) (c : C) : hasC s c.1 c.2 = true ↔ c ∈ s := by
  unfold hasC
  rw [List.any_eq_true]
  constructor
  · rintro ⟨d, hd, h⟩
    simp only [Bool.and_eq_true, beq_iff_eq] at h
    rwa [show c = d from Prod.ext h.1.symm h.2.symm]
  · intro h
    exact ⟨c, h, by simp⟩
def grownBy (s : List C) : Nat → List C
  | 0 => [s0 s]
  | k + 1 => grownBy s k ++ (s.find? (nextTo (grownBy s k))).toList
/-- In a connected shape there is always a next cell. -/
theorem next_some {s out : List C} (hs : conn s = true) (hn : s.Nodup) (h0 : s0 s ∈ out) (hlen : out.length < s.length) : ∃ c, s.find? (nextTo out) = some c := by
  rcases hf : s.find? (nextTo out) with _ | c
  · exfalso
    rw [List.find?_eq_none] at hf
    rw [conn_iff] at hs
    have all : ∀ c, Rch s (s0 s) c → c ∈ out := by
      intro c hc
      induction hc with
      | base => exact h0
      | @step b c _ hc hn ih =>
        have := hf c hc
        simp only [nextTo, Bool.and_eq_true, Bool.not_eq_true', not_and] at this
        rcases Decidable.em (c ∈ out) with h | h
        · exact h
        · exfalso
          refine this ?_ ?_
          · rw [Bool.eq_false_iff]; intro h'; exact h ((hasC_iff _ _).1 h')
          · unfold touch; rw [List.any_eq_true]; exact ⟨b, ih, by rw [near_symm]; exact hn⟩
    have := nodup_len s out hn (fun c hc => all c (hs c hc))
    omega
  · exact ⟨c, rfl⟩
theorem grownBy_s0 (s : List C) (k : Nat) : s0 s ∈ grownBy s k := by
  induction k with
  | zero => simp [grownBy]
  | succ k ih => simp [grownBy, ih]
theorem grownBy_sub {s : List C} (h : s ≠ []) (k : Nat) : ∀ c ∈ grownBy s k, c ∈ s := by
  induction k with
  | zero =>
    intro c hc
    simp only [grownBy, List.mem_singleton] at hc
    subst hc
    cases s with
    | nil => exact absurd rfl h
    | cons a t => simp [s0]
  | succ k ih =>
    intro c hc
    simp only [grownBy, List.mem_append, Option.mem_toList] at hc
    rcases hc with hc | hc
    · exact ih c hc
    · exact List.mem_of_find?_eq_some hc
theorem grownBy_len {s : List C} (hs : conn s = true) (hn : s.Nodup) (k : Nat) (hk : k < s.length) : (grownBy s k).length = k + 1 := by
  induction k with
  | zero => rfl
  | succ k ih =>
    have h1 := ih (by omega)
    obtain ⟨c, hc⟩ := next_some hs hn (grownBy_s0 s k) (by omega)
    simp [grownBy, hc, h1]
end Go.Proofs.Yteelmhmdnljjnaa
