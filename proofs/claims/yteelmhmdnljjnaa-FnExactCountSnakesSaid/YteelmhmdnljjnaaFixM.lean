/- Shapes with one cell more, all shapes of some cells: plain functions. No program is in sight. -/
import Derived.Test.YteelmhmdnljjnaaCellG
import Derived.Test.YteelmhmdnljjnaaInsM
namespace Go.Proofs.Yteelmhmdnljjnaa
open Go.RowKit
set_option linter.unusedVariables false
/-- The neighbours of a cell, in the program's order, in the reference's. -/
def sidesV (c : C) : List C := [(c.1, c.2 - 1), (c.1 - 1, c.2), (c.1 + 1, c.2), (c.1, c.2 + 1)]
def sidesS (c : C) : List C := [(c.1 + 1, c.2), (c.1, c.2 + 1), (c.1 - 1, c.2), (c.1, c.2 - 1)]
theorem sides_same (c d : C) : d ∈ sidesV c ↔ d ∈ sidesS c := by
  simp only [sidesV, sidesS, List.mem_cons, List.not_mem_nil, or_false]
  constructor
  · rintro (h | h | h | h) <;> simp [h]
  · rintro (h | h | h | h) <;> simp [h]
/-- The list with one shape more, if there is one at place d. -/
def extStep (s : List C) (out : List (List C)) (d : C) : List (List C) := if hasC s d.1 d.2 then out else if isShape (cornI (s ++ [d])) then putG ltS out (cornI (s ++ [d])) else out
def extTo (f : C → List C) (s : List C) (k : Nat) : List (List C) := ((s.take k).flatMap f).foldl (extStep s) []
def extV (s : List C) : List (List C) := extTo sidesV s s.length
theorem extTo_succ (f : C → List C) (s : List C) (k : Nat) (hk : k < s.length) : extTo f s (k + 1) = (f s[k]).foldl (extStep s) (extTo f s k) := by
  unfold extTo
  rw [List.take_succ_eq_append_getElem hk, List.flatMap_append, List.foldl_append]
  congr 1
  simp
/-- What a list of shapes in order bears: they are shapes, in order. -/
def FineF (F : List (List C)) : Prop := IncG ltS F ∧ ∀ x ∈ F, isShape x = true
theorem FineF.nil : FineF [] := ⟨List.Pairwise.nil, by simp⟩
theorem FineF.put {F : List (List C)} (h : FineF F) {t : List C} (ht : isShape t = true) : FineF (putG ltS F t) := by
  obtain ⟨h1, h2⟩ := putG_inc ltS_sto h.1 t
  refine ⟨h1, fun x hx => ?_⟩
  rcases (h2 x).1 hx with h3 | h3
  · exact h.2 x h3
  · rw [h3]; exact ht
theorem FineF.step {F : List (List C)} (h : FineF F) (s : List C) (d : C) : FineF (extStep s F d) := by
  unfold extStep
  split
  · exact h
  · split
    · next hs => exact h.put hs
    · exact h
theorem FineF.fold {F : List (List C)} (h : FineF F) (s : List C) (l : List C) : FineF (l.foldl (extStep s) F) := by
  induction l generalizing F with
  | nil => exact h
  | cons a t ih => exact ih (h.step s a)
theorem FineF.len {F : List (List C)} (h : FineF F) : ∀ x ∈ F, x.length ≤ 8 := fun x hx => (shape_len (h.2 x hx)).2
theorem extTo_fine (f : C → List C) (s : List C) (k : Nat) : FineF (extTo f s k) := FineF.nil.fold s _
theorem extStep_len (s : List C) (F : List (List C)) (d : C) : (extStep s F d).length ≤ F.length + 1 := by
  unfold extStep
  split
  · omega
  · split
    · exact putG_len _ _
    · omega
theorem foldExt_len (s : List C) (l : List C) (F : List (List C)) : (l.foldl (extStep s) F).length ≤ F.length + l.length := by
  induction l generalizing F with
  | nil => simp
  | cons a t ih =>
    rw [List.foldl_cons]
    have := ih (extStep s F a)
    have := extStep_len s F a
    simp only [List.length_cons]
    omega
theorem extTo_len (f : C → List C) (hf : ∀ c, (f c).length = 4) (s : List C) : ∀ k, k ≤ s.length → (extTo f s k).length ≤ 4 * k
  | 0, _ => by simp [extTo]
  | k + 1, hk => by
    rw [extTo_succ f s k (by omega)]
    have := foldExt_len s (f s[k]) (extTo f s k)
    rw [hf] at this
    have := extTo_len f hf s k (by omega)
    omega
/-- What is in the list. -/
def extP (s : List C) (x : List C) (d : C) : Prop := hasC s d.1 d.2 = false ∧ isShape (cornI (s ++ [d])) = true ∧ x = cornI (s ++ [d])
theorem extStep_mem {F : List (List C)} (h : FineF F) (s : List C) (d : C) (x : List C) : x ∈ extStep s F d ↔ x ∈ F ∨ extP s x d := by
  unfold extStep extP
  cases h1 : hasC s d.1 d.2 with
  | true => simp
  | false =>
    cases h2 : isShape (cornI (s ++ [d])) with
    | true =>
      simp only [Bool.false_eq_true, if_false, if_true, true_and]
      exact (putG_inc ltS_sto h.1 _).2 x
    | false => simp
theorem foldExt_mem (s : List C) (l : List C) {F : List (List C)} (h : FineF F) (x : List C) : x ∈ l.foldl (extStep s) F ↔ x ∈ F ∨ ∃ d ∈ l, extP s x d := by
  induction l generalizing F with
  | nil => simp
  | cons a t ih =>
    rw [List.foldl_cons, ih (h.step s a), extStep_mem h]
    simp only [List.mem_cons]
    constructor
    · rintro ((h | h) | ⟨d, hd, h⟩)
      · exact .inl h
      · exact .inr ⟨a, .inl rfl, h⟩
      · exact .inr ⟨d, .inr hd, h⟩
    · rintro (h | ⟨d, rfl | hd, h⟩)
      · exact .inl (.inl h)
      · exact .inl (.inr h)
      · exact .inr ⟨d, hd, h⟩
theorem ext_same (s : List C) : extTo sidesS s s.length = extV s := by
  refine incG_eq ltS_sto _ _ (extTo_fine _ _ _).1 (extTo_fine _ _ _).1 fun x => ?_
  unfold extV extTo
  rw [foldExt_mem s _ FineF.nil, foldExt_mem s _ FineF.nil]
  simp only [List.not_mem_nil, false_or, List.mem_flatMap, List.take_length]
  constructor
  · rintro ⟨d, ⟨c, hc, hd⟩, h⟩
    exact ⟨d, ⟨c, hc, (sides_same c d).2 hd⟩, h⟩
  · rintro ⟨d, ⟨c, hc, hd⟩, h⟩
    exact ⟨d, ⟨c, hc, (sides_same c d).1 hd⟩, h⟩
/-- All shapes of k + 1 cells. -/
def growN (F : List (List C)) (k : Nat) : List (List C) := (F.take k).foldl (fun acc s => (extV s).foldl (putG ltS) acc) []
def fixV : Nat → List (List C)
  | 0 => [[(0, 0)]]
  | k + 1 => growN (fixV k) (fixV k).length
theorem growN_succ (F : List (List C)) (k : Nat) (hk : k < F.length) : growN F (k + 1) = (extV F[k]).foldl (putG ltS) (growN F k) := by
  unfold growN
  rw [List.take_succ_eq_append_getElem hk, List.foldl_append]
  rfl
theorem FineF.puts {F : List (List C)} (h : FineF F) {l : List (List C)} (hl : ∀ x ∈ l, isShape x = true) : FineF (l.foldl (putG ltS) F) := by
  induction l generalizing F with
  | nil => exact h
  | cons a t ih => exact ih (h.put (hl a (by simp))) (fun x hx => hl x (by simp [hx]))
theorem growN_fine (F : List (List C)) : ∀ k, k ≤ F.length → FineF (growN F k)
  | 0, _ => FineF.nil
  | k + 1, hk => by
    rw [growN_succ F k (by omega)]
    exact (growN_fine F k (by omega)).puts (extTo_fine _ _ _).2
theorem fixV_fine : ∀ k, FineF (fixV k)
  | 0 => ⟨List.pairwise_singleton _ _, by intro x hx; simp only [fixV, List.mem_singleton] at hx; rw [hx]; decide⟩
  | k + 1 => growN_fine _ _ (Nat.le_refl _)
theorem extV_len (s : List C) : (extV s).length ≤ 4 * s.length := extTo_len sidesV (fun _ => rfl) s s.length (Nat.le_refl _)
theorem growN_len (F : List (List C)) (hF : ∀ x ∈ F, isShape x = true) : ∀ k, k ≤ F.length → (growN F k).length ≤ 32 * k
  | 0, _ => by simp [growN]
  | k + 1, hk => by
    rw [growN_succ F k (by omega)]
    have h1 := foldlG_len (lt := ltS) (extV F[k]) (growN F k)
    have h2 := extV_len F[k]
    have h3 := (shape_len (hF _ (List.getElem_mem (by omega : k < F.length)))).2
    have := growN_len F hF k (by omega)
    omega
theorem fixV_len (k : Nat) : (fixV k).length ≤ 32 ^ k := by
  induction k with
  | zero => simp [fixV]
  | succ k ih =>
    have := growN_len (fixV k) (fixV_fine k).2 (fixV k).length (Nat.le_refl _)
    show (growN _ _).length ≤ _
    rw [Nat.pow_succ]
    omega
/-- The numbers that the walks meet: small cells. -/
theorem sidesV_small {c : C} (h : onB c = true) : ∀ d ∈ sidesV c, -1 ≤ d.1 ∧ d.1 ≤ 8 ∧ -1 ≤ d.2 ∧ d.2 ≤ 8 := by
  simp [onB] at h
  intro d hd
  simp only [sidesV, List.mem_cons, List.not_mem_nil, or_false] at hd
  rcases hd with rfl | rfl | rfl | rfl <;> (simp only; omega)
theorem app_small {s : List C} (hs : isShape s = true) {d : C} (hd : -1 ≤ d.1 ∧ d.1 ≤ 8 ∧ -1 ≤ d.2 ∧ d.2 ≤ 8) : ∀ c ∈ s ++ [d], small c := by
  intro c hc
  rcases List.mem_append.1 hc with h | h
  · exact shape_small hs c h
  · simp only [List.mem_singleton] at h
    subst h
    unfold small
    omega
end Go.Proofs.Yteelmhmdnljjnaa
