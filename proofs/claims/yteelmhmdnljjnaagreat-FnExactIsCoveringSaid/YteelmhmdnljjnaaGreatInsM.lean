/- Insertion sort by exchanges of neighbours, on lists. No program is in sight. -/
import Derived.Test.YteelmhmdnljjnaaGreatOrdG
namespace Go.Proofs.YteelmhmdnljjnaaGreat
open Go.RowKit
set_option linter.unusedVariables false
section
variable {α : Type} [Inhabited α] {lt : α → α → Bool}
/-- The elements at i and j exchanged. -/
def swL (l : List α) (i j : Nat) : List α := (l.set i (l.getD j default)).set j (l.getD i default)
theorem swL_len (l : List α) (i j : Nat) : (swL l i j).length = l.length := by simp [swL]
theorem getD_in (l : List α) {i : Nat} (h : i < l.length) : l.getD i default = l[i] := by rw [List.getD_eq_getElem?_getD, List.getElem?_eq_getElem h]; rfl
theorem swL_get (l : List α) {i j : Nat} (hi : i < l.length) (hj : j < l.length) (k : Nat) : (swL l i j).getD k default = if k = j then l.getD i default else if k = i then l.getD j default else l.getD k default := by
  unfold swL
  simp only [List.getD_eq_getElem?_getD, List.getElem?_set, List.length_set]
  by_cases h1 : j = k
  · subst h1
    simp [hj]
  · simp only [if_neg h1]
    rw [if_neg (Ne.symm h1)]
    by_cases h2 : i = k
    · subst h2
      simp [hi]
    · simp only [if_neg h2]
      rw [if_neg (Ne.symm h2)]
theorem swL_mem (l : List α) {i j : Nat} (hi : i < l.length) (hj : j < l.length) (x : α) : x ∈ swL l i j ↔ x ∈ l := by
  have key : ∀ (l : List α) (i j : Nat), i < l.length → j < l.length → x ∈ swL l i j → x ∈ l := by
    intro l i j hi hj h
    obtain ⟨k, hk, rfl⟩ := List.mem_iff_getElem.1 h
    rw [← getD_in _ hk, swL_get l hi hj]
    split
    · exact getD_mem hi
    · split
      · exact getD_mem hj
      · exact getD_mem (by rw [swL_len] at hk; exact hk)
  refine ⟨key l i j hi hj, fun h => ?_⟩
  obtain ⟨k, hk, rfl⟩ := List.mem_iff_getElem.1 h
  rw [← getD_in _ hk]
  have hm : ∀ q, q < l.length → (swL l i j).getD q default ∈ swL l i j := fun q hq => getD_mem (by rw [swL_len]; exact hq)
  by_cases h1 : k = i
  · subst h1
    have := hm j hj
    rwa [swL_get l hi hj, if_pos rfl] at this
  · by_cases h2 : k = j
    · subst h2
      have := hm i hi
      rw [swL_get l hi hj] at this
      by_cases h3 : i = k
      · exact absurd h3.symm h1
      · rwa [if_neg h3, if_pos rfl] at this
    · have := hm k hk
      rwa [swL_get l hi hj, if_neg h2, if_neg h1] at this
/-- The first i + 1 elements are in order but for the one at j, that may be less than some ahead of it. -/
def NearO (lt : α → α → Bool) (l : List α) (i j : Nat) : Prop := ∀ a b, a < b → b ≤ i → b ≠ j → lt (l.getD b default) (l.getD a default) = false
def OrdTo (lt : α → α → Bool) (l : List α) (i : Nat) : Prop := ∀ a b, a < b → b < i → lt (l.getD b default) (l.getD a default) = false
theorem OrdTo.start (l : List α) : OrdTo lt l 1 := fun a b h1 h2 => by omega
theorem OrdTo.near {l : List α} {i : Nat} (h : OrdTo lt l i) : NearO lt l i i := fun a b h1 h2 h3 => h a b h1 (by omega)
theorem NearO.zero {l : List α} {i : Nat} (h : NearO lt l i 0) : OrdTo lt l (i + 1) := fun a b h1 h2 => h a b h1 (by omega) (by omega)
theorem NearO.stop (hO : STO lt) {l : List α} {i j : Nat} (h : NearO lt l i (j + 1)) (hji : j + 1 ≤ i) (hl : lt (l.getD (j + 1) default) (l.getD j default) = false) : OrdTo lt l (i + 1) := by
  intro a b h1 h2
  by_cases hb : b = j + 1
  · subst hb
    by_cases ha : a = j
    · subst ha; exact hl
    · have h3 := h a j (by omega) (by omega) (by omega)
      cases hc : lt (l.getD (j + 1) default) (l.getD a default) with
      | false => rfl
      | true =>
        exfalso
        cases hd : lt (l.getD a default) (l.getD j default) with
        | true => rw [hO.trans hc hd] at hl; cases hl
        | false => rw [hO.tot hd h3] at hc; rw [hc] at hl; cases hl
  · exact h a b h1 (by omega) hb
theorem NearO.step (hO : STO lt) {l : List α} {i j : Nat} (h : NearO lt l i (j + 1)) (hji : j + 1 ≤ i) (hil : i < l.length) (hl : lt (l.getD (j + 1) default) (l.getD j default) = true) : NearO lt (swL l (j + 1) j) i j := by
  have hj1 : j + 1 < l.length := by omega
  have hj : j < l.length := by omega
  intro a b h1 h2 h3
  rw [swL_get l hj1 hj, swL_get l hj1 hj, if_neg h3]
  by_cases hb : b = j + 1
  · rw [if_pos hb]
    by_cases ha : a = j
    · rw [if_pos ha]; exact hO.asym hl
    · rw [if_neg ha, if_neg (by omega)]
      exact h a j (by omega) (by omega) (by omega)
  · rw [if_neg hb]
    by_cases ha : a = j
    · rw [if_pos ha]
      exact h (j + 1) b (by omega) h2 hb
    · rw [if_neg ha]
      by_cases ha2 : a = j + 1
      · rw [if_pos ha2]
        exact h j b (by omega) h2 hb
      · rw [if_neg ha2]
        exact h a b h1 h2 hb
theorem OrdTo.done {l : List α} (h : OrdTo lt l l.length) : l.Pairwise (fun a b => lt b a = false) := by
  rw [List.pairwise_iff_getElem]
  intro i j hi hj hij
  have := h i j hij hj
  rwa [getD_in l hj, getD_in l hi] at this
end
end Go.Proofs.YteelmhmdnljjnaaGreat
