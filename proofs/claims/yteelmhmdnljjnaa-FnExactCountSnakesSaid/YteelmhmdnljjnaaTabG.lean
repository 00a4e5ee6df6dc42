/- Tables of shapes by a number: plain functions. No program is in sight. -/
import Derived.Test.YteelmhmdnljjnaaFixM
namespace Go.Proofs.Yteelmhmdnljjnaa
open Go.RowKit
set_option linter.unusedVariables false
/-- One shape counted in a table. -/
def tabStepG (g : List C → Int) (o : List Int) (s : List C) : List Int := o.set (g s).toNat (o.getD (g s).toNat 0 + 1)
def tabToG (g : List C → Int) (F : List (List C)) (i : Nat) : List Int := (F.take i).foldl (tabStepG g) (List.replicate 13 0)
def tabVG (g : List C → Int) (F : List (List C)) : List Int := if F = [] then [] else tabToG g F F.length
theorem tabToG_succ (g : List C → Int) (F : List (List C)) (i : Nat) (h : i < F.length) : tabToG g F (i + 1) = tabStepG g (tabToG g F i) F[i] := by
  unfold tabToG
  rw [List.take_succ_eq_append_getElem h, List.foldl_append]
  rfl
theorem tabToG_len (g : List C → Int) (F : List (List C)) : ∀ i, i ≤ F.length → (tabToG g F i).length = 13
  | 0, _ => by simp [tabToG]
  | i + 1, h => by rw [tabToG_succ g F i h]; unfold tabStepG; rw [List.length_set]; exact tabToG_len g F i (by omega)
theorem tabToG_le (g : List C → Int) (F : List (List C)) : ∀ i, i ≤ F.length → ∀ x ∈ tabToG g F i, 0 ≤ x ∧ x ≤ i
  | 0, _ => by simp [tabToG]
  | i + 1, h => by
    intro x hx
    rw [tabToG_succ g F i h] at hx
    have ih := tabToG_le g F i (by omega)
    unfold tabStepG at hx
    rcases List.mem_or_eq_of_mem_set hx with h1 | h1
    · have := ih x h1; omega
    · have h2 : 0 ≤ (tabToG g F i).getD (g F[i]).toNat 0 ∧ (tabToG g F i).getD (g F[i]).toNat 0 ≤ i := by
        by_cases hl : (g F[i]).toNat < (tabToG g F i).length
        · rw [List.getD, List.getElem?_eq_getElem hl]; exact ih _ (List.getElem_mem hl)
        · rw [List.getD, List.getElem?_eq_none (by omega)]; simp
      omega
end Go.Proofs.Yteelmhmdnljjnaa
