/- The places around a shape: plain functions. No program is in sight. -/
import Derived.Test.YtcgohceakjjlhaaFixM
namespace Go.Proofs.Ytcgohceakjjlhaa
open Go.RowKit
set_option linter.unusedVariables false
theorem hasC_mem (s : List C) (c : C) : hasC s c.1 c.2 = true ↔ c ∈ s := by
  obtain ⟨x, y⟩ := c
  simp only [hasC, List.any_eq_true, Bool.and_eq_true, beq_iff_eq]
  constructor
  · rintro ⟨⟨a, b⟩, h, rfl, rfl⟩; exact h
  · intro h; exact ⟨_, h, rfl, rfl⟩
/-- The list with one place more, if it is new and none of the shape's. -/
def nbStep (s l : List C) (d : C) : List C := if hasC s d.1 d.2 then l else if hasC l d.1 d.2 then l else l ++ [d]
def nbTo (f : C → List C) (s : List C) (k : Nat) : List C := ((s.take k).flatMap f).foldl (nbStep s) []
theorem nbTo_succ (f : C → List C) (s : List C) (k : Nat) (hk : k < s.length) : nbTo f s (k + 1) = (f s[k]).foldl (nbStep s) (nbTo f s k) := by
  unfold nbTo
  rw [List.take_succ_eq_append_getElem hk, List.flatMap_append, List.foldl_append]
  congr 1
  simp
/-- How many places lie around a shape. -/
def nbN (s : List C) : Int := if isShape s then ((nbTo sidesS s s.length).length : Nat) else -1
theorem nbStep_good (s l : List C) (d : C) (h : l.Nodup) : (nbStep s l d).Nodup ∧ (∀ x, x ∈ nbStep s l d ↔ x ∈ l ∨ (x = d ∧ hasC s d.1 d.2 = false)) ∧ (nbStep s l d).length ≤ l.length + 1 := by
  unfold nbStep
  cases h1 : hasC s d.1 d.2 with
  | true => simp [h]
  | false =>
    cases h2 : hasC l d.1 d.2 with
    | true =>
      have hm := (hasC_mem _ _).1 h2
      refine ⟨by simpa using h, fun x => ?_, by simp⟩
      simp only [if_true, Bool.false_eq_true, if_false]
      constructor
      · exact .inl
      · rintro (hx | ⟨rfl, _⟩)
        · exact hx
        · exact hm
    | false =>
      have hm : d ∉ l := fun hm => by rw [(hasC_mem _ _).2 hm] at h2; cases h2
      refine ⟨?_, fun x => by simp, by simp⟩
      simp only [Bool.false_eq_true, if_false]
      rw [List.nodup_append]
      exact ⟨h, by simp, fun a ha b hb => by simp at hb; subst hb; exact fun e => hm (e ▸ ha)⟩
theorem foldNb_good (s : List C) : ∀ (ds l : List C), l.Nodup → (ds.foldl (nbStep s) l).Nodup ∧ (∀ x, x ∈ ds.foldl (nbStep s) l ↔ x ∈ l ∨ (x ∈ ds ∧ hasC s x.1 x.2 = false)) ∧ (ds.foldl (nbStep s) l).length ≤ l.length + ds.length
  | [], l, h => by simp [h]
  | d :: ds, l, h => by
    obtain ⟨h1, h2, h3⟩ := nbStep_good s l d h
    obtain ⟨k1, k2, k3⟩ := foldNb_good s ds _ h1
    refine ⟨k1, fun x => ?_, by simp only [List.foldl_cons, List.length_cons]; omega⟩
    simp only [List.foldl_cons, List.mem_cons]
    rw [k2, h2]
    constructor
    · rintro ((hx | ⟨rfl, hx⟩) | ⟨hx, hy⟩)
      · exact .inl hx
      · exact .inr ⟨.inl rfl, hx⟩
      · exact .inr ⟨.inr hx, hy⟩
    · rintro (hx | ⟨rfl | hx, hy⟩)
      · exact .inl (.inl hx)
      · exact .inl (.inr ⟨rfl, hy⟩)
      · exact .inr ⟨hx, hy⟩
theorem nodup_le : ∀ (a b : List C), a.Nodup → (∀ x ∈ a, x ∈ b) → a.length ≤ b.length
  | [], b, _, _ => Nat.zero_le _
  | x :: a, b, h, hs => by
    have hx : x ∈ b := hs x (by simp)
    have h1 := List.nodup_cons.1 h
    have h2 := nodup_le a (b.erase x) h1.2 (fun y hy => (List.mem_erase_of_ne (fun (e : y = x) => h1.1 (e ▸ hy))).2 (hs y (by simp [hy])))
    have h3 := List.length_erase_of_mem hx
    have h4 : 0 < b.length := List.length_pos_of_mem hx
    simp only [List.length_cons]
    omega
theorem nb_same (s : List C) (k : Nat) : (nbTo sidesV s k).length = (nbTo sidesS s k).length := by
  obtain ⟨a1, a2, _⟩ := foldNb_good s ((s.take k).flatMap sidesV) [] (by simp)
  obtain ⟨b1, b2, _⟩ := foldNb_good s ((s.take k).flatMap sidesS) [] (by simp)
  have hm : ∀ x, x ∈ nbTo sidesV s k ↔ x ∈ nbTo sidesS s k := by
    intro x
    unfold nbTo
    rw [a2, b2]
    simp only [List.mem_flatMap, sides_same]
  exact Nat.le_antisymm (nodup_le _ _ a1 fun x hx => (hm x).1 hx) (nodup_le _ _ b1 fun x hx => (hm x).2 hx)
theorem nbTo_len (f : C → List C) (hf : ∀ c, (f c).length = 4) (s : List C) : ∀ k, k ≤ s.length → (nbTo f s k).length ≤ 4 * k
  | 0, _ => by simp [nbTo]
  | k + 1, h => by
    have hk : k < s.length := h
    have h0 := (foldNb_good s ((s.take k).flatMap f) [] (by simp)).1
    have h1 := (foldNb_good s (f s[k]) (nbTo f s k) h0).2.2
    have h2 := nbTo_len f hf s k (by omega)
    rw [nbTo_succ f s k hk]
    have := hf s[k]
    omega
/-- One shape counted in a table. -/
def tabStep (o : List Int) (s : List C) : List Int := o.set (nbN s).toNat (o.getD (nbN s).toNat 0 + 1)
def tabTo (F : List (List C)) (i : Nat) : List Int := (F.take i).foldl tabStep (List.replicate 13 0)
def tabV (F : List (List C)) : List Int := if F = [] then [] else tabTo F F.length
theorem tabTo_succ (F : List (List C)) (i : Nat) (h : i < F.length) : tabTo F (i + 1) = tabStep (tabTo F i) F[i] := by
  unfold tabTo
  rw [List.take_succ_eq_append_getElem h, List.foldl_append]
  rfl
theorem tabTo_len (F : List (List C)) : ∀ i, i ≤ F.length → (tabTo F i).length = 13
  | 0, _ => by simp [tabTo]
  | i + 1, h => by rw [tabTo_succ F i h]; unfold tabStep; rw [List.length_set]; exact tabTo_len F i (by omega)
theorem tabTo_le (F : List (List C)) : ∀ i, i ≤ F.length → ∀ x ∈ tabTo F i, 0 ≤ x ∧ x ≤ i
  | 0, _ => by simp [tabTo]
  | i + 1, h => by
    intro x hx
    rw [tabTo_succ F i h] at hx
    have ih := tabTo_le F i (by omega)
    unfold tabStep at hx
    rcases List.mem_or_eq_of_mem_set hx with h1 | h1
    · have := ih x h1; omega
    · have h2 : 0 ≤ (tabTo F i).getD (nbN F[i]).toNat 0 ∧ (tabTo F i).getD (nbN F[i]).toNat 0 ≤ i := by
        by_cases hl : (nbN F[i]).toNat < (tabTo F i).length
        · rw [List.getD, List.getElem?_eq_getElem hl]; exact ih _ (List.getElem_mem hl)
        · rw [List.getD, List.getElem?_eq_none (by omega)]; simp
      omega
end Go.Proofs.Ytcgohceakjjlhaa
