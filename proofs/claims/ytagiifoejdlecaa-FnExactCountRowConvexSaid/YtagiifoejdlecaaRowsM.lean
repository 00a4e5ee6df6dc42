/- Row-convex shapes, counted by rows: a plain function, and what a table holds on the way. No program is in sight. -/
import Derived.Test.YtagiifoejdlecaaKit
import Derived.IntWalk
namespace Go.Proofs.Ytagiifoejdlecaa
open Go.RowKit
set_option linter.unusedVariables false

/-- The ways of c cells whose top row has t, so many lower rows reckoned. -/
def rcG (T : Nat → Nat → Int) (c t : Nat) : Nat → Int
  | 0 => if t = c then 1 else 0
  | k + 1 => wrap64 (rcG T c t k + wrap64 (((t : Int) + ((k : Int) + 1) - 1) * T (c - t) (k + 1)))
def rcT : Nat → Nat → Nat → Int
  | 0 => fun _ _ => 0
  | c + 1 => fun c' t => if c' = c then rcG (rcT c) c t (c - t) else rcT c c' t
def rcS (T : Nat → Nat → Int) (c : Nat) : Nat → Int
  | 0 => 0
  | t + 1 => wrap64 (rcS T c t + rcG T c (t + 1) (c - (t + 1)))
def rowConvex (n : Nat) : Int := rcS (rcT n) n n
/-- A table of 13 rows of 13: the rows ahead of c are done, and those ahead of t in row c. -/
structure TabI (xs : List Int) (c t : Nat) : Prop where
  len : xs.length = 169
  done : ∀ c' t', 1 ≤ c' → c' < c → 1 ≤ t' → t' ≤ c' → xs[c' * 13 + t']? = some (rcT c c' t')
  row : ∀ t', 1 ≤ t' → t' < t → xs[c * 13 + t']? = some (rcG (rcT c) c t' (c - t'))
  rest : ∀ c' t', c' ≤ 12 → t' ≤ 12 → (c < c' ∨ c' = c ∧ t ≤ t') → xs[c' * 13 + t']? = some 0
theorem TabI.zero : TabI (List.replicate 169 0) 1 1 := by
  refine ⟨List.length_replicate, fun c' t' h1 h2 _ _ => by omega, fun t' h1 h2 => by omega, fun c' t' h1 h2 _ => ?_⟩
  rw [List.getElem?_replicate, if_pos (by omega)]
theorem TabI.step {xs : List Int} {c t : Nat} (h : TabI xs c t) (h1 : 1 ≤ t) (h2 : t ≤ c) (h3 : c ≤ 12) : TabI (xs.set (c * 13 + t) (rcG (rcT c) c t (c - t))) c (t + 1) := by
  refine ⟨by rw [List.length_set]; exact h.len, fun c' t' a1 a2 a3 a4 => ?_, fun t' a1 a2 => ?_, fun c' t' a1 a2 a3 => ?_⟩
  · rw [List.getElem?_set_ne (by omega)]; exact h.done c' t' a1 a2 a3 a4
  · rcases Nat.lt_or_ge t' t with h4 | h4
    · rw [List.getElem?_set_ne (by omega)]; exact h.row t' a1 h4
    · obtain rfl : t' = t := by omega
      rw [List.getElem?_set_self (by rw [h.len]; omega)]
  · rw [List.getElem?_set_ne (by omega)]; exact h.rest c' t' a1 a2 (by omega)
theorem TabI.next {xs : List Int} {c : Nat} (h : TabI xs c (c + 1)) : TabI xs (c + 1) 1 := by
  refine ⟨h.len, fun c' t' a1 a2 a3 a4 => ?_, fun t' a1 a2 => by omega, fun c' t' a1 a2 a3 => h.rest c' t' a1 a2 (by omega)⟩
  rcases Nat.lt_or_ge c' c with h4 | h4
  · rw [h.done c' t' a1 h4 a3 a4]
    simp only [rcT]
    rw [if_neg (by omega)]
  · obtain rfl : c' = c := by omega
    rw [h.row t' a3 (by omega)]
    simp only [rcT]
    rw [if_pos trivial]
/-- What the inner loop finds: the row above, not the place that it writes. -/
theorem TabI.above {xs : List Int} {c t k : Nat} (h : TabI xs c t) (v : Int) (h1 : 1 ≤ t) (h2 : t ≤ c) (h3 : c ≤ 12) (h4 : 1 ≤ k) (h5 : k ≤ c - t) :
    (xs.set (c * 13 + t) v)[(c - t) * 13 + k]? = some (rcT c (c - t) k) := by
  rw [List.getElem?_set_ne (by omega)]
  exact h.done _ _ (by omega) (by omega) h4 h5
theorem TabI.self {xs : List Int} {c t : Nat} (h : TabI xs c t) (h1 : t ≤ c) (h3 : c ≤ 12) : xs.set (c * 13 + t) 0 = xs := by
  apply List.ext_getElem?
  intro i
  rw [List.getElem?_set]
  split
  · next e =>
    subst e
    rw [if_pos (by rw [h.len]; omega)]
    exact (h.rest c t h3 (by omega) (.inr ⟨rfl, Nat.le_refl _⟩)).symm
  · rfl
/-- The reference's table: rows of their own. -/
def ent (R : List (List Int)) (c t : Nat) : Option Int := R[c]?.bind fun r => r[t]?
structure TabS (m : Nat) (R : List (List Int)) (c t : Nat) : Prop where
  len : R.length = m + 1
  wid : ∀ i (h : i < R.length), R[i].length = m + 1
  done : ∀ c' t', 1 ≤ c' → c' < c → 1 ≤ t' → t' ≤ c' → ent R c' t' = some (rcT c c' t')
  row : ∀ t', 1 ≤ t' → t' < t → ent R c t' = some (rcG (rcT c) c t' (c - t'))
theorem TabS.zero (m : Nat) : TabS m (List.replicate (m + 1) (List.replicate (m + 1) 0)) 1 1 :=
  ⟨List.length_replicate, fun i h => by simp, fun c' t' h1 h2 _ _ => by omega, fun t' h1 h2 => by omega⟩
theorem ent_set (R : List (List Int)) (c t : Nat) (v : Int) (hc : c < R.length) (c' t' : Nat) (h : c' ≠ c ∨ t' ≠ t) : ent (R.set c (R[c].set t v)) c' t' = ent R c' t' := by
  unfold ent
  by_cases e : c' = c
  · subst e
    rw [List.getElem?_set_self hc, List.getElem?_eq_getElem hc]
    simp only [Option.bind_some]
    rw [List.getElem?_set_ne (by omega)]
  · rw [List.getElem?_set_ne (by omega)]
theorem ent_self (R : List (List Int)) (c t : Nat) (v : Int) (hc : c < R.length) (ht : t < R[c].length) : ent (R.set c (R[c].set t v)) c t = some v := by
  unfold ent
  rw [List.getElem?_set_self hc]
  simp only [Option.bind_some]
  rw [List.getElem?_set_self ht]
theorem TabS.step {m : Nat} {R : List (List Int)} {c t : Nat} (h : TabS m R c t) (h1 : 1 ≤ t) (h2 : t ≤ c) (h3 : c ≤ m) (hc : c < R.length) :
    TabS m (R.set c (R[c].set t (rcG (rcT c) c t (c - t)))) c (t + 1) := by
  have hw : t < R[c].length := by rw [h.wid c hc]; omega
  refine ⟨by rw [List.length_set]; exact h.len, fun i hi => ?_, fun c' t' a1 a2 a3 a4 => ?_, fun t' a1 a2 => ?_⟩
  · rw [List.length_set] at hi
    by_cases e : c = i
    · subst e; rw [List.getElem_set_self, List.length_set]; exact h.wid _ hi
    · rw [List.getElem_set_ne e]; exact h.wid _ hi
  · rw [ent_set R c t _ hc _ _ (by omega)]; exact h.done c' t' a1 a2 a3 a4
  · rcases Nat.lt_or_ge t' t with h4 | h4
    · rw [ent_set R c t _ hc _ _ (by omega)]; exact h.row t' a1 h4
    · obtain rfl : t' = t := by omega
      exact ent_self R c t' _ hc hw
theorem TabS.next {m : Nat} {R : List (List Int)} {c : Nat} (h : TabS m R c (c + 1)) : TabS m R (c + 1) 1 := by
  refine ⟨h.len, h.wid, fun c' t' a1 a2 a3 a4 => ?_, fun t' a1 a2 => by omega⟩
  rcases Nat.lt_or_ge c' c with h4 | h4
  · rw [h.done c' t' a1 h4 a3 a4]
    simp only [rcT]
    rw [if_neg (by omega)]
  · obtain rfl : c' = c := by omega
    rw [h.row t' a3 (by omega)]
    simp only [rcT]
    rw [if_pos trivial]
end Go.Proofs.Ytagiifoejdlecaa
