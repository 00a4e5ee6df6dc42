/- Numbers in order, each once: the program's way and the reference's way come to one list. No program is in sight. -/
import Derived.Test.YteelmhmdnljjnaaGreatPut7
namespace Go.Proofs.YteelmhmdnljjnaaGreat
open Go.RowKit
set_option linter.unusedVariables false
abbrev Inc (l : List Int) : Prop := l.Pairwise (· < ·)
theorem inc_eq : ∀ (a b : List Int), Inc a → Inc b → (∀ x, x ∈ a ↔ x ∈ b) → a = b
  | [], [], _, _, _ => rfl
  | [], y :: t, _, _, h => absurd ((h y).2 (by simp)) (by simp)
  | x :: s, [], _, _, h => absurd ((h x).1 (by simp)) (by simp)
  | x :: s, y :: t, ha, hb, h => by
    obtain ⟨a1, a2⟩ := List.pairwise_cons.1 ha
    obtain ⟨b1, b2⟩ := List.pairwise_cons.1 hb
    have hxy : x = y := by
      rcases Int.lt_trichotomy x y with h1 | h1 | h1
      · rcases List.mem_cons.1 ((h x).1 (by simp)) with h2 | h2
        · exact h2
        · have := b1 x h2; omega
      · exact h1
      · rcases List.mem_cons.1 ((h y).2 (by simp)) with h2 | h2
        · exact h2.symm
        · have := a1 y h2; omega
    subst hxy
    congr 1
    refine inc_eq s t a2 b2 fun z => ⟨fun hz => ?_, fun hz => ?_⟩
    · rcases List.mem_cons.1 ((h z).1 (by simp [hz])) with h2 | h2
      · have := a1 z hz; omega
      · exact h2
    · rcases List.mem_cons.1 ((h z).2 (by simp [hz])) with h2 | h2
      · have := b1 z hz; omega
      · exact h2
theorem cutTo_above (l : List Int) (n : Int) : ∀ k, k ≤ l.length → ∀ i, cutTo l n k ≤ i → i < k → n < l.getD i 0
  | 0, _, i, _, h => absurd h (by omega)
  | k + 1, hk, i, hc, hi => by
    unfold cutTo at hc
    split at hc
    · next h =>
      rcases Nat.lt_or_ge i k with h1 | h1
      · exact cutTo_above l n k (by omega) i hc h1
      · obtain rfl : i = k := by omega
        exact h
    · omega
theorem cutTo_at (l : List Int) (n : Int) : ∀ k, 0 < cutTo l n k → l.getD (cutTo l n k - 1) 0 ≤ n
  | 0, h => absurd h (by simp [cutTo])
  | k + 1, h => by
    unfold cutTo at h ⊢
    split
    · next h1 => rw [if_pos h1] at h; exact cutTo_at l n k h
    · next h1 => simpa using h1
theorem inc_get {l : List Int} (h : Inc l) {i j : Nat} (hij : i < j) (hj : j < l.length) : l.getD i 0 < l.getD j 0 := by
  rw [Inc, List.pairwise_iff_getElem] at h
  have := h i j (by omega) hj hij
  simpa [List.getD_eq_getElem?_getD, hj, show i < l.length by omega] using this
theorem putI_inc {l : List Int} (h : Inc l) (n : Int) : Inc (putI l n) ∧ ∀ x, x ∈ putI l n ↔ x ∈ l ∨ x = n := by
  unfold putI
  have hk := cutTo_le l n l.length
  have ha := cutTo_above l n l.length (Nat.le_refl _)
  have hat := cutTo_at l n l.length
  generalize cutTo l n l.length = k at hk ha hat
  split
  · next hc =>
    refine ⟨h, fun x => ⟨.inl, fun hx => ?_⟩⟩
    rcases hx with hx | rfl
    · exact hx
    · rw [← hc.2, List.getD_eq_getElem?_getD, List.getElem?_eq_getElem (by omega)]; exact List.getElem_mem _
  · next hc =>
    have hlt : 0 < k → l.getD (k - 1) 0 < n := fun h0 => by
      have := hat h0
      have hne : l.getD (k - 1) 0 ≠ n := fun e => hc ⟨h0, e⟩
      omega
    have hfront : ∀ x ∈ l.take k, x < n := by
      intro x hx
      obtain ⟨i, hi, rfl⟩ := List.mem_iff_getElem.1 hx
      rw [List.length_take] at hi
      rw [List.getElem_take]
      have h1 := hlt (by omega)
      rcases Nat.lt_or_ge i (k - 1) with h2 | h2
      · have := inc_get h h2 (by omega)
        rw [List.getD_eq_getElem?_getD, List.getElem?_eq_getElem (by omega)] at this
        simp only [Option.getD_some] at this
        omega
      · obtain rfl : i = k - 1 := by omega
        rw [List.getD_eq_getElem?_getD, List.getElem?_eq_getElem (by omega)] at h1
        exact h1
    have hback : ∀ x ∈ l.drop k, n < x := by
      intro x hx
      obtain ⟨i, hi, rfl⟩ := List.mem_iff_getElem.1 hx
      rw [List.length_drop] at hi
      rw [List.getElem_drop]
      have := ha (k + i) (by omega) (by omega)
      rwa [List.getD_eq_getElem?_getD, List.getElem?_eq_getElem (by omega)] at this
    refine ⟨?_, fun x => ?_⟩
    · rw [Inc, List.append_assoc, List.pairwise_append]
      refine ⟨List.Pairwise.sublist (List.take_sublist _ _) h, ?_, fun x hx y hy => ?_⟩
      · rw [List.singleton_append, List.pairwise_cons]
        exact ⟨hback, List.Pairwise.sublist (List.drop_sublist _ _) h⟩
      · have := hfront x hx
        rcases List.mem_append.1 hy with hy | hy
        · simp only [List.mem_singleton] at hy; omega
        · have := hback y hy; omega
    · simp only [List.mem_append, List.mem_singleton]
      constructor
      · rintro ((h1 | h1) | h1)
        · exact .inl (List.mem_of_mem_take h1)
        · exact .inr h1
        · exact .inl (List.mem_of_mem_drop h1)
      · rintro (h1 | h1)
        · rw [← List.take_append_drop k l] at h1
          rcases List.mem_append.1 h1 with h2 | h2
          · exact .inl (.inl h2)
          · exact .inr h2
        · exact .inl (.inr h1)
/-- The reference's way. -/
def putAll (l : List Int) : List Int := l.foldl putI []
theorem foldl_inc : ∀ (l acc : List Int), Inc acc → Inc (l.foldl putI acc) ∧ ∀ x, x ∈ l.foldl putI acc ↔ x ∈ acc ∨ x ∈ l
  | [], acc, h => ⟨h, fun x => by simp⟩
  | a :: t, acc, h => by
    obtain ⟨h1, h2⟩ := putI_inc h a
    obtain ⟨h3, h4⟩ := foldl_inc t (putI acc a) h1
    refine ⟨h3, fun x => ?_⟩
    rw [List.foldl_cons, h4, h2, List.mem_cons]
    constructor
    · rintro ((h | h) | h)
      · exact .inl h
      · exact .inr (.inl h)
      · exact .inr (.inr h)
    · rintro (h | h | h)
      · exact .inl (.inl h)
      · exact .inl (.inr h)
      · exact .inr h
/-- The program's way: sorted, and each but once. -/
def srt (l : List Int) : List Int := l.mergeSort fun x y => decide (x ≤ y)
def keepAt (s : List Int) (i : Nat) : Bool := i == 0 || s.getD (i - 1) 0 != s.getD i 0
def dedTo (s : List Int) : Nat → List Int
  | 0 => []
  | k + 1 => dedTo s k ++ (if keepAt s k then [s.getD k 0] else [])
def ord (l : List Int) : List Int := dedTo (srt l) (srt l).length
theorem srt_len (l : List Int) : (srt l).length = l.length := List.length_mergeSort _
theorem srt_mem (l : List Int) (x : Int) : x ∈ srt l ↔ x ∈ l := List.mem_mergeSort
theorem srt_le (l : List Int) : (srt l).Pairwise (· ≤ ·) := by
  have h := List.pairwise_mergeSort (le := fun x y : Int => decide (x ≤ y)) (fun a b c h1 h2 => by simp at *; omega) (fun a b => by simp; omega) l
  exact h.imp (fun h => by simpa using h)
theorem dedTo_len (s : List Int) (k : Nat) : (dedTo s k).length ≤ k := by
  induction k with
  | zero => simp [dedTo]
  | succ k ih => unfold dedTo; rw [List.length_append]; split <;> simp <;> omega
theorem dedTo_all {s : List Int} (hs : s.Pairwise (· ≤ ·)) : ∀ k, k ≤ s.length → Inc (dedTo s k) ∧ (∀ x, x ∈ dedTo s k ↔ x ∈ s.take k) ∧ ∀ x ∈ dedTo s k, 0 < k ∧ x ≤ s.getD (k - 1) 0
  | 0, _ => ⟨List.Pairwise.nil, fun x => by simp [dedTo], fun x hx => by simp [dedTo] at hx⟩
  | k + 1, hk => by
    obtain ⟨h1, h2, h3⟩ := dedTo_all hs k (by omega)
    have hkl : k < s.length := by omega
    have hg : s.getD k 0 = s[k] := by rw [List.getD_eq_getElem?_getD, List.getElem?_eq_getElem hkl]; rfl
    have hmono : 0 < k → s.getD (k - 1) 0 ≤ s.getD k 0 := fun h0 => by
      rw [List.pairwise_iff_getElem] at hs
      have := hs (k - 1) k (by omega) hkl (by omega)
      rw [hg, List.getD_eq_getElem?_getD, List.getElem?_eq_getElem (by omega)]
      exact this
    unfold dedTo
    rw [List.take_succ_eq_append_getElem hkl]
    cases hka : keepAt s k with
    | true =>
      rw [if_pos rfl, hg]
      refine ⟨?_, fun x => ?_, fun x hx => ⟨by omega, ?_⟩⟩
      · rw [Inc, List.pairwise_append]
        refine ⟨h1, by simp, fun x hx y hy => ?_⟩
        simp only [List.mem_singleton] at hy
        subst hy
        obtain ⟨h0, hle⟩ := h3 x hx
        have := hmono h0
        simp only [keepAt, Bool.or_eq_true, beq_iff_eq, bne_iff_ne, ne_eq] at hka
        rcases hka with h | h
        · omega
        · rw [hg] at this h; omega
      · simp only [List.mem_append, h2 x]
      · simp only [Nat.add_sub_cancel, hg]
        rcases List.mem_append.1 hx with hx | hx
        · obtain ⟨h0, hle⟩ := h3 x hx
          have := hmono h0
          rw [hg] at this; omega
        · simp only [List.mem_singleton] at hx; omega
    | false =>
      simp only [Bool.false_eq_true, if_false, List.append_nil]
      simp only [keepAt, Bool.or_eq_false_iff, beq_eq_false_iff_ne, bne_eq_false_iff_eq, ne_eq] at hka
      refine ⟨h1, fun x => ?_, fun x hx => ⟨by omega, ?_⟩⟩
      · rw [h2 x, List.mem_append, List.mem_singleton]
        refine ⟨.inl, fun h => ?_⟩
        rcases h with h | h
        · exact h
        · rw [h, ← hg, ← hka.2, List.getD_eq_getElem?_getD, List.getElem?_eq_getElem (by omega)]
          simp only [Option.getD_some]
          rw [List.mem_iff_getElem]
          exact ⟨k - 1, by rw [List.length_take]; omega, by rw [List.getElem_take]⟩
      · obtain ⟨h0, hle⟩ := h3 x hx
        have := hmono h0
        simp only [Nat.add_sub_cancel]
        omega
theorem ord_eq (l : List Int) : ord l = putAll l := by
  obtain ⟨h1, h2, _⟩ := dedTo_all (srt_le l) (srt l).length (Nat.le_refl _)
  obtain ⟨h3, h4⟩ := foldl_inc l [] List.Pairwise.nil
  refine inc_eq _ _ h1 h3 fun x => ?_
  unfold putAll
  rw [h4]
  rw [show ord l = dedTo (srt l) (srt l).length from rfl, h2, List.take_length, srt_mem]
  simp
theorem ord_len (l : List Int) : (ord l).length ≤ l.length := Nat.le_trans (dedTo_len (srt l) _) (Nat.le_of_eq (srt_len l))
end Go.Proofs.YteelmhmdnljjnaaGreat
