/- Lists in a strict order, each element once: the reference's insertion, the program's search, a sorted list without repetitions. No program is in sight. -/
import Derived.Test.YteelmhmdnljjnaaGreatKit
namespace Go.Proofs.YteelmhmdnljjnaaGreat
open Go.RowKit
set_option linter.unusedVariables false
/-- A strict total order. -/
structure STO {α : Type} (lt : α → α → Bool) : Prop where
  irr : ∀ a, lt a a = false
  trans : ∀ {a b c}, lt a b = true → lt b c = true → lt a c = true
  tot : ∀ {a b}, lt a b = false → lt b a = false → a = b
section
variable {α : Type} {lt : α → α → Bool}
abbrev IncG (lt : α → α → Bool) (l : List α) : Prop := l.Pairwise (fun a b => lt a b = true)
theorem STO.asym (h : STO lt) {a b : α} (k : lt a b = true) : lt b a = false := by
  cases hb : lt b a with
  | false => rfl
  | true => rw [← h.irr a, ← h.trans k hb]
theorem incG_eq (h : STO lt) : ∀ (a b : List α), IncG lt a → IncG lt b → (∀ x, x ∈ a ↔ x ∈ b) → a = b
  | [], [], _, _, _ => rfl
  | [], y :: t, _, _, h => absurd ((h y).2 (by simp)) (by simp)
  | x :: s, [], _, _, h => absurd ((h x).1 (by simp)) (by simp)
  | x :: s, y :: t, ha, hb, hm => by
    obtain ⟨a1, a2⟩ := List.pairwise_cons.1 ha
    obtain ⟨b1, b2⟩ := List.pairwise_cons.1 hb
    have hxy : x = y := by
      refine h.tot ?_ ?_
      · rcases List.mem_cons.1 ((hm y).2 (by simp)) with h2 | h2
        · rw [← h2]; exact h.irr _
        · cases he : lt x y with
          | false => rfl
          | true =>
            rcases List.mem_cons.1 ((hm x).1 (by simp)) with h3 | h3
            · rw [h3] at he; rw [h.irr] at he; cases he
            · have := b1 x h3; rw [h.asym this] at he; cases he
      · rcases List.mem_cons.1 ((hm y).2 (by simp)) with h2 | h2
        · rw [← h2]; exact h.irr _
        · exact h.asym (a1 y h2)
    subst hxy
    congr 1
    refine incG_eq h s t a2 b2 fun z => ⟨fun hz => ?_, fun hz => ?_⟩
    · rcases List.mem_cons.1 ((hm z).1 (by simp [hz])) with h2 | h2
      · have := a1 z hz; rw [h2, h.irr] at this; cases this
      · exact h2
    · rcases List.mem_cons.1 ((hm z).2 (by simp [hz])) with h2 | h2
      · have := b1 z hz; rw [h2, h.irr] at this; cases this
      · exact h2
/-- An element put between those that are less and those that are greater. -/
theorem ins_inc {l : List α} (h : IncG lt l) (n : α) (k : Nat) (hf : ∀ x ∈ l.take k, lt x n = true) (hb : ∀ x ∈ l.drop k, lt n x = true) :
    IncG lt (l.take k ++ [n] ++ l.drop k) ∧ ∀ x, x ∈ l.take k ++ [n] ++ l.drop k ↔ x ∈ l ∨ x = n := by
  refine ⟨?_, fun x => ?_⟩
  · rw [IncG, List.append_assoc, List.pairwise_append]
    refine ⟨List.Pairwise.sublist (List.take_sublist _ _) h, ?_, fun x hx y hy => ?_⟩
    · rw [List.singleton_append, List.pairwise_cons]
      exact ⟨hb, List.Pairwise.sublist (List.drop_sublist _ _) h⟩
    · rcases List.mem_append.1 hy with hy | hy
      · simp only [List.mem_singleton] at hy; rw [hy]; exact hf x hx
      · rw [← List.take_append_drop k l, IncG, List.pairwise_append] at h
        exact h.2.2 x hx y hy
  · simp only [List.mem_append, List.mem_singleton]
    constructor
    · rintro ((h1 | h1) | h1)
      · exact .inl (List.mem_of_mem_take h1)
      · exact .inr h1
      · exact .inl (List.mem_of_mem_drop h1)
    · rintro (h1 | h1)
      · rw [← List.take_append_drop k l] at h1
        rcases List.mem_append.1 h1 with h2 | h2
        · exact .inl (.inl h2)
        · exact .inr h2
      · exact .inl (.inr h1)
/-- In order, those that are less stand in front. -/
theorem incG_split (hO : STO lt) (n : α) : ∀ {l : List α}, IncG lt l → (∀ x ∈ l.take (l.countP fun x => lt x n), lt x n = true) ∧ (∀ x ∈ l.drop (l.countP fun x => lt x n), lt x n = false)
  | [], _ => by simp
  | a :: t, h => by
    obtain ⟨h1, h2⟩ := List.pairwise_cons.1 h
    obtain ⟨i1, i2⟩ := incG_split hO n h2
    cases ha : lt a n with
    | true =>
      have e : (a :: t).countP (fun x => lt x n) = t.countP (fun x => lt x n) + 1 := by rw [List.countP_cons, if_pos ha]
      rw [e, List.take_succ_cons, List.drop_succ_cons]
      refine ⟨fun x hx => ?_, i2⟩
      rcases List.mem_cons.1 hx with hx | hx
      · rw [hx]; exact ha
      · exact i1 x hx
    | false =>
      have hall : ∀ x ∈ t, lt x n = false := fun x hx => by
        cases hxn : lt x n with
        | false => rfl
        | true => rw [hO.trans (h1 x hx) hxn] at ha; cases ha
      have e : (a :: t).countP (fun x => lt x n) = 0 := by
        rw [List.countP_eq_zero]
        intro x hx
        rcases List.mem_cons.1 hx with hx | hx
        · rw [hx, ha]; simp
        · rw [hall x hx]; simp
      rw [e]
      refine ⟨fun x hx => by simp at hx, fun x hx => ?_⟩
      rcases List.mem_cons.1 hx with hx | hx
      · rw [hx]; exact ha
      · exact hall x hx
end
section
variable {α : Type} [Inhabited α] {lt : α → α → Bool}
/-- How many elements stay ahead of n: counted down from k. -/
def cutG (lt : α → α → Bool) (l : List α) (n : α) : Nat → Nat
  | 0 => 0
  | k + 1 => if lt n (l.getD k default) then cutG lt l n k else k + 1
def putG [DecidableEq α] (lt : α → α → Bool) (l : List α) (n : α) : List α :=
  if 0 < cutG lt l n l.length ∧ l.getD (cutG lt l n l.length - 1) default = n then l else l.take (cutG lt l n l.length) ++ [n] ++ l.drop (cutG lt l n l.length)
/-- The program's way: how many are less. -/
def putB [DecidableEq α] (lt : α → α → Bool) (l : List α) (n : α) : List α :=
  if l.countP (fun x => lt x n) < l.length ∧ l.getD (l.countP fun x => lt x n) default = n then l else l.take (l.countP fun x => lt x n) ++ [n] ++ l.drop (l.countP fun x => lt x n)
theorem cutG_le (l : List α) (n : α) (k : Nat) : cutG lt l n k ≤ k := by
  induction k with
  | zero => exact Nat.le_refl _
  | succ k ih => unfold cutG; split <;> omega
theorem cutG_above (l : List α) (n : α) : ∀ k, k ≤ l.length → ∀ i, cutG lt l n k ≤ i → i < k → lt n (l.getD i default) = true
  | 0, _, i, _, h => absurd h (by omega)
  | k + 1, hk, i, hc, hi => by
    unfold cutG at hc
    split at hc
    · next h =>
      rcases Nat.lt_or_ge i k with h1 | h1
      · exact cutG_above l n k (by omega) i hc h1
      · obtain rfl : i = k := by omega
        exact h
    · omega
theorem cutG_at (l : List α) (n : α) : ∀ k, 0 < cutG lt l n k → lt n (l.getD (cutG lt l n k - 1) default) = false
  | 0, h => absurd h (by simp [cutG])
  | k + 1, h => by
    unfold cutG at h ⊢
    split
    · next h1 => rw [if_pos h1] at h; exact cutG_at l n k h
    · next h1 => simpa using h1
theorem incG_get (hO : STO lt) {l : List α} (h : IncG lt l) {i j : Nat} (hij : i < j) (hj : j < l.length) : lt (l.getD i default) (l.getD j default) = true := by
  rw [IncG, List.pairwise_iff_getElem] at h
  have := h i j (by omega) hj hij
  simpa [List.getD_eq_getElem?_getD, hj, show i < l.length by omega] using this
theorem getD_mem {l : List α} {i : Nat} (h : i < l.length) : l.getD i default ∈ l := by
  rw [List.getD_eq_getElem?_getD, List.getElem?_eq_getElem h]; exact List.getElem_mem _
theorem putG_inc [DecidableEq α] (hO : STO lt) {l : List α} (h : IncG lt l) (n : α) : IncG lt (putG lt l n) ∧ ∀ x, x ∈ putG lt l n ↔ x ∈ l ∨ x = n := by
  unfold putG
  have hk := cutG_le (lt := lt) l n l.length
  have ha := cutG_above (lt := lt) l n l.length (Nat.le_refl _)
  have hat := cutG_at (lt := lt) l n l.length
  generalize cutG lt l n l.length = k at hk ha hat
  split
  · next hc =>
    refine ⟨h, fun x => ⟨.inl, fun hx => ?_⟩⟩
    rcases hx with hx | rfl
    · exact hx
    · rw [← hc.2]; exact getD_mem (by omega)
  · next hc =>
    have hlt : 0 < k → lt (l.getD (k - 1) default) n = true := fun h0 => by
      cases he : lt (l.getD (k - 1) default) n with
      | true => rfl
      | false => exact absurd ⟨h0, hO.tot he (hat h0)⟩ hc
    refine ins_inc h n k (fun x hx => ?_) (fun x hx => ?_)
    · obtain ⟨i, hi, rfl⟩ := List.mem_iff_getElem.1 hx
      rw [List.length_take] at hi
      rw [List.getElem_take]
      have h1 := hlt (by omega)
      have e : l[i]'(by omega) = l.getD i default := by rw [List.getD_eq_getElem?_getD, List.getElem?_eq_getElem (by omega)]; rfl
      rw [e]
      rcases Nat.lt_or_ge i (k - 1) with h2 | h2
      · exact hO.trans (incG_get hO h h2 (by omega)) h1
      · obtain rfl : i = k - 1 := by omega
        exact h1
    · obtain ⟨i, hi, rfl⟩ := List.mem_iff_getElem.1 hx
      rw [List.length_drop] at hi
      rw [List.getElem_drop]
      have := ha (k + i) (by omega) (by omega)
      rwa [List.getD_eq_getElem?_getD, List.getElem?_eq_getElem (by omega)] at this
theorem putB_inc [DecidableEq α] (hO : STO lt) {l : List α} (h : IncG lt l) (n : α) : IncG lt (putB lt l n) ∧ ∀ x, x ∈ putB lt l n ↔ x ∈ l ∨ x = n := by
  unfold putB
  obtain ⟨h1, h2⟩ := incG_split hO n h
  have hk : l.countP (fun x => lt x n) ≤ l.length := List.countP_le_length
  generalize l.countP (fun x => lt x n) = k at h1 h2 hk
  split
  · next hc =>
    refine ⟨h, fun x => ⟨.inl, fun hx => ?_⟩⟩
    rcases hx with hx | rfl
    · exact hx
    · rw [← hc.2]; exact getD_mem hc.1
  · next hc =>
    refine ins_inc h n k h1 fun x hx => ?_
    cases hnx : lt n x with
    | true => rfl
    | false =>
      have e : x = n := hO.tot (h2 x hx) hnx
      exfalso
      apply hc
      have hkl : k < l.length := by
        rcases Nat.lt_or_ge k l.length with hl | hl
        · exact hl
        · rw [List.drop_of_length_le hl] at hx; cases hx
      refine ⟨hkl, ?_⟩
      have e0 : l.getD k default = l[k] := by rw [List.getD_eq_getElem?_getD, List.getElem?_eq_getElem hkl]; rfl
      rw [e0]
      rw [List.drop_eq_getElem_cons hkl] at hx
      rcases List.mem_cons.1 hx with hx | hx
      · rw [← e]; exact hx.symm
      · obtain ⟨i, hi, hxi⟩ := List.mem_iff_getElem.1 hx
        rw [List.length_drop] at hi
        rw [List.getElem_drop] at hxi
        rw [IncG, List.pairwise_iff_getElem] at h
        have := h k (k + 1 + i) hkl (by omega) (by omega)
        rw [hxi, e] at this
        have hk2 := h2 l[k] (by rw [List.drop_eq_getElem_cons hkl]; exact List.mem_cons_self)
        rw [this] at hk2
        cases hk2
theorem putB_eq [DecidableEq α] (hO : STO lt) {l : List α} (h : IncG lt l) (n : α) : putB lt l n = putG lt l n := by
  obtain ⟨a1, a2⟩ := putB_inc hO h n
  obtain ⟨b1, b2⟩ := putG_inc hO h n
  exact incG_eq hO _ _ a1 b1 fun x => by rw [a2, b2]
theorem foldlG_inc [DecidableEq α] (hO : STO lt) : ∀ (l acc : List α), IncG lt acc → IncG lt (l.foldl (putG lt) acc) ∧ ∀ x, x ∈ l.foldl (putG lt) acc ↔ x ∈ acc ∨ x ∈ l
  | [], acc, h => ⟨h, fun x => by simp⟩
  | a :: t, acc, h => by
    obtain ⟨h1, h2⟩ := putG_inc hO h a
    obtain ⟨h3, h4⟩ := foldlG_inc hO t (putG lt acc a) h1
    refine ⟨h3, fun x => ?_⟩
    rw [List.foldl_cons, h4, h2, List.mem_cons]
    constructor
    · rintro ((h | h) | h)
      · exact .inl h
      · exact .inr (.inl h)
      · exact .inr (.inr h)
    · rintro (h | h | h)
      · exact .inl (.inl h)
      · exact .inl (.inr h)
      · exact .inr h
/-- The reference's way: each put in its place. -/
def sortG [DecidableEq α] (lt : α → α → Bool) (l : List α) : List α := l.foldl (putG lt) []
theorem sortG_inc [DecidableEq α] (hO : STO lt) (l : List α) : IncG lt (sortG lt l) ∧ ∀ x, x ∈ sortG lt l ↔ x ∈ l := by
  obtain ⟨h1, h2⟩ := foldlG_inc hO l [] List.Pairwise.nil
  exact ⟨h1, fun x => by rw [sortG, h2]; simp⟩
/-- The program's way: sorted, then each but once. -/
def keepG [DecidableEq α] (s : List α) (i : Nat) : Bool := i == 0 || s.getD (i - 1) default != s.getD i default
def dedG [DecidableEq α] (s : List α) : Nat → List α
  | 0 => []
  | k + 1 => dedG s k ++ (if keepG s k then [s.getD k default] else [])
theorem dedG_len [DecidableEq α] (s : List α) (k : Nat) : (dedG s k).length ≤ k := by
  induction k with
  | zero => simp [dedG]
  | succ k ih => unfold dedG; rw [List.length_append]; split <;> simp <;> omega
theorem dedG_all [DecidableEq α] (hO : STO lt) {s : List α} (hs : s.Pairwise (fun a b => lt b a = false)) : ∀ k, k ≤ s.length → IncG lt (dedG s k) ∧ (∀ x, x ∈ dedG s k ↔ x ∈ s.take k) ∧ ∀ x ∈ dedG s k, 0 < k ∧ lt (s.getD (k - 1) default) x = false
  | 0, _ => ⟨List.Pairwise.nil, fun x => by simp [dedG], fun x hx => by simp [dedG] at hx⟩
  | k + 1, hk => by
    obtain ⟨h1, h2, h3⟩ := dedG_all hO hs k (by omega)
    have hkl : k < s.length := by omega
    have hg : s.getD k default = s[k] := by rw [List.getD_eq_getElem?_getD, List.getElem?_eq_getElem hkl]; rfl
    have hmono : 0 < k → lt (s.getD k default) (s.getD (k - 1) default) = false := fun h0 => by
      rw [List.pairwise_iff_getElem] at hs
      have := hs (k - 1) k (by omega) hkl (by omega)
      rw [hg, List.getD_eq_getElem?_getD, List.getElem?_eq_getElem (by omega)]
      exact this
    -- what is not above the last one is not above the next
    have hnext : ∀ x, 0 < k → lt (s.getD (k - 1) default) x = false → lt (s.getD k default) x = false := fun x h0 hx => by
      cases he : lt (s.getD k default) x with
      | false => rfl
      | true =>
        exfalso
        have hm := hmono h0
        cases hy : lt (s.getD (k - 1) default) (s.getD k default) with
        | true => rw [hO.trans hy he] at hx; cases hx
        | false => rw [hO.tot hy hm] at hx; rw [hx] at he; cases he
    unfold dedG
    rw [List.take_succ_eq_append_getElem hkl]
    cases hka : keepG s k with
    | true =>
      rw [if_pos rfl, hg]
      refine ⟨?_, fun x => ?_, fun x hx => ⟨by omega, ?_⟩⟩
      · rw [IncG, List.pairwise_append]
        refine ⟨h1, by simp, fun x hx y hy => ?_⟩
        simp only [List.mem_singleton] at hy
        subst hy
        obtain ⟨h0, hle⟩ := h3 x hx
        have hm := hnext x h0 hle
        rw [hg] at hm
        cases hc : lt x s[k] with
        | true => rfl
        | false =>
          exfalso
          have e : x = s[k] := hO.tot hc hm
          simp only [keepG, Bool.or_eq_true, beq_iff_eq, bne_iff_ne, ne_eq] at hka
          rcases hka with h | h
          · omega
          · apply h
            refine hO.tot ?_ (hmono h0)
            rw [hg, ← e]
            exact hle
      · simp only [List.mem_append, h2 x]
      · simp only [Nat.add_sub_cancel]
        rcases List.mem_append.1 hx with hx | hx
        · obtain ⟨h0, hle⟩ := h3 x hx
          exact hnext x h0 hle
        · simp only [List.mem_singleton] at hx
          rw [hx, hg]
          exact hO.irr _
    | false =>
      simp only [Bool.false_eq_true, if_false, List.append_nil]
      simp only [keepG, Bool.or_eq_false_iff, beq_eq_false_iff_ne, bne_eq_false_iff_eq, ne_eq] at hka
      refine ⟨h1, fun x => ?_, fun x hx => ⟨by omega, ?_⟩⟩
      · rw [h2 x, List.mem_append, List.mem_singleton]
        refine ⟨.inl, fun h => ?_⟩
        rcases h with h | h
        · exact h
        · rw [h, ← hg, ← hka.2, List.getD_eq_getElem?_getD, List.getElem?_eq_getElem (by omega)]
          simp only [Option.getD_some]
          rw [List.mem_iff_getElem]
          exact ⟨k - 1, by rw [List.length_take]; omega, by rw [List.getElem_take]⟩
      · obtain ⟨h0, hle⟩ := h3 x hx
        exact hnext x h0 hle
/-- A sorted list of the same elements, without repetitions, is the reference's. -/
theorem dedG_eq [DecidableEq α] (hO : STO lt) {s l : List α} (hs : s.Pairwise (fun a b => lt b a = false)) (hm : ∀ x, x ∈ s ↔ x ∈ l) : dedG s s.length = sortG lt l := by
  obtain ⟨h1, h2, _⟩ := dedG_all hO hs s.length (Nat.le_refl _)
  obtain ⟨h3, h4⟩ := sortG_inc hO l
  refine incG_eq hO _ _ h1 h3 fun x => ?_
  rw [h2, h4, List.take_length, hm]
theorem putG_len [DecidableEq α] (l : List α) (n : α) : (putG lt l n).length ≤ l.length + 1 := by
  unfold putG
  split
  · omega
  · simp only [List.length_append, List.length_take, List.length_drop, List.length_cons, List.length_nil]; omega
theorem foldlG_len [DecidableEq α] (l acc : List α) : (l.foldl (putG lt) acc).length ≤ acc.length + l.length := by
  induction l generalizing acc with
  | nil => simp
  | cons a t ih =>
    rw [List.foldl_cons]
    have := ih (putG lt acc a)
    have := putG_len (lt := lt) acc a
    simp only [List.length_cons]
    omega
theorem sortG_len [DecidableEq α] (l : List α) : (sortG lt l).length ≤ l.length := by
  have := foldlG_len (lt := lt) l []
  simpa [sortG] using this
theorem putG_same [DecidableEq α] {l : List α} {n : α} {k : Nat} (hk : cutG lt l n l.length = k) (h0 : 0 < k) (h1 : l.getD (k - 1) default = n) : putG lt l n = l := by unfold putG; rw [hk, if_pos ⟨h0, h1⟩]
theorem putG_new [DecidableEq α] {l : List α} {n : α} {k : Nat} (hk : cutG lt l n l.length = k) (h1 : ¬ (0 < k ∧ l.getD (k - 1) default = n)) : putG lt l n = l.take k ++ [n] ++ l.drop k := by unfold putG; rw [hk, if_neg h1]
/-- An element that is there already is not put again. -/
theorem sortG_same [DecidableEq α] (hO : STO lt) {a b : List α} (h : ∀ x, x ∈ a ↔ x ∈ b) : sortG lt a = sortG lt b := by
  obtain ⟨h1, h2⟩ := sortG_inc hO a
  obtain ⟨h3, h4⟩ := sortG_inc hO b
  exact incG_eq hO _ _ h1 h3 fun x => by rw [h2, h4, h]
theorem sortG_id [DecidableEq α] (hO : STO lt) {a : List α} (h : IncG lt a) : sortG lt a = a := by
  obtain ⟨h1, h2⟩ := sortG_inc hO a
  exact incG_eq hO _ _ h1 h fun x => by rw [h2]
end
end Go.Proofs.YteelmhmdnljjnaaGreat
