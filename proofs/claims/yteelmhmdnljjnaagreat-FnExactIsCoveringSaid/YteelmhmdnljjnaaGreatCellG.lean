/- Cells in order, shapes in order, corners: plain functions. No program is in sight. -/
import Derived.Test.YteelmhmdnljjnaaGreatOrdG
import Derived.Test.YteelmhmdnljjnaaGreatConnM
namespace Go.Proofs.YteelmhmdnljjnaaGreat
open Go.RowKit
set_option linter.unusedVariables false
theorem befC_sto : STO befC where
  irr := befC_irr
  trans := fun h k => befC_trans h k
  tot := fun {a b} h k => by
    simp only [befC, Bool.or_eq_false_iff, Bool.and_eq_false_iff, decide_eq_false_iff_not, beq_eq_false_iff_ne] at h k
    refine Prod.ext ?_ ?_
    · rcases h.2 with h2 | h2
      · omega
      · rcases k.2 with k2 | k2 <;> omega
    · omega
/-- Lists of cells, by the first place where they differ. -/
def lexC : List C → List C → Bool
  | a :: s, b :: t => befC a b || (a == b && lexC s t)
  | _, _ => false
def ltS (s t : List C) : Bool := decide (s.length < t.length) || (s.length == t.length && lexC s t)
def cmpS (s t : List C) : Int := if ltS s t then -1 else if ltS t s then 1 else 0
theorem lexC_irr : ∀ s, lexC s s = false
  | [] => rfl
  | a :: s => by simp [lexC, befC_irr, lexC_irr s]
theorem lexC_trans : ∀ {a b c : List C}, lexC a b = true → lexC b c = true → lexC a c = true
  | [], _, _, h, _ => by simp [lexC] at h
  | _ :: _, [], _, h, _ => by simp [lexC] at h
  | _ :: _, _ :: _, [], _, h => by simp [lexC] at h
  | a :: s, b :: t, c :: u, h, k => by
    simp only [lexC, Bool.or_eq_true, Bool.and_eq_true, beq_iff_eq] at h k ⊢
    rcases h with h | ⟨rfl, h⟩
    · rcases k with k | ⟨rfl, k⟩
      · exact .inl (befC_trans h k)
      · exact .inl h
    · rcases k with k | ⟨rfl, k⟩
      · exact .inl k
      · exact .inr ⟨rfl, lexC_trans h k⟩
theorem lexC_tot : ∀ {a b : List C}, a.length = b.length → lexC a b = false → lexC b a = false → a = b
  | [], [], _, _, _ => rfl
  | [], _ :: _, h, _, _ => by simp at h
  | _ :: _, [], h, _, _ => by simp at h
  | a :: s, b :: t, hl, h, k => by
    simp only [lexC, Bool.or_eq_false_iff, Bool.and_eq_false_iff, beq_eq_false_iff_ne] at h k
    have e : a = b := befC_sto.tot h.1 k.1
    subst e
    rcases h.2 with h2 | h2
    · exact absurd rfl h2
    · rcases k.2 with k2 | k2
      · exact absurd rfl k2
      · rw [lexC_tot (by simpa using hl) h2 k2]
theorem ltS_sto : STO ltS where
  irr := fun a => by simp [ltS, lexC_irr]
  trans := fun {a b c} h k => by
    simp only [ltS, Bool.or_eq_true, Bool.and_eq_true, decide_eq_true_eq, beq_iff_eq] at h k ⊢
    rcases h with h | ⟨h1, h2⟩
    · left
      rcases k with k | k <;> omega
    · rcases k with k | ⟨k1, k2⟩
      · left; omega
      · exact .inr ⟨by omega, lexC_trans h2 k2⟩
  tot := fun {a b} h k => by
    simp only [ltS, Bool.or_eq_false_iff, Bool.and_eq_false_iff, decide_eq_false_iff_not, beq_eq_false_iff_ne] at h k
    have hl : a.length = b.length := by omega
    rcases h.2 with h2 | h2
    · exact absurd hl h2
    · rcases k.2 with k2 | k2
      · exact absurd hl.symm k2
      · exact lexC_tot hl h2 k2
theorem cmpS_neg (s t : List C) : decide (cmpS s t ≥ 0) = !ltS s t := by
  unfold cmpS
  cases ltS s t with
  | true => rfl
  | false =>
    simp only [Bool.false_eq_true, if_false]
    split <;> rfl
/-- From place k on. -/
theorem cmpS_len {s t : List C} (h : s.length < t.length) : cmpS s t = -1 := by
  unfold cmpS ltS
  rw [decide_eq_true h]
  rfl
theorem cmpS_len2 {s t : List C} (h : t.length < s.length) : cmpS s t = 1 := by
  have h1 : ltS s t = false := by simp only [ltS, Bool.or_eq_false_iff, Bool.and_eq_false_iff, decide_eq_false_iff_not, beq_eq_false_iff_ne]; omega
  have h2 : ltS t s = true := by unfold ltS; rw [decide_eq_true h]; rfl
  unfold cmpS
  rw [h1, h2]
  rfl
theorem cmpS_at {s t : List C} (hl : s.length = t.length) {k : Nat} (hk : k < s.length) (heq : s.take k = t.take k) (a b : C) (ha : s[k] = a) (hb : t[k]'(hl ▸ hk) = b) :
    (befC a b = true → cmpS s t = -1) ∧ (befC b a = true → cmpS s t = 1) := by
  have hlex : ∀ (k : Nat) (s t : List C) (hk : k < s.length) (hk2 : k < t.length), s.take k = t.take k → befC s[k] t[k] = true → lexC s t = true := by
    intro k
    induction k with
    | zero =>
      intro s t hk hk2 _ h
      cases s with
      | nil => simp at hk
      | cons x s =>
        cases t with
        | nil => simp at hk2
        | cons y t => simp only [List.getElem_cons_zero] at h; simp [lexC, h]
    | succ k ih =>
      intro s t hk hk2 he h
      cases s with
      | nil => simp at hk
      | cons x s =>
        cases t with
        | nil => simp at hk2
        | cons y t =>
          simp only [List.take_succ_cons, List.cons.injEq] at he
          simp only [List.getElem_cons_succ] at h
          simp only [lexC, Bool.or_eq_true, Bool.and_eq_true, beq_iff_eq]
          exact .inr ⟨he.1, ih s t (by simpa using hk) (by simpa using hk2) he.2 h⟩
  refine ⟨fun h => ?_, fun h => ?_⟩
  · have h1 : ltS s t = true := by
      unfold ltS
      rw [hlex k s t hk (hl ▸ hk) heq (by rw [ha, hb]; exact h)]
      simp [hl]
    unfold cmpS
    rw [h1]
    rfl
  · have h1 : ltS t s = true := by
      unfold ltS
      rw [hlex k t s (hl ▸ hk) hk heq.symm (by rw [ha, hb]; exact h)]
      simp [hl]
    unfold cmpS
    rw [h1, ltS_sto.asym h1]
    rfl
theorem cmpS_eq (s : List C) : cmpS s s = 0 := by
  unfold cmpS
  rw [ltS_sto.irr]
  rfl
theorem take_eq_step {α : Type} {s t : List α} {k : Nat} (hk : k < s.length) (hk2 : k < t.length) (h : s.take k = t.take k) (he : s[k] = t[k]) : s.take (k + 1) = t.take (k + 1) := by
  rw [List.take_succ_eq_append_getElem hk, List.take_succ_eq_append_getElem hk2, h, he]
theorem take_eq_all {α : Type} {s t : List α} (hl : s.length = t.length) {k : Nat} (hk : s.length ≤ k) (h : s.take k = t.take k) : s = t := by
  rwa [List.take_of_length_le hk, List.take_of_length_le (by omega)] at h
/-- The least number of a list, that is not empty, from its first element on. -/
def minTo (f : C → Int) (s : List C) : Nat → Int
  | 0 => f (s.getD 0 default)
  | k + 1 => if f (s.getD k default) < minTo f s k then f (s.getD k default) else minTo f s k
def minC (f : C → Int) (s : List C) : Int := minTo f s s.length
theorem minTo_le (f : C → Int) (s : List C) : ∀ k, k ≤ s.length → ∀ c ∈ s.take k, minTo f s k ≤ f c
  | 0, _, c, h => by simp at h
  | k + 1, hk, c, h => by
    have hkl : k < s.length := by omega
    rw [List.take_succ_eq_append_getElem hkl] at h
    have e : s.getD k default = s[k] := by rw [List.getD_eq_getElem?_getD, List.getElem?_eq_getElem hkl]; rfl
    unfold minTo
    rw [e]
    rcases List.mem_append.1 h with h | h
    · have := minTo_le f s k (by omega) c h
      split <;> omega
    · simp only [List.mem_singleton] at h
      subst h
      split <;> omega
theorem minTo_at (f : C → Int) (s : List C) (h0 : 0 < s.length) : ∀ k, k ≤ s.length → ∃ c ∈ s, minTo f s k = f c
  | 0, _ => ⟨s.getD 0 default, getD_mem h0, rfl⟩
  | k + 1, hk => by
    unfold minTo
    split
    · exact ⟨_, getD_mem (by omega), rfl⟩
    · exact minTo_at f s h0 k (by omega)
theorem minC_le (f : C → Int) {s : List C} {c : C} (h : c ∈ s) : minC f s ≤ f c := minTo_le f s s.length (Nat.le_refl _) c (by rw [List.take_length]; exact h)
theorem minC_at (f : C → Int) {s : List C} (h0 : 0 < s.length) : ∃ c ∈ s, minC f s = f c := minTo_at f s h0 s.length (Nat.le_refl _)
theorem minC_uniq (f : C → Int) {s : List C} (h0 : 0 < s.length) {m : Int} (h1 : ∃ c ∈ s, m = f c) (h2 : ∀ c ∈ s, m ≤ f c) : minC f s = m := by
  obtain ⟨c, hc, e⟩ := minC_at f h0
  obtain ⟨d, hd, e2⟩ := h1
  have := minC_le f hd
  have := h2 c hc
  omega
theorem minC_same (f : C → Int) {s t : List C} (h0 : 0 < s.length) (h1 : 0 < t.length) (h : ∀ x, x ∈ s ↔ x ∈ t) : minC f s = minC f t := by
  obtain ⟨c, hc, e⟩ := minC_at f h1
  exact minC_uniq f h0 ⟨c, (h c).2 hc, e⟩ fun d hd => minC_le f ((h d).1 hd)
/-- Moved. -/
def mv (s : List C) (x y : Int) : List C := s.map fun c => (c.1 + x, c.2 + y)
theorem mv_len (s : List C) (x y : Int) : (mv s x y).length = s.length := by simp [mv]
theorem mv_take (s : List C) (x y : Int) (k : Nat) (hk : k < s.length) : mv (s.take (k + 1)) x y = mv (s.take k) x y ++ [(s[k].1 + x, s[k].2 + y)] := by
  rw [List.take_succ_eq_append_getElem hk]
  show List.map _ (_ ++ _) = _
  rw [List.map_append]
  rfl
theorem mv_inc {s : List C} (h : IncG befC s) (x y : Int) : IncG befC (mv s x y) := by
  unfold IncG mv
  rw [List.pairwise_map]
  refine h.imp fun {a b} hab => ?_
  simp only [befC, Bool.or_eq_true, Bool.and_eq_true, decide_eq_true_eq, beq_iff_eq] at hab ⊢
  omega
theorem mv_mem (s : List C) (x y : Int) (c : C) : c ∈ mv s x y ↔ (c.1 - x, c.2 - y) ∈ s := by
  simp only [mv, List.mem_map]
  constructor
  · rintro ⟨d, hd, rfl⟩
    have e : ((d.1 + x - x, d.2 + y - y) : C) = d := Prod.ext (by simp) (by simp)
    simpa [e] using hd
  · intro h
    exact ⟨_, h, Prod.ext (by simp) (by simp)⟩
/-- To the corner: the program's way, the reference's way. -/
def sortC (s : List C) : List C := sortG befC s
def cornI (s : List C) : List C := sortC (mv s (-(minC (·.1) s)) (-(minC (·.2) s)))
def cornS (s : List C) : List C := mv s (-(minC (·.1) s)) (-(minC (·.2) s))
theorem sortC_ne {s : List C} (h : 0 < s.length) : 0 < (sortC s).length := by
  obtain ⟨h1, h2⟩ := sortG_inc befC_sto s
  exact List.length_pos_of_mem ((h2 _).2 (List.getElem_mem h))
theorem sortC_mem (s : List C) (c : C) : c ∈ sortC s ↔ c ∈ s := (sortG_inc befC_sto s).2 c
theorem sortC_inc (s : List C) : IncG befC (sortC s) := (sortG_inc befC_sto s).1
theorem sortC_id {s : List C} (h : IncG befC s) : sortC s = s := sortG_id befC_sto h
theorem corn_eq {s : List C} (h : 0 < s.length) : cornI s = cornS (sortC s) := by
  unfold cornI cornS
  rw [minC_same (·.1) (sortC_ne h) h (sortC_mem s), minC_same (·.2) (sortC_ne h) h (sortC_mem s)]
  refine incG_eq befC_sto _ _ (sortC_inc _) (mv_inc (sortC_inc s) _ _) fun c => ?_
  rw [sortC_mem, mv_mem, mv_mem, sortC_mem]
theorem sortC_len (s : List C) : (sortC s).length ≤ s.length := sortG_len s
theorem cornI_len (s : List C) : (cornI s).length ≤ s.length := by
  have := sortC_len (mv s (-(minC (·.1) s)) (-(minC (·.2) s)))
  rwa [mv_len] at this
theorem isShape_inc {l : List C} (h : isShape l = true) : IncG befC l := by
  rw [IncG, List.pairwise_iff_getElem]
  intro i j hi hj hij
  exact shape_bef h j i hj hij
theorem minC_small {s : List C} (h0 : 0 < s.length) (h : ∀ c ∈ s, small c) : (-1000 ≤ minC (·.1) s ∧ minC (·.1) s ≤ 1000) ∧ (-1000 ≤ minC (·.2) s ∧ minC (·.2) s ≤ 1000) := by
  obtain ⟨c, hc, e⟩ := minC_at (·.1) h0
  obtain ⟨d, hd, e2⟩ := minC_at (·.2) h0
  have h1 := h c hc
  have h2 := h d hd
  unfold small at h1 h2
  rw [e, e2]
  exact ⟨h1.1, h2.2⟩
end Go.Proofs.YteelmhmdnljjnaaGreat
