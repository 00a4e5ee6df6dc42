/- Shapes counted by growth: plain functions, the numbers up to six cells. No program is in sight. -/
import Derived.Test.YteelmhmdnljjnaaFixM
namespace Go.Proofs.Yteelmhmdnljjnaa
open Go.RowKit
set_option linter.unusedVariables false
def okY (y : C) : Bool := decide (y.2 > 0) || (y.2 == 0 && decide (y.1 ≥ 0))
def stepM (mk : List C × List C) (y : C) : List C × List C := if okY y && !hasC mk.2 y.1 y.2 then (mk.1 ++ [y], mk.2 ++ [y]) else mk
def more4 (x : C) (more known : List C) (j : Nat) : List C × List C := ((sidesS x).take j).foldl stepM (more, known)
def growC : Nat → List C → List C → Nat
  | 0, u, _ => u.length
  | l + 1, u, s => ((List.range u.length).map fun k => 1 + growC l (more4 (u.getD k default) (u.take k) s 4).1 (more4 (u.getD k default) (u.take k) s 4).2).sum
def termC : Nat → List C → List C → Nat → Nat
  | 0, _, _, _ => 1
  | l + 1, u, s, k => 1 + growC l (more4 (u.getD k default) (u.take k) s 4).1 (more4 (u.getD k default) (u.take k) s 4).2
def growK (l : Nat) (u s : List C) (k : Nat) : Nat := ((List.range k).map (termC l u s)).sum
theorem growK_succ (l : Nat) (u s : List C) (k : Nat) : growK l u s (k + 1) = growK l u s k + termC l u s k := by
  unfold growK
  rw [List.range_succ, List.map_append, List.sum_append]
  simp
theorem growK_all (l : Nat) (u s : List C) : growK l u s u.length = growC l u s := by
  cases l with
  | zero =>
    have h : ∀ n, ((List.range n).map (termC 0 u s)).sum = n := by
      intro n
      induction n with
      | zero => rfl
      | succ n ih =>
        rw [List.range_succ, List.map_append, List.sum_append, ih]
        rfl
    exact h u.length
  | succ l => rfl
theorem more4_succ (x : C) (a b : List C) (j : Nat) (h : j < 4) : more4 x a b (j + 1) = stepM (more4 x a b j) ((sidesS x).getD j default) := by
  unfold more4
  have hl : j < (sidesS x).length := h
  rw [List.take_succ_eq_append_getElem hl, List.foldl_append, getD_in _ hl]
  rfl
theorem stepM_len (mk : List C × List C) (y : C) : (stepM mk y).1.length ≤ mk.1.length + 1 ∧ (stepM mk y).2.length ≤ mk.2.length + 1 := by
  unfold stepM
  split <;> simp
theorem more4_len (x : C) (a b : List C) : ∀ j, j ≤ 4 → (more4 x a b j).1.length ≤ a.length + j ∧ (more4 x a b j).2.length ≤ b.length + j
  | 0, _ => by simp [more4]
  | j + 1, h => by
    rw [more4_succ x a b j (by omega)]
    have h1 := more4_len x a b j (by omega)
    have h2 := stepM_len (more4 x a b j) ((sidesS x).getD j default)
    omega
def near0 (r : Int) (c : C) : Prop := -r ≤ c.1 ∧ c.1 ≤ r ∧ -r ≤ c.2 ∧ c.2 ≤ r
theorem sidesS_near {r : Int} {x : C} (h : near0 r x) : ∀ y ∈ sidesS x, near0 (r + 1) y := by
  intro y hy
  unfold near0 at h ⊢
  simp only [sidesS, List.mem_cons, List.not_mem_nil, or_false] at hy
  rcases hy with rfl | rfl | rfl | rfl <;> (simp only; omega)
theorem more4_near {r : Int} {x : C} {a b : List C} (hx : near0 r x) (ha : ∀ c ∈ a, near0 (r + 1) c) (hb : ∀ c ∈ b, near0 (r + 1) c) : ∀ j, j ≤ 4 → (∀ c ∈ (more4 x a b j).1, near0 (r + 1) c) ∧ (∀ c ∈ (more4 x a b j).2, near0 (r + 1) c)
  | 0, _ => ⟨ha, hb⟩
  | j + 1, h => by
    rw [more4_succ x a b j (by omega)]
    obtain ⟨h1, h2⟩ := more4_near hx ha hb j (by omega)
    have hy : near0 (r + 1) ((sidesS x).getD j default) := sidesS_near hx _ (getD_mem (show j < (sidesS x).length by show j < 4; omega))
    unfold stepM
    split
    · refine ⟨fun c hc => ?_, fun c hc => ?_⟩
      · rcases List.mem_append.1 hc with h3 | h3
        · exact h1 c h3
        · simp only [List.mem_singleton] at h3; rw [h3]; exact hy
      · rcases List.mem_append.1 hc with h3 | h3
        · exact h2 c h3
        · simp only [List.mem_singleton] at h3; rw [h3]; exact hy
    · exact ⟨h1, h2⟩
theorem sum_le (f : Nat → Nat) (B : Nat) : ∀ n, (∀ k, k < n → f k ≤ B) → ((List.range n).map f).sum ≤ n * B
  | 0, _ => by simp
  | n + 1, h => by
    rw [List.range_succ, List.map_append, List.sum_append]
    have := sum_le f B n (fun k hk => h k (by omega))
    have := h n (by omega)
    simp only [List.map_cons, List.map_nil, List.sum_cons, List.sum_nil, Nat.add_zero, Nat.add_mul, Nat.one_mul]
    omega
theorem growC_le : ∀ (l : Nat) (u s : List C), u.length + 4 * l ≤ 24 → growC l u s ≤ 25 ^ (l + 1)
  | 0, u, s, h => by simp [growC]; omega
  | l + 1, u, s, h => by
    unfold growC
    have hb : ∀ k, k < u.length → 1 + growC l (more4 (u.getD k default) (u.take k) s 4).1 (more4 (u.getD k default) (u.take k) s 4).2 ≤ 1 + 25 ^ (l + 1) := by
      intro k hk
      have h1 := (more4_len (u.getD k default) (u.take k) s 4 (Nat.le_refl _)).1
      rw [List.length_take] at h1
      have := growC_le l (more4 (u.getD k default) (u.take k) s 4).1 (more4 (u.getD k default) (u.take k) s 4).2 (by omega)
      omega
    have h2 := sum_le _ _ u.length hb
    have h3 : u.length ≤ 24 := by omega
    have h4 : u.length * (1 + 25 ^ (l + 1)) ≤ 24 * (1 + 25 ^ (l + 1)) := Nat.mul_le_mul_right _ h3
    have h5 : 25 ≤ 25 ^ (l + 1) := by have := Nat.pow_le_pow_right (show 0 < 25 by omega) (show 1 ≤ l + 1 by omega); simpa using this
    have h6 : 25 ^ (l + 1 + 1) = 25 * 25 ^ (l + 1) := by rw [Nat.pow_succ]; omega
    omega
/-- The reference's number. -/
def cntS (n : Nat) : Int := if n = 1 then (growC 0 [(0, 0)] [(0, 0)] : Nat) else (growC (n - 1) [(0, 0)] [(0, 0)] : Nat) - (growC (n - 2) [(0, 0)] [(0, 0)] : Nat)
/-- A list taken apart and put together again, so that the kernel has it at hand. -/
def frcI {β : Type} (x : Int) (k : Int → β) : β := match x with
  | .ofNat 0 => k 0
  | .ofNat (m + 1) => k (.ofNat (m + 1))
  | .negSucc 0 => k (.negSucc 0)
  | .negSucc (m + 1) => k (.negSucc (m + 1))
def frcS {β : Type} (s : List C) (k : List C → β) : β := match s with
  | [] => k []
  | a :: t => frcI a.1 fun x => frcI a.2 fun y => frcS t fun t' => k ((x, y) :: t')
def frcL {α β : Type} (l : List α) (k : List α → β) : β := match l with
  | [] => k []
  | a :: t => frcL t fun t' => k (a :: t')
theorem frcI_eq {β : Type} (x : Int) (k : Int → β) : frcI x k = k x := by unfold frcI; split <;> rfl
theorem frcS_eq {β : Type} : ∀ (s : List C) (k : List C → β), frcS s k = k s
  | [], k => rfl
  | a :: t, k => by unfold frcS; rw [frcI_eq, frcI_eq, frcS_eq t]
theorem frcL_eq {α β : Type} : ∀ (s : List α) (k : List α → β), frcL s k = k s
  | [], k => rfl
  | a :: t, k => by unfold frcL; rw [frcL_eq t]
/-- Put in its place, from the front. -/
def insL {α : Type} [DecidableEq α] (lt : α → α → Bool) : List α → α → List α
  | [], n => [n]
  | a :: t, n => if lt n a then n :: a :: t else if a = n then a :: t else a :: insL lt t n
theorem insL_inc {α : Type} [DecidableEq α] [Inhabited α] {lt : α → α → Bool} (hO : STO lt) (n : α) : ∀ {l : List α}, IncG lt l → IncG lt (insL lt l n) ∧ ∀ x, x ∈ insL lt l n ↔ x ∈ l ∨ x = n
  | [], _ => ⟨List.pairwise_singleton _ _, fun x => by simp [insL]⟩
  | a :: t, h => by
    obtain ⟨h1, h2⟩ := List.pairwise_cons.1 h
    unfold insL
    cases hna : lt n a with
    | true =>
      simp only [if_true]
      refine ⟨List.pairwise_cons.2 ⟨fun x hx => ?_, h⟩, fun x => by simp only [List.mem_cons]; exact ⟨fun hh => hh.elim .inr .inl, fun hh => hh.elim .inr .inl⟩⟩
      rcases List.mem_cons.1 hx with hx | hx
      · rw [hx]; exact hna
      · exact hO.trans hna (h1 x hx)
    | false =>
      simp only [Bool.false_eq_true, if_false]
      by_cases han : a = n
      · rw [if_pos han]
        exact ⟨h, fun x => ⟨.inl, fun hh => by rcases hh with hh | hh; exact hh; rw [hh, ← han]; exact List.mem_cons_self⟩⟩
      · rw [if_neg han]
        obtain ⟨i1, i2⟩ := insL_inc hO n h2
        have hlt : lt a n = true := by
          cases hc : lt a n with
          | true => rfl
          | false => exact absurd (hO.tot hc hna) han
        refine ⟨List.pairwise_cons.2 ⟨fun x hx => ?_, i1⟩, fun x => ?_⟩
        · rcases (i2 x).1 hx with hx | hx
          · exact h1 x hx
          · rw [hx]; exact hlt
        · simp only [List.mem_cons, i2 x]
          constructor
          · rintro (h | h | h)
            · exact .inl (.inl h)
            · exact .inl (.inr h)
            · exact .inr h
          · rintro ((h | h) | h)
            · exact .inl h
            · exact .inr (.inl h)
            · exact .inr (.inr h)
theorem insL_eq {l : List (List C)} (h : FineF l) (n : List C) : insL ltS l n = putG ltS l n := by
  obtain ⟨a1, a2⟩ := insL_inc ltS_sto n h.1
  obtain ⟨b1, b2⟩ := putG_inc ltS_sto h.1 n
  exact incG_eq ltS_sto _ _ a1 b1 fun x => by rw [a2, b2]
def extL (s : List C) : List (List C) → List C → List (List C)
  | acc, [] => acc
  | acc, d :: t => if hasC s d.1 d.2 then extL s acc t else frcS (cornI (s ++ [d])) fun c => if isShape c then frcL (insL ltS acc c) fun acc' => extL s acc' t else extL s acc t
theorem extL_eq (s : List C) : ∀ (l : List C) {acc : List (List C)}, FineF acc → extL s acc l = l.foldl (extStep s) acc
  | [], acc, _ => rfl
  | d :: t, acc, h => by
    rw [List.foldl_cons]
    unfold extL
    cases h1 : hasC s d.1 d.2 with
    | true =>
      have he : extStep s acc d = acc := by unfold extStep; rw [h1]; rfl
      rw [he, if_pos rfl]
      exact extL_eq s t h
    | false =>
      rw [if_neg (by simp), frcS_eq]
      cases h2 : isShape (cornI (s ++ [d])) with
      | true =>
        have he : extStep s acc d = putG ltS acc (cornI (s ++ [d])) := by unfold extStep; rw [h1, h2]; rfl
        rw [he, if_pos rfl, frcL_eq, insL_eq h]
        exact extL_eq s t (h.put h2)
      | false =>
        have he : extStep s acc d = acc := by unfold extStep; rw [h1, h2]; rfl
        rw [he, if_neg (by simp)]
        exact extL_eq s t h
def putsF : List (List C) → List (List C) → List (List C)
  | [], acc => acc
  | a :: t, acc => frcL (insL ltS acc a) fun acc' => putsF t acc'
theorem putsF_eq : ∀ (l acc : List (List C)), FineF acc → (∀ x ∈ l, isShape x = true) → putsF l acc = l.foldl (putG ltS) acc
  | [], acc, _, _ => rfl
  | a :: t, acc, h, hl => by
    unfold putsF
    rw [frcL_eq, insL_eq h, putsF_eq t _ (h.put (hl a (by simp))) (fun x hx => hl x (by simp [hx]))]
    rfl
def growF : List (List C) → List (List C) → List (List C)
  | [], acc => acc
  | s :: t, acc => frcL (putsF (extL s [] (s.flatMap sidesV)) acc) fun acc' => growF t acc'
theorem extL_V (s : List C) : extL s [] (s.flatMap sidesV) = extV s := by
  rw [extL_eq s _ FineF.nil]
  unfold extV extTo
  rw [List.take_length]
theorem growF_eq : ∀ (F acc : List (List C)), FineF acc → growF F acc = F.foldl (fun acc s => (extV s).foldl (putG ltS) acc) acc
  | [], acc, _ => rfl
  | s :: t, acc, h => by
    unfold growF
    have hx : ∀ x ∈ extV s, isShape x = true := (extTo_fine sidesV s s.length).2
    rw [frcL_eq, extL_V, putsF_eq _ _ h hx, growF_eq t _ (h.puts hx)]
    rfl
def fixF : Nat → List (List C)
  | 0 => [[(0, 0)]]
  | k + 1 => frcL (fixF k) fun F => growF F []
theorem fixF_eq : ∀ k, fixF k = fixV k
  | 0 => rfl
  | k + 1 => by
    unfold fixF fixV
    rw [frcL_eq, fixF_eq k, growF_eq _ _ FineF.nil, growN, List.take_length]
end Go.Proofs.Yteelmhmdnljjnaa
