/- Shapes counted by masks: plain functions. No program is in sight. -/
import Derived.Test.YtcgohceakjjlhaaPlaces
import Derived.Test.YtcgohceakjjlhaaGrwM
import Derived.Test.YtcgohceakjjlhaaSnakeM
namespace Go.Proofs.Ytcgohceakjjlhaa
open Go.RowKit
set_option linter.unusedVariables false
/-- The bits of x that are set, of the lowest f. -/
def pcF : Nat → Nat → Nat
  | 0, _ => 0
  | f + 1, x => x % 2 + pcF f (x / 2)
theorem pcF_zero : ∀ f, pcF f 0 = 0
  | 0 => rfl
  | f + 1 => by unfold pcF; rw [Nat.zero_div, pcF_zero f]
theorem pcF_le : ∀ f x, pcF f x ≤ f
  | 0, x => Nat.le_refl _
  | f + 1, x => by unfold pcF; have := pcF_le f (x / 2); omega
theorem pcF_add : ∀ (f k q r : Nat), r < 2 ^ k → pcF f (2 ^ k * q + r) = pcF f (2 ^ k * q) + pcF f r
  | 0, _, _, _, _ => rfl
  | f + 1, 0, q, r, h => by
    have hr : r = 0 := by simpa using h
    subst hr
    rw [pcF_zero]; rfl
  | f + 1, k + 1, q, r, h => by
    have e1 : 2 ^ (k + 1) * q + r = 2 * (2 ^ k * q) + r := by rw [Nat.pow_succ, Nat.mul_comm (2 ^ k) 2, Nat.mul_assoc]
    have e2 : 2 ^ (k + 1) * q = 2 * (2 ^ k * q) := by rw [Nat.pow_succ, Nat.mul_comm (2 ^ k) 2, Nat.mul_assoc]
    have h2 : r / 2 < 2 ^ k := by rw [Nat.pow_succ] at h; omega
    have ih := pcF_add f k q (r / 2) h2
    unfold pcF
    rw [e1, e2, show (2 * (2 ^ k * q) + r) / 2 = 2 ^ k * q + r / 2 from by omega, show (2 * (2 ^ k * q)) / 2 = 2 ^ k * q from by omega, ih]
    omega
theorem pcF_pow : ∀ (f k : Nat), k < f → pcF f (2 ^ k) = 1
  | 0, k, h => by omega
  | f + 1, 0, _ => by unfold pcF; simp [pcF_zero]
  | f + 1, k + 1, h => by
    unfold pcF
    rw [show 2 ^ (k + 1) / 2 = 2 ^ k from by rw [Nat.pow_succ]; omega, pcF_pow f k (by omega), show 2 ^ (k + 1) % 2 = 0 from by rw [Nat.pow_succ]; omega]
def pc (m : Nat) : Nat := pcF 16 m
theorem pc_zero : pc 0 = 0 := pcF_zero 16
theorem pc_le (m : Nat) : pc m ≤ 16 := pcF_le 16 m
theorem pc_add (k q r : Nat) (h : r < 2 ^ k) : pc (2 ^ k * q + r) = pc (2 ^ k * q) + pc r := pcF_add 16 k q r h
theorem pc_pow (k : Nat) (h : k < 16) : pc (2 ^ k) = 1 := pcF_pow 16 k h
theorem pc_eq (m : Nat) : pc m = pcF 16 m := rfl
attribute [irreducible] pc
/-- What is reached, with one step more. -/
def expand (s R : List C) : List C := s.foldl (fun R c => if hasC R c.1 c.2 then R else if R.any (fun b => near b c) then R ++ [c] else R) R
def reachK (s : List C) : Nat → List C
  | 0 => [s0 s]
  | k + 1 => expand s (reachK s k)
def connO (s : List C) : Option Bool :=
  let R := reachK s s.length
  if s.all (fun c => hasC R c.1 c.2) then some true else if s.all (fun c => hasC R c.1 c.2 || !(R.any fun b => near b c)) then some false else none
theorem hasC_mm (s : List C) (c : C) : hasC s c.1 c.2 = true ↔ c ∈ s := by
  obtain ⟨x, y⟩ := c
  simp only [hasC, List.any_eq_true, Bool.and_eq_true, beq_iff_eq]
  constructor
  · rintro ⟨⟨a, b⟩, h, rfl, rfl⟩; exact h
  · intro h; exact ⟨_, h, rfl, rfl⟩
theorem foldX (s : List C) : ∀ (l R : List C), (∀ c ∈ l, c ∈ s) → (∀ c ∈ R, Rch s (s0 s) c) → s0 s ∈ R →
    (∀ c ∈ l.foldl (fun R c => if hasC R c.1 c.2 then R else if R.any (fun b => near b c) then R ++ [c] else R) R, Rch s (s0 s) c) ∧ s0 s ∈ l.foldl (fun R c => if hasC R c.1 c.2 then R else if R.any (fun b => near b c) then R ++ [c] else R) R
  | [], R, _, h, h0 => ⟨h, h0⟩
  | d :: l, R, hl, h, h0 => by
    rw [List.foldl_cons]
    refine foldX s l _ (fun c hc => hl c (by simp [hc])) ?_ ?_
    · split
      · exact h
      · split
        · rename_i h2
          intro c hc
          rcases List.mem_append.1 hc with h3 | h3
          · exact h c h3
          · simp at h3
            subst h3
            obtain ⟨b, hb, hn⟩ := List.any_eq_true.1 h2
            exact .step (h b hb) (hl c (by simp)) hn
        · exact h
    · split
      · exact h0
      · split
        · exact List.mem_append.2 (.inl h0)
        · exact h0
theorem reachK_good (s : List C) : ∀ k, (∀ c ∈ reachK s k, Rch s (s0 s) c) ∧ s0 s ∈ reachK s k
  | 0 => by
    refine ⟨fun c hc => ?_, by simp [reachK]⟩
    simp [reachK] at hc
    subst hc
    exact .base
  | k + 1 => foldX s s _ (fun c h => h) (reachK_good s k).1 (reachK_good s k).2
theorem connO_eq {s : List C} {b : Bool} (h : connO s = some b) : conn s = b := by
  obtain ⟨g1, g2⟩ := reachK_good s s.length
  unfold connO at h
  simp only at h
  split at h
  · rename_i ha
    injection h with h
    rw [← h, conn_iff]
    intro c hc
    exact g1 c ((hasC_mm _ _).1 (List.all_eq_true.1 ha c hc))
  · rename_i ha
    split at h
    · rename_i hcl
      injection h with h
      rw [← h, Bool.eq_false_iff]
      intro hcn
      refine ha (List.all_eq_true.2 fun c hc => (hasC_mm _ _).2 ?_)
      have hr := (conn_iff s).1 hcn c hc
      have : ∀ d, Rch s (s0 s) d → d ∈ reachK s s.length := by
        intro d hd
        induction hd with
        | base => exact g2
        | step hb hcs hn ih =>
          have h1 := List.all_eq_true.1 hcl _ hcs
          simp only [Bool.or_eq_true, Bool.not_eq_true', List.any_eq_false] at h1
          rcases h1 with h1 | h1
          · exact (hasC_mm _ _).1 h1
          · exact absurd hn (h1 _ ih)
      exact this c hr
    · cases h
/-- Whether a mask is a shape in its corner. -/
noncomputable def selR (n m : Nat) : Bool := decide (pc m = n) && (isConn (plTo n m (n * n)) && decide (cornS (plTo n m (n * n)) = plTo n m (n * n)))
noncomputable def cntR (n k : Nat) : Nat := (List.range k).countP (selR n)
theorem cntR_succ (n k : Nat) : cntR n (k + 1) = cntR n k + (if selR n k then 1 else 0) := by
  unfold cntR
  rw [List.range_succ, List.countP_append, List.countP_singleton]
def leafO (s : List C) : Option Nat :=
  if cornS s = s then (if isShape s then (match connO s with
    | some true => some 1
    | some false => some 0
    | none => none) else some 0) else some 0
set_option maxHeartbeats 800000 in
theorem leafO_eq {s : List C} {v : Nat} (h : leafO s = some v) : (if isConn s && decide (cornS s = s) then 1 else 0) = v := by
  unfold leafO at h
  split at h
  · rename_i hc
    split at h
    · rename_i hs
      split at h
      · rename_i hk
        injection h with h
        unfold isConn
        rw [hs, connO_eq hk, ← h]
        simp [hc]
      · rename_i hk
        injection h with h
        unfold isConn
        rw [hs, connO_eq hk, ← h]
        simp
      · cases h
    · rename_i hs
      injection h with h
      unfold isConn
      rw [show isShape s = false from by simpa using hs, ← h]
      simp
  · rename_i hc
    injection h with h
    rw [← h]
    simp [hc]
def treeO (n : Nat) : Nat → Nat → Nat → Option Nat
  | 0, b, p => if p = n then frcS (plTo n b (n * n)) leafO else some 0
  | k + 1, b, p => if n < p then some 0 else match treeO n k b p with
    | none => none
    | some x => match treeO n k (b + 2 ^ k) (p + 1) with
      | none => none
      | some y => some (x + y)
set_option maxHeartbeats 1600000 in
theorem treeO_eq (n : Nat) : ∀ (k q p v : Nat), k ≤ 16 → p = pc (2 ^ k * q) → treeO n k (2 ^ k * q) p = some v → (List.range' (2 ^ k * q) (2 ^ k)).countP (selR n) = v
  | 0, q, p, v, _, hp, h => by
    unfold treeO at h
    rw [show (2 : Nat) ^ 0 = 1 from rfl, Nat.one_mul] at h hp ⊢
    rw [show List.range' q 1 = [q] from rfl, List.countP_singleton]
    unfold selR
    split at h
    · rename_i e
      rw [frcS_eq] at h
      have := leafO_eq h
      rw [show decide (pc q = n) = true from by rw [← hp]; simpa using e, Bool.true_and]
      exact this
    · rename_i e
      injection h with h
      rw [show decide (pc q = n) = false from by rw [← hp]; simpa using e, ← h]
      simp
  | k + 1, q, p, v, hk, hp, h => by
    have e0 : 2 ^ (k + 1) * q = 2 ^ k * (2 * q) := by rw [Nat.pow_succ, Nat.mul_assoc]
    have e1 : 2 ^ k * (2 * q) + 2 ^ k = 2 ^ k * (2 * q + 1) := by rw [Nat.mul_add, Nat.mul_one]
    have hpow : 2 ^ (k + 1) = 2 ^ k + 2 ^ k := by rw [Nat.pow_succ]; omega
    unfold treeO at h
    split at h
    · rename_i hlt
      injection h with h
      rw [← h, List.countP_eq_zero]
      intro m hm hs
      obtain ⟨h1, h2⟩ := List.mem_range'_1.1 hm
      obtain ⟨r, rfl⟩ : ∃ r, m = 2 ^ (k + 1) * q + r := ⟨m - 2 ^ (k + 1) * q, by omega⟩
      have h3 := pc_add (k + 1) q r (by omega)
      unfold selR at hs
      rw [Bool.and_eq_true, decide_eq_true_eq] at hs
      have := hs.1
      omega
    · split at h
      · cases h
      · rename_i x hx
        split at h
        · cases h
        · rename_i y hy
          injection h with h
          rw [e0] at hx hy hp ⊢
          have i1 := treeO_eq n k (2 * q) p x (by omega) hp hx
          rw [e1] at hy
          have hp2 : p + 1 = pc (2 ^ k * (2 * q + 1)) := by
            have hh : pc (2 ^ k * (2 * q + 1)) = pc (2 ^ (k + 1) * q) + pc (2 ^ k) := by
              rw [← pc_add (k + 1) q (2 ^ k) (by have := Nat.two_pow_pos k; omega), e0, e1]
            rw [hh, pc_pow k (by omega), e0, hp]
          have i2 := treeO_eq n k (2 * q + 1) (p + 1) y (by omega) hp2 hy
          rw [hpow, ← List.range'_append_1, List.countP_append, i1, e1, i2, h]
theorem tree_1 : treeO 1 1 0 0 = some 1 := by decide +kernel
theorem tree_2 : treeO 2 4 0 0 = some 2 := by decide +kernel
theorem tree_3 : treeO 3 9 0 0 = some 6 := by decide +kernel
theorem tree_4 : treeO 4 16 0 0 = some 19 := by decide +kernel
theorem cntR_tree (n N v : Nat) (hN : N ≤ 16) (h : treeO n N 0 0 = some v) : cntR n (2 ^ N) = v := by
  have := treeO_eq n N 0 0 v hN (by rw [Nat.mul_zero]; exact pc_zero.symm) (by rw [Nat.mul_zero]; exact h)
  rw [Nat.mul_zero] at this
  unfold cntR
  rw [List.range_eq_range']
  exact this
end Go.Proofs.Ytcgohceakjjlhaa
