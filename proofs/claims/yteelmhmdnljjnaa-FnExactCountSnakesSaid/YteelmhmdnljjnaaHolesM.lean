/- Floods of a grid around a shape: plain functions. No program is in sight. -/
import Derived.Test.YteelmhmdnljjnaaGrwM
namespace Go.Proofs.Yteelmhmdnljjnaa
open Go.RowKit
set_option linter.unusedVariables false
/-- The number of a place of the grid; is it in the grid? -/
def gp (c : C) : Nat := (c.2 * 10 + c.1).toNat
def inG (c : C) : Bool := (decide (0 ≤ c.1) && decide (c.1 ≤ 9)) && (decide (0 ≤ c.2) && decide (c.2 ≤ 9))
theorem inG_at {c : C} (h : inG c = true) : ∃ p q : Nat, c = ((p : Int), (q : Int)) ∧ p ≤ 9 ∧ q ≤ 9 ∧ gp c = q * 10 + p ∧ q * 10 + p < 100 := by
  simp only [inG, Bool.and_eq_true, decide_eq_true_eq] at h
  obtain ⟨⟨h1, h2⟩, h3, h4⟩ := h
  obtain ⟨p, hp⟩ := Int.eq_ofNat_of_zero_le h1
  obtain ⟨q, hq⟩ := Int.eq_ofNat_of_zero_le h3
  refine ⟨p, q, Prod.ext hp hq, by omega, by omega, ?_, by omega⟩
  unfold gp
  omega
/-- The cells of a shape in the grid, one place off the edge. -/
def cellsG (s : List C) : Nat → Nat
  | 0 => 0
  | k + 1 => cellsG s k ||| 2 ^ gp ((s.getD k (0, 0)).1 + 1, (s.getD k (0, 0)).2 + 1)
/-- A flood: what is marked, the queue. -/
abbrev FS := Nat × List C
def sideG (st : FS) (d : C) : FS := if inG d && !st.1.testBit (gp d) then (st.1 ||| 2 ^ gp d, st.2 ++ [d]) else st
def sidesG (st : FS) (c : C) : Nat → FS
  | 0 => st
  | k + 1 => sideG (sidesG st c k) ((sidesV c).getD k (0, 0))
def popG (st : FS) : FS := match st.2 with
  | [] => st
  | c :: t => sidesG (st.1, t) c 4
def flood (st : FS) : Nat → FS
  | 0 => st
  | k + 1 => popG (flood st k)
/-- How many places are not marked. -/
def un (m : Nat) : Nat := (List.range 100).countP fun i => !m.testBit i
theorem cnt_one (q : Nat → Bool) (p : Nat) (hq : q p = true) : ∀ n, (p < n → (List.range n).countP (fun i => q i && i != p) + 1 = (List.range n).countP q) ∧ (n ≤ p → (List.range n).countP (fun i => q i && i != p) = (List.range n).countP q)
  | 0 => ⟨fun h => by omega, fun _ => rfl⟩
  | n + 1 => by
    obtain ⟨h1, h2⟩ := cnt_one q p hq n
    simp only [List.range_succ, List.countP_append, List.countP_singleton]
    refine ⟨fun h => ?_, fun h => ?_⟩
    · by_cases e : n = p
      · subst e
        rw [h2 (Nat.le_refl _)]
        simp [hq]
      · have h3 := h1 (by omega)
        have e2 : (n != p) = true := by simpa using e
        rw [e2, Bool.and_true]
        omega
    · have e2 : (n != p) = true := by simp; omega
      rw [h2 (by omega), e2, Bool.and_true]
theorem un_set {m p : Nat} (hp : p < 100) (h : m.testBit p = false) : un (m ||| 2 ^ p) + 1 = un m := by
  have e : (fun i => !(m ||| 2 ^ p).testBit i) = fun i => (!m.testBit i) && i != p := by
    funext i
    rw [Nat.testBit_or, Nat.testBit_two_pow]
    by_cases e : p = i
    · subst e; simp
    · have e2 : (i != p) = true := by simp; omega
      simp [e, e2]
  unfold un
  rw [e]
  exact (cnt_one (fun i => !m.testBit i) p (by simp [h]) 100).1 hp
theorem sideG_un (st : FS) (d : C) : 2 * un (sideG st d).1 + (sideG st d).2.length ≤ 2 * un st.1 + st.2.length := by
  unfold sideG
  split
  · next h =>
    simp only [Bool.and_eq_true, Bool.not_eq_true'] at h
    obtain ⟨p, q, _, _, _, e, hl⟩ := inG_at h.1
    have := un_set (m := st.1) (p := gp d) (by omega) h.2
    simp only [List.length_append, List.length_singleton]
    omega
  · exact Nat.le_refl _
theorem sidesG_un (st : FS) (c : C) : ∀ k, 2 * un (sidesG st c k).1 + (sidesG st c k).2.length ≤ 2 * un st.1 + st.2.length
  | 0 => Nat.le_refl _
  | k + 1 => Nat.le_trans (sideG_un _ _) (sidesG_un st c k)
theorem un_le (m : Nat) : un m ≤ 100 := by
  have h := List.countP_le_length (p := fun i => !m.testBit i) (l := List.range 100)
  simpa [un] using h
/-- The queue's places lie in the grid. -/
def QG (l : List C) : Prop := ∀ c ∈ l, inG c = true
theorem sideG_q {st : FS} (h : QG st.2) (d : C) : QG (sideG st d).2 := by
  unfold sideG
  split
  · next hd =>
    simp only [Bool.and_eq_true] at hd
    intro c hc
    rcases List.mem_append.1 hc with h1 | h1
    · exact h c h1
    · simp only [List.mem_singleton] at h1; rw [h1]; exact hd.1
  · exact h
theorem sidesG_q {st : FS} (h : QG st.2) (c : C) : ∀ k, QG (sidesG st c k).2
  | 0 => h
  | k + 1 => sideG_q (sidesG_q h c k) _
theorem popG_q {st : FS} (h : QG st.2) : QG (popG st).2 := by
  unfold popG
  split
  · exact h
  · next c t e =>
    refine sidesG_q (fun d hd => ?_) c 4
    exact h d (by rw [e]; exact List.mem_cons_of_mem _ hd)
theorem flood_q {st : FS} (h : QG st.2) : ∀ k, QG (flood st k).2
  | 0 => h
  | k + 1 => popG_q (flood_q h k)
theorem popG_nil {st : FS} (h : st.2 = []) : popG st = st := by unfold popG; rw [h]
theorem flood_stay {st : FS} {k : Nat} (h : (flood st k).2 = []) : ∀ j, flood st (k + j) = flood st k
  | 0 => rfl
  | j + 1 => by
    show popG (flood st (k + j)) = _
    rw [flood_stay h j]
    exact popG_nil h
theorem flood_end {st : FS} {k j : Nat} (h : (flood st k).2 = []) (h2 : (flood st j).2 = []) : flood st j = flood st k := by
  rcases Nat.le_total k j with hl | hl
  · have := flood_stay h (j - k)
    rwa [show k + (j - k) = j by omega] at this
  · have := flood_stay h2 (k - j)
    rw [show j + (k - j) = k by omega] at this
    exact this.symm
theorem flood_pop {st : FS} {k : Nat} {m : Nat} {c : C} {t : List C} (h : flood st k = (m, c :: t)) : flood st (k + 1) = sidesG (m, t) c 4 := by
  show popG (flood st k) = _
  rw [h]; rfl
theorem flood_le (st : FS) : ∀ k, 2 * un (flood st k).1 + (flood st k).2.length ≤ 2 * un st.1 + st.2.length
  | 0 => Nat.le_refl _
  | k + 1 => by
    have ih := flood_le st k
    show 2 * un (popG (flood st k)).1 + (popG (flood st k)).2.length ≤ _
    unfold popG
    split
    · exact ih
    · next c t e =>
      have := sidesG_un ((flood st k).1, t) c 4
      rw [e] at ih
      simp only [List.length_cons] at ih
      simp only at this
      omega
/-- Everything is flooded from the grid's first place. -/
def fullG : Nat := 2 ^ 100 - 1
def FullI (s : List C) : Prop := ∃ K, flood (cellsG s s.length ||| 2 ^ 0, [(0, 0)]) K = (fullG, [])
def frcN {β : Type} (x : Nat) (k : Nat → β) : β := match x with
  | 0 => k 0
  | m + 1 => k (m + 1)
theorem frcN_eq {β : Type} (x : Nat) (k : Nat → β) : frcN x k = k x := by unfold frcN; split <;> rfl
def floodK : Nat → Nat → List C → Bool
  | 0, _, _ => false
  | f + 1, m, [] => m == fullG
  | f + 1, m, c :: t => match sidesG (m, t) c 4 with
    | (m', q') => frcN m' fun m'' => frcS q' fun q'' => floodK f m'' q''
theorem floodK_ok (st : FS) : ∀ (f k : Nat), floodK f (flood st k).1 (flood st k).2 = true → ∃ K, flood st K = (fullG, [])
  | 0, _, h => by simp [floodK] at h
  | f + 1, k, h => by
    rcases hq : flood st k with ⟨m, l⟩
    rw [hq] at h
    cases l with
    | nil =>
      simp only [floodK, beq_iff_eq] at h
      exact ⟨k, by rw [hq, h]⟩
    | cons c t =>
      refine floodK_ok st f (k + 1) ?_
      rw [flood_pop hq]
      simp only [floodK, frcN_eq, frcS_eq] at h
      exact h
def okI (s : List C) : Bool := frcN (cellsG s s.length ||| 2 ^ 0) fun m => floodK 101 m [(0, 0)]
theorem okI_full {s : List C} (h : okI s = true) : FullI s := by
  unfold okI at h
  rw [frcN_eq] at h
  exact floodK_ok (cellsG s s.length ||| 2 ^ 0, [(0, 0)]) 101 0 h
/-- The reference: all places around a shape in its corner that are reached from outside. -/
def outOk (c : List C) (W H : Int) (x : C) : Bool := ((decide (-1 ≤ x.1) && decide (x.1 ≤ W)) && (decide (-1 ≤ x.2) && decide (x.2 ≤ H))) && !hasC c x.1 x.2
def dirS (c : C) (d : Nat) : C := (sidesS c).getD d (0, 0)
def outSt (c : List C) (W H : Int) (L : List C) (i d : Nat) : List C :=
  if i < L.length then (if (outOk c W H (dirS (L.getD i (0, 0)) d) && !hasC L (dirS (L.getD i (0, 0)) d).1 (dirS (L.getD i (0, 0)) d).2) = true then L ++ [dirS (L.getD i (0, 0)) d] else L) else L
def outF (c : List C) (W H : Int) : Nat → List C
  | 0 => [(-1, -1)]
  | t + 1 => outSt c W H (outF c W H t) (t / 4) (t % 4)
def extW (c : List C) : Nat → Int
  | 0 => 0
  | k + 1 => if extW c k < (c.getD k (0, 0)).1 + 1 then (c.getD k (0, 0)).1 + 1 else extW c k
def extH (c : List C) : Nat → Int
  | 0 => 0
  | k + 1 => if extH c k < (c.getD k (0, 0)).2 + 1 then (c.getD k (0, 0)).2 + 1 else extH c k
section
variable (c : List C) (W H : Int)
theorem outF_at (i d : Nat) (hd : d < 4) : outF c W H (4 * i + (d + 1)) = outSt c W H (outF c W H (4 * i + d)) i d := by
  show outSt c W H (outF c W H (4 * i + d)) ((4 * i + d) / 4) ((4 * i + d) % 4) = _
  rw [show (4 * i + d) / 4 = i by omega, show (4 * i + d) % 4 = d by omega]
theorem outF_pre (t : Nat) : ∀ j, ∃ l, outF c W H (t + j) = outF c W H t ++ l
  | 0 => ⟨[], by simp⟩
  | j + 1 => by
    obtain ⟨l, hl⟩ := outF_pre t j
    show ∃ l, outSt c W H (outF c W H (t + j)) _ _ = _
    unfold outSt
    split
    · split
      · rw [hl]; exact ⟨_, List.append_assoc _ _ _⟩
      · exact ⟨l, hl⟩
    · exact ⟨l, hl⟩
theorem outF_len (t : Nat) : (outF c W H t).length ≤ t + 1 := by
  induction t with
  | zero => simp [outF]
  | succ t ih =>
    show (outSt c W H (outF c W H t) _ _).length ≤ _
    unfold outSt
    split
    · split
      · rw [List.length_append, List.length_singleton]; omega
      · omega
    · omega
theorem outF_stay {i : Nat} (h : (outF c W H (4 * i)).length ≤ i) : ∀ j, outF c W H (4 * i + j) = outF c W H (4 * i)
  | 0 => rfl
  | j + 1 => by
    show outSt c W H (outF c W H (4 * i + j)) ((4 * i + j) / 4) _ = _
    rw [outF_stay h j]
    unfold outSt
    rw [if_neg (by omega)]
theorem outF_end {i T : Nat} (h : (outF c W H (4 * i)).length ≤ i) (h2 : (outF c W H (4 * T)).length ≤ T) : outF c W H (4 * i) = outF c W H (4 * T) := by
  rcases Nat.le_total i T with hl | hl
  · have := outF_stay c W H h (4 * (T - i))
    rw [← Nat.mul_add, show i + (T - i) = T by omega] at this
    exact this.symm
  · have := outF_stay c W H h2 (4 * (i - T))
    rw [← Nat.mul_add, show T + (i - T) = i by omega] at this
    exact this
theorem outF_more {i T : Nat} (h : i < (outF c W H (4 * i)).length) (h2 : (outF c W H (4 * T)).length ≤ T) : i < T := by
  rcases Nat.lt_or_ge i T with hl | hl
  · exact hl
  · have := outF_stay c W H h2 (4 * (i - T))
    rw [← Nat.mul_add, show T + (i - T) = i by omega] at this
    rw [this] at h
    omega
def outK : Nat → Nat → List C → Option (List C)
  | 0, _, _ => none
  | f + 1, i, L => if i < L.length then frcS (outSt c W H L i 0) fun a => frcS (outSt c W H a i 1) fun b => frcS (outSt c W H b i 2) fun e => frcS (outSt c W H e i 3) fun g => outK f (i + 1) g else some L
theorem outK_ok : ∀ (f i : Nat) (R : List C), outK c W H f i (outF c W H (4 * i)) = some R → ∃ T, outF c W H (4 * T) = R ∧ R.length ≤ T ∧ T ≤ i + f
  | 0, i, R, h => by simp [outK] at h
  | f + 1, i, R, h => by
    unfold outK at h
    split at h
    · simp only [frcS_eq] at h
      have e0 := outF_at c W H i 0 (by decide)
      have e1 := outF_at c W H i 1 (by decide)
      have e2 := outF_at c W H i 2 (by decide)
      have e3 := outF_at c W H i 3 (by decide)
      simp only [Nat.add_zero] at e0
      rw [← e0, ← e1, ← e2, ← e3] at h
      obtain ⟨T, h1, h2, h3⟩ := outK_ok f (i + 1) R h
      exact ⟨T, h1, h2, by omega⟩
    · next hl =>
      simp only [Option.some.injEq] at h
      exact ⟨i, h, by rw [← h]; omega, by omega⟩
end
/-- Nothing is left that is not reached from outside. -/
structure FullS (s : List C) (T : Nat) (R : List C) : Prop where
  reach : outF (cornS s) (extW (cornS s) s.length) (extH (cornS s) s.length) (4 * T) = R
  len : R.length ≤ T
  all : ∀ x y : Nat, (x : Int) < extW (cornS s) s.length → (y : Int) < extH (cornS s) s.length → hasC (cornS s) x y = false → hasC R x y = true
def okS (s : List C) : Bool := frcS (cornS s) fun c => frcI (extW c s.length) fun W => frcI (extH c s.length) fun H => match outK c W H 101 0 [(-1, -1)] with
  | none => false
  | some R => frcS R fun R => (List.range H.toNat).all fun y => (List.range W.toNat).all fun x => hasC c x y || hasC R x y
theorem okS_full {s : List C} (h : okS s = true) : ∃ T R, FullS s T R ∧ T ≤ 1000 := by
  unfold okS at h
  simp only [frcS_eq, frcI_eq] at h
  split at h
  · cases h
  · next R hR =>
    obtain ⟨T, hT, hl, hb⟩ := outK_ok _ _ _ 101 0 R hR
    refine ⟨T, R, ⟨hT, hl, fun x y hx hy hc => ?_⟩, by omega⟩
    simp only [List.all_eq_true, List.mem_range, Bool.or_eq_true] at h
    rcases h y (by omega) x (by omega) with h1 | h1
    · rw [hc] at h1; cases h1
    · exact h1
theorem okI_fix (k : Nat) (h : k ≤ 4) : ∀ x ∈ fixV k, okI x = true := by
  have hf : ∀ x ∈ fixF k, okI x = true := by
    rcases (by omega : k = 0 ∨ k = 1 ∨ k = 2 ∨ k = 3 ∨ k = 4) with rfl | rfl | rfl | rfl | rfl <;> decide +kernel
  rw [fixF_eq] at hf
  exact hf
theorem okS_fix (k : Nat) (h : k ≤ 4) : ∀ x ∈ fixV k, okS x = true := by
  have hf : ∀ x ∈ fixF k, okS x = true := by
    rcases (by omega : k = 0 ∨ k = 1 ∨ k = 2 ∨ k = 3 ∨ k = 4) with rfl | rfl | rfl | rfl | rfl <;> decide +kernel
  rw [fixF_eq] at hf
  exact hf
end Go.Proofs.Yteelmhmdnljjnaa
