/- Shapes turned, their orientations, their placements in a region: plain functions. No program is in sight. -/
import Derived.Test.YteelmhmdnljjnaaGreatCellG
import Derived.Test.YteelmhmdnljjnaaGreatOrdM
import Derived.Test.YteelmhmdnljjnaaGreatRegM
import Derived.Test.YteelmhmdnljjnaaGreatMask
import Derived.Test.YteelmhmdnljjnaaGreatPieces
namespace Go.Proofs.YteelmhmdnljjnaaGreat
open Go.RowKit
set_option linter.unusedVariables false
/-- A cell turned. -/
def rotC : Nat → C → C
  | 0, c => c
  | k + 1, c => (-(rotC k c).2, (rotC k c).1)
def flipC (m : Nat) (c : C) : C := if 4 ≤ m then (-c.1, c.2) else c
def motC (m : Nat) (c : C) : C := rotC (m % 4) (flipC m c)
def in7 (b : Int) (c : C) : Prop := (-b ≤ c.1 ∧ c.1 ≤ b) ∧ (-b ≤ c.2 ∧ c.2 ≤ b)
theorem in7_rot {b : Int} {c : C} (h : in7 b c) : ∀ k, in7 b (rotC k c)
  | 0 => h
  | k + 1 => by
    have := in7_rot h k
    unfold in7 at this ⊢
    simp only [rotC]
    omega
theorem in7_flip {b : Int} {c : C} (h : in7 b c) (m : Nat) : in7 b (flipC m c) := by
  unfold in7 at h ⊢
  unfold flipC
  split
  · simp only; omega
  · exact h
theorem in7_mot {b : Int} {c : C} (h : in7 b c) (m : Nat) : in7 b (motC m c) := in7_rot (in7_flip h m) _
theorem in7_onB {c : C} (h : onB c = true) : in7 7 c := by
  simp [onB] at h
  unfold in7
  omega
/-- A shape turned, in its corner. -/
def turnV (s : List C) (m : Nat) : List C := cornI (s.map (motC m))
theorem turn_in {s : List C} (hs : isShape s = true) (m : Nat) : ∀ c ∈ s.map (motC m), in7 7 c := by
  intro c hc
  obtain ⟨d, hd, rfl⟩ := List.mem_map.1 hc
  exact in7_mot (in7_onB (shape_onB hs d hd)) m
theorem corn_in {s : List C} (h0 : 0 < s.length) (h : ∀ c ∈ s, in7 7 c) : ∀ c ∈ cornI s, (0 ≤ c.1 ∧ c.1 ≤ 14) ∧ (0 ≤ c.2 ∧ c.2 ≤ 14) := by
  intro c hc
  unfold cornI at hc
  rw [sortC_mem, mv_mem] at hc
  have h1 := h _ hc
  have h2 := minC_le (·.1) hc
  have h3 := minC_le (·.2) hc
  obtain ⟨d, hd, e⟩ := minC_at (·.1) h0
  obtain ⟨f, hf, e2⟩ := minC_at (·.2) h0
  have h4 := h d hd
  have h5 := h f hf
  unfold in7 at h1 h4 h5
  simp only at h1 h2 h3
  omega
theorem turn_small {s : List C} (hs : isShape s = true) (m : Nat) : ∀ c ∈ turnV s m, (0 ≤ c.1 ∧ c.1 ≤ 14) ∧ (0 ≤ c.2 ∧ c.2 ≤ 14) :=
  corn_in (by have := (shape_len hs).1; rw [List.length_map]; omega) (turn_in hs m)
theorem turn_len {s : List C} (hs : isShape s = true) (m : Nat) : 1 ≤ (turnV s m).length ∧ (turnV s m).length ≤ 8 := by
  have h1 := shape_len hs
  have h2 := cornI_len (s.map (motC m))
  rw [List.length_map] at h2
  refine ⟨?_, by unfold turnV; omega⟩
  have h3 : 0 < (mv (s.map (motC m)) (-(minC (·.1) (s.map (motC m)))) (-(minC (·.2) (s.map (motC m))))).length := by rw [mv_len, List.length_map]; omega
  exact sortC_ne h3
/-- The orientations on the way. -/
def orTo (s : List C) : Nat → List (List C)
  | 0 => []
  | k + 1 => putG ltS (orTo s k) (turnV s k)
def orV (s : List C) : List (List C) := if isShape s then orTo s 8 else []
theorem orTo_inc (s : List C) : ∀ k, IncG ltS (orTo s k)
  | 0 => List.Pairwise.nil
  | k + 1 => (putG_inc ltS_sto (orTo_inc s k) _).1
theorem orTo_mem (s : List C) : ∀ k x, x ∈ orTo s k → ∃ m, m < k ∧ x = turnV s m
  | 0, x, h => by simp [orTo] at h
  | k + 1, x, h => by
    rcases ((putG_inc ltS_sto (orTo_inc s k) _).2 x).1 h with h | h
    · obtain ⟨m, hm, e⟩ := orTo_mem s k x h
      exact ⟨m, by omega, e⟩
    · exact ⟨k, by omega, h⟩
theorem orTo_len (s : List C) : ∀ k, (orTo s k).length ≤ k
  | 0 => by simp [orTo]
  | k + 1 => by
    have h1 := orTo_len s k
    have h2 := putG_len (lt := ltS) (orTo s k) (turnV s k)
    show (putG ltS (orTo s k) (turnV s k)).length ≤ _
    omega
theorem orV_fine {s : List C} : ∀ t ∈ orV s, (1 ≤ t.length ∧ t.length ≤ 8) ∧ ∀ c ∈ t, (0 ≤ c.1 ∧ c.1 ≤ 14) ∧ (0 ≤ c.2 ∧ c.2 ≤ 14) := by
  intro t ht
  unfold orV at ht
  split at ht
  · next hs =>
    obtain ⟨m, _, rfl⟩ := orTo_mem s 8 t ht
    exact ⟨turn_len hs m, turn_small hs m⟩
  · simp at ht
theorem orV_len (s : List C) : (orV s).length ≤ 8 := by
  unfold orV
  split
  · exact orTo_len s 8
  · simp
/-- The mask of cells of a region. -/
def posM (W : Nat) (c : C) : Nat := (c.2 * W + c.1).toNat
def hasR (W : Int) (rows : List Int) (c : C) : Bool :=
  (decide (0 ≤ c.1) && decide (c.1 < W)) && (decide (0 ≤ c.2) && decide (c.2 < rows.length)) && (rows.getD c.2.toNat 0).toNat.testBit c.1.toNat
def mcV (W : Int) (rows : List Int) : List C → Nat → Option Nat
  | [], n => some n
  | c :: t, n => if hasR W rows c && !n.testBit (posM W.toNat c) then mcV W rows t (n + 2 ^ posM W.toNat c) else none
theorem hasR_pos {m : Nat} {rows : List Int} {c : C} (h : hasR (m : Int) rows c = true) : ∃ x y : Nat, c = ((x : Int), (y : Int)) ∧ x < m ∧ y < rows.length ∧ posM m c = y * m + x ∧ y * m + x < m * rows.length := by
  unfold hasR at h
  simp only [Bool.and_eq_true, decide_eq_true_eq] at h
  obtain ⟨⟨⟨h1, h2⟩, h3, h4⟩, _⟩ := h
  obtain ⟨x, hx⟩ := Int.eq_ofNat_of_zero_le h1
  obtain ⟨y, hy⟩ := Int.eq_ofNat_of_zero_le h3
  have e : c = ((x : Int), (y : Int)) := Prod.ext hx hy
  subst e
  simp only at h2 h4
  have hx' : x < m := by omega
  have hy' : y < rows.length := by omega
  refine ⟨x, y, rfl, hx', hy', ?_, ?_⟩
  · show ((y : Int) * (m : Int) + (x : Int)).toNat = _
    rw [show (y : Int) * (m : Int) + (x : Int) = ((y * m + x : Nat) : Int) from by simp]
    exact Int.toNat_natCast _
  · have : (y + 1) * m ≤ rows.length * m := Nat.mul_le_mul_right m hy'
    rw [Nat.succ_mul] at this
    rw [Nat.mul_comm m]
    omega
theorem mcV_lt {m : Nat} {rows : List Int} (h36 : m * rows.length ≤ 36) : ∀ (l : List C) (n v : Nat), n < 2 ^ (m * rows.length) → mcV (m : Int) rows l n = some v → v < 2 ^ (m * rows.length)
  | [], n, v, hn, h => by simp only [mcV, Option.some.injEq] at h; omega
  | c :: t, n, v, hn, h => by
    unfold mcV at h
    split at h
    · next hc =>
      simp only [Bool.and_eq_true, Bool.not_eq_true'] at hc
      obtain ⟨x, y, _, _, _, hp, hlt⟩ := hasR_pos hc.1
      have e : ((m : Int)).toNat = m := Int.toNat_natCast _
      rw [e] at h hc
      have h62 : (2 : Nat) ^ (m * rows.length) ≤ 2 ^ 36 := Nat.pow_le_pow_right (by decide) h36
      have : n + 2 ^ posM m c < 2 ^ (m * rows.length) := by
        rw [← or_bit (by omega) (by omega) hc.2]
        exact Nat.or_lt_two_pow hn (Nat.pow_lt_pow_right (by decide) (by omega))
      exact mcV_lt h36 t _ v this h
    · cases h
/-- The placements of a shape at one place, in a row, in all rows, of all orientations, in the order of the search. -/
def optL : Option Nat → List Int
  | some m => [(m : Int)]
  | none => []
def plAt (W : Int) (rows : List Int) (t : List C) (y x : Nat) : List Int := optL (mcV W rows (mv t x y) 0)
def rowX (W : Int) (rows : List Int) (t : List C) (y : Nat) : Nat → List Int
  | 0 => []
  | k + 1 => rowX W rows t y k ++ plAt W rows t y k
def rowY (W : Int) (rows : List Int) (t : List C) : Nat → List Int
  | 0 => []
  | k + 1 => rowY W rows t k ++ rowX W rows t k W.toNat
def rawTo (W : Int) (rows : List Int) (F : List (List C)) : Nat → List Int
  | 0 => []
  | k + 1 => rawTo W rows F k ++ rowY W rows (F.getD k []) rows.length
def rawV (W : Int) (rows : List Int) (s : List C) : List Int := rawTo W rows (orV s) (orV s).length
def plV (W : Int) (rows : List Int) (s : List C) : List Int := if isReg W rows then putAll (rawV W rows s) else []
/-- What placements are: masks of the grid. -/
def Msk (N : Nat) (l : List Int) : Prop := ∀ x ∈ l, ∃ q : Nat, x = (q : Int) ∧ q < 2 ^ N
theorem Msk.nil (N : Nat) : Msk N [] := by simp [Msk]
theorem Msk.app {N : Nat} {a b : List Int} (h : Msk N a) (k : Msk N b) : Msk N (a ++ b) := fun x hx => by
  rcases List.mem_append.1 hx with h1 | h1
  · exact h x h1
  · exact k x h1
theorem plAt_msk {m : Nat} {rows : List Int} (h36 : m * rows.length ≤ 36) (t : List C) (y x : Nat) : Msk (m * rows.length) (plAt (m : Int) rows t y x) ∧ (plAt (m : Int) rows t y x).length ≤ 1 := by
  unfold plAt
  rcases hv : mcV (m : Int) rows (mv t x y) 0 with _ | v
  · exact ⟨Msk.nil _, by simp [optL]⟩
  · refine ⟨fun z hz => ?_, by simp [optL]⟩
    simp only [optL, List.mem_singleton] at hz
    exact ⟨v, hz, mcV_lt h36 _ 0 v (Nat.pow_pos (by decide)) hv⟩
theorem rowX_msk {m : Nat} {rows : List Int} (h36 : m * rows.length ≤ 36) (t : List C) (y : Nat) : ∀ k, Msk (m * rows.length) (rowX (m : Int) rows t y k) ∧ (rowX (m : Int) rows t y k).length ≤ k
  | 0 => ⟨Msk.nil _, by simp [rowX]⟩
  | k + 1 => by
    obtain ⟨h1, h2⟩ := rowX_msk h36 t y k
    obtain ⟨h3, h4⟩ := plAt_msk h36 t y k
    refine ⟨h1.app h3, ?_⟩
    show (rowX _ _ _ _ _ ++ plAt _ _ _ _ _).length ≤ _
    rw [List.length_append]
    omega
theorem rowY_msk {m : Nat} {rows : List Int} (h36 : m * rows.length ≤ 36) (t : List C) : ∀ k, Msk (m * rows.length) (rowY (m : Int) rows t k) ∧ (rowY (m : Int) rows t k).length ≤ k * m
  | 0 => ⟨Msk.nil _, by simp [rowY]⟩
  | k + 1 => by
    obtain ⟨h1, h2⟩ := rowY_msk h36 t k
    obtain ⟨h3, h4⟩ := rowX_msk h36 t k m
    have e : ((m : Int)).toNat = m := Int.toNat_natCast _
    refine ⟨?_, ?_⟩
    · show Msk _ (rowY _ _ _ _ ++ rowX _ _ _ _ _)
      rw [e]
      exact h1.app h3
    · show (rowY _ _ _ _ ++ rowX _ _ _ _ _).length ≤ _
      rw [List.length_append, e, Nat.succ_mul]
      omega
theorem rawTo_msk {m : Nat} {rows : List Int} (h36 : m * rows.length ≤ 36) (F : List (List C)) : ∀ k, Msk (m * rows.length) (rawTo (m : Int) rows F k) ∧ (rawTo (m : Int) rows F k).length ≤ k * 36
  | 0 => ⟨Msk.nil _, by simp [rawTo]⟩
  | k + 1 => by
    obtain ⟨h1, h2⟩ := rawTo_msk h36 F k
    obtain ⟨h3, h4⟩ := rowY_msk h36 (F.getD k []) rows.length
    refine ⟨h1.app h3, ?_⟩
    show (rawTo _ _ _ _ ++ rowY _ _ _ _).length ≤ _
    rw [Nat.mul_comm rows.length] at h4
    rw [List.length_append, Nat.succ_mul]
    omega
theorem reg36 {W : Int} {rows : List Int} (h : isReg W rows = true) : ∃ m : Nat, W = (m : Int) ∧ m * rows.length ≤ 36 := by
  obtain ⟨m, rfl, _, h6, _, h7, _⟩ := isReg_yes h
  have : m * rows.length ≤ 6 * 6 := Nat.mul_le_mul h6 h7
  exact ⟨m, rfl, this⟩
theorem rawV_len {W : Int} {rows : List Int} (h : isReg W rows = true) (s : List C) : (rawV W rows s).length ≤ 288 := by
  obtain ⟨m, rfl, h36⟩ := reg36 h
  have h1 := (rawTo_msk h36 (orV s) (orV s).length).2
  have h2 := orV_len s
  have : (orV s).length * 36 ≤ 8 * 36 := Nat.mul_le_mul_right _ h2
  unfold rawV
  omega
theorem putAll_mem (l : List Int) (x : Int) : x ∈ putAll l ↔ x ∈ l := by
  have := (foldl_inc l [] List.Pairwise.nil).2 x
  simpa [putAll] using this
theorem putAll_len (l : List Int) : (putAll l).length ≤ l.length := by rw [← ord_eq]; exact ord_len l
theorem plV_len (W : Int) (rows : List Int) (s : List C) : (plV W rows s).length ≤ 288 := by
  unfold plV
  split
  · next h => exact Nat.le_trans (putAll_len _) (rawV_len h s)
  · simp
theorem plV_msk (W : Int) (rows : List Int) (s : List C) : Msk 36 (plV W rows s) := by
  unfold plV
  split
  · next h =>
    obtain ⟨m, rfl, h36⟩ := reg36 h
    intro x hx
    obtain ⟨q, e, hq⟩ := (rawTo_msk h36 (orV s) (orV s).length).1 x ((putAll_mem _ _).1 hx)
    exact ⟨q, e, Nat.lt_of_lt_of_le hq (Nat.pow_le_pow_right (by decide) h36)⟩
  · exact Msk.nil _
theorem plV_inc (W : Int) (rows : List Int) (s : List C) : Inc (plV W rows s) := by
  unfold plV
  split
  · exact (foldl_inc _ [] List.Pairwise.nil).1
  · exact List.Pairwise.nil
theorem bit_testP (m k : Nat) (hm : m < 2 ^ 62) : (bits .and .i64 ((m : Int) / 2 ^ k) 1 == 1) = m.testBit k := by
  have e : ((m : Int) / 2 ^ k) = ((m / 2 ^ k : Nat) : Int) := by simp
  have hle := Nat.div_le_self m (2 ^ k)
  have h1 := i64_and (m / 2 ^ k) 1 (by omega) (by decide)
  rw [e, show (1 : Int) = ((1 : Nat) : Int) from rfl, h1, Nat.and_one_is_mod, bit_and]
  cases m.testBit k <;> rfl
/-- What the mask of cells answers. -/
def mcR : Option Nat → Value
  | some v => .tuple #[.int .i64 (v : Int), .bool true]
  | none => .tuple #[.int .i64 0, .bool false]
theorem mcV_no {W : Int} {rows : List Int} {c : C} {t : List C} {n : Nat} (h : (hasR W rows c && !n.testBit (posM W.toNat c)) = false) : mcV W rows (c :: t) n = none := by unfold mcV; rw [h]; rfl
theorem mcV_yes {W : Int} {rows : List Int} {c : C} {t : List C} {n : Nat} (h : (hasR W rows c && !n.testBit (posM W.toNat c)) = true) : mcV W rows (c :: t) n = mcV W rows t (n + 2 ^ posM W.toNat c) := by
  show (if _ then _ else _) = _
  rw [if_pos h]
theorem putAll_snoc (l : List Int) (x : Int) : putAll (l ++ [x]) = putI (putAll l) x := by simp [putAll]
/-- The placements of all pieces. -/
def catTo (W : Int) (rows : List Int) (P : List (List C)) : Nat → List Int
  | 0 => []
  | k + 1 => catTo W rows P k ++ plV W rows (P.getD k [])
def allV (W : Int) (rows : List Int) (P : List (List C)) : List Int := putAll (catTo W rows P P.length)
theorem catTo_msk (W : Int) (rows : List Int) (P : List (List C)) : ∀ k, Msk 36 (catTo W rows P k) ∧ (catTo W rows P k).length ≤ 288 * k
  | 0 => ⟨Msk.nil _, by simp [catTo]⟩
  | k + 1 => by
    obtain ⟨h1, h2⟩ := catTo_msk W rows P k
    refine ⟨h1.app (plV_msk W rows _), ?_⟩
    have := plV_len W rows (P.getD k [])
    show (catTo W rows P k ++ plV _ _ _).length ≤ _
    rw [List.length_append]
    omega
theorem allV_msk (W : Int) (rows : List Int) (P : List (List C)) : Msk 36 (allV W rows P) := fun x hx => (catTo_msk W rows P P.length).1 x ((putAll_mem _ _).1 hx)
theorem allV_len (W : Int) (rows : List Int) (P : List (List C)) : (allV W rows P).length ≤ 288 * P.length := Nat.le_trans (putAll_len _) (catTo_msk W rows P P.length).2
theorem allV_inc (W : Int) (rows : List Int) (P : List (List C)) : Inc (allV W rows P) := (foldl_inc _ [] List.Pairwise.nil).1
/-- Masks gathered one by one, as long as all is well. -/
def optTo (ok : Nat → Nat → Bool) (f : Nat → Nat) : Nat → Option Nat
  | 0 => some 0
  | k + 1 => match optTo ok f k with
    | none => none
    | some u => if ok k u then some (u ||| f k) else none
theorem optTo_succ {ok : Nat → Nat → Bool} {f : Nat → Nat} {k u : Nat} (h : optTo ok f k = some u) : optTo ok f (k + 1) = if ok k u then some (u ||| f k) else none := by
  show (match optTo ok f k with | none => none | some u => if ok k u then some (u ||| f k) else none) = _
  rw [h]
theorem optTo_stay {ok : Nat → Nat → Bool} {f : Nat → Nat} {k : Nat} (h : optTo ok f k = none) : ∀ j, optTo ok f (k + j) = none
  | 0 => h
  | j + 1 => by
    show (match optTo ok f (k + j) with | none => none | some u => if ok (k + j) u then some (u ||| f (k + j)) else none) = _
    rw [optTo_stay h j]
theorem optTo_no {ok : Nat → Nat → Bool} {f : Nat → Nat} {k u n : Nat} (h : optTo ok f k = some u) (h2 : ok k u = false) (hn : k < n) : optTo ok f n = none := by
  have h3 : optTo ok f (k + 1) = none := by rw [optTo_succ h, h2]; rfl
  have := optTo_stay h3 (n - (k + 1))
  rwa [show k + 1 + (n - (k + 1)) = n by omega] at this
/-- Masks that are a solution, a covering. -/
def optIs : Option Nat → Nat → Bool
  | none, _ => false
  | some u, v => u == v
def solOk (W : Int) (rows : List Int) (P : List (List C)) (l : List Int) (k u : Nat) : Bool := (plV W rows (P.getD k [])).any (· == l.getD k 0) && u &&& (l.getD k 0).toNat == 0
def solTo (W : Int) (rows : List Int) (P : List (List C)) (l : List Int) : Nat → Option Nat := optTo (solOk W rows P l) (fun k => (l.getD k 0).toNat)
def solV (W : Int) (rows : List Int) (P : List (List C)) (l : List Int) : Bool := (isReg W rows && pcs P) && (l.length == P.length && optIs (solTo W rows P l l.length) (maskV W rows))
def covOk (L l : List Int) (k : Nat) (_u : Nat) : Bool := L.any (· == l.getD k 0) && (k == 0 || decide (l.getD (k - 1) 0 < l.getD k 0))
def covTo (L l : List Int) : Nat → Option Nat := optTo (covOk L l) (fun k => (l.getD k 0).toNat)
def covV (W : Int) (rows : List Int) (P : List (List C)) (l : List Int) : Bool := (isReg W rows && pcs P) && optIs (covTo (allV W rows P) l l.length) (maskV W rows)
theorem has_msk {L : List Int} (h : Msk 36 L) {m : Int} (hm : L.any (· == m) = true) : ∃ q : Nat, m = (q : Int) ∧ q < 2 ^ 36 := by
  rw [List.any_eq_true] at hm
  obtain ⟨x, hx, e⟩ := hm
  rw [beq_iff_eq] at e
  subst e
  exact h x hx
end Go.Proofs.YteelmhmdnljjnaaGreat
