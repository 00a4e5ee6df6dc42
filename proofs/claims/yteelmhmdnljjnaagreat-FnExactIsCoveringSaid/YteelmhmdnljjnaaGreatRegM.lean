/- Regions, masks and motions of a grid: plain functions. No program is in sight. -/
import Derived.Test.YteelmhmdnljjnaaGreatKit
import Derived.Laws.BitsLemmas
namespace Go.Proofs.YteelmhmdnljjnaaGreat
open Go.RowKit
set_option linter.unusedVariables false
/-- A region that is right. -/
def isReg (W : Int) (rows : List Int) : Bool :=
  ((decide (1 ≤ W) && decide (W ≤ 6)) && (decide (1 ≤ (rows.length : Int)) && decide ((rows.length : Int) ≤ 6))) && rows.all (fun x => decide (0 ≤ x) && decide (x < 2 ^ W.toNat))
theorem isReg_yes {W : Int} {rows : List Int} (h : isReg W rows = true) :
    ∃ n : Nat, W = (n : Int) ∧ 1 ≤ n ∧ n ≤ 6 ∧ 1 ≤ rows.length ∧ rows.length ≤ 6 ∧ ∀ k (hk : k < rows.length), ∃ q : Nat, rows[k] = (q : Int) ∧ q < 2 ^ n := by
  unfold isReg at h
  simp only [Bool.and_eq_true, decide_eq_true_eq, List.all_eq_true] at h
  obtain ⟨⟨⟨h1, h2⟩, h3, h4⟩, h5⟩ := h
  refine ⟨W.toNat, by omega, by omega, by omega, by omega, by omega, fun k hk => ?_⟩
  obtain ⟨h6, h7⟩ := h5 _ (List.getElem_mem hk)
  obtain ⟨q, hq⟩ := Int.eq_ofNat_of_zero_le h6
  rw [hq] at h7
  exact ⟨q, hq, by exact_mod_cast h7⟩
/-- The mask of the rows below k. -/
def mkTo (n : Nat) (rows : List Int) : Nat → Nat
  | 0 => 0
  | k + 1 => mkTo n rows k + (rows.getD k 0).toNat * 2 ^ (k * n)
theorem mkTo_lt {n : Nat} {rows : List Int} (h : ∀ k (hk : k < rows.length), ∃ q : Nat, rows[k] = (q : Int) ∧ q < 2 ^ n) : ∀ k, k ≤ rows.length → mkTo n rows k < 2 ^ (k * n)
  | 0, _ => by simp [mkTo]
  | k + 1, hk => by
    have h1 := mkTo_lt h k (by omega)
    obtain ⟨q, hq, hlt⟩ := h k (by omega)
    have e : (rows.getD k 0).toNat = q := by rw [List.getD_eq_getElem?_getD, List.getElem?_eq_getElem (by omega), Option.getD_some, hq]; rfl
    show mkTo n rows k + _ < _
    rw [e, Nat.succ_mul, Nat.pow_add]
    have : q + 1 ≤ 2 ^ n := hlt
    calc mkTo n rows k + q * 2 ^ (k * n) < 2 ^ (k * n) + q * 2 ^ (k * n) := by omega
      _ = (q + 1) * 2 ^ (k * n) := by rw [Nat.succ_mul]; omega
      _ ≤ 2 ^ n * 2 ^ (k * n) := Nat.mul_le_mul_right _ this
      _ = 2 ^ (k * n) * 2 ^ n := Nat.mul_comm _ _
/-- A bit that is not there is added. -/
theorem or_bit {a d : Nat} (ha : a < 2 ^ 62) (hd : d < 62) (h : a.testBit d = false) : a ||| 2 ^ d = a + 2 ^ d := by
  have hp : 2 ^ d < 2 ^ 62 := Nat.pow_lt_pow_right (by decide) hd
  have h0 : BitVec.ofNat 64 a &&& BitVec.ofNat 64 (2 ^ d) = 0#64 := by
    apply BitVec.eq_of_toNat_eq
    rw [BitVec.toNat_and, BitVec.toNat_ofNat, BitVec.toNat_ofNat, Nat.mod_eq_of_lt (by omega), Nat.mod_eq_of_lt (by omega)]
    apply Nat.eq_of_testBit_eq
    intro i
    rw [Nat.testBit_and, Nat.testBit_two_pow]
    by_cases e : d = i
    · subst e; simp [h]
    · simp [e]
  have h1 := congrArg BitVec.toNat (BitVec.add_eq_or_of_and_eq_zero _ _ h0)
  rw [BitVec.toNat_add, BitVec.toNat_or, BitVec.toNat_ofNat, BitVec.toNat_ofNat, Nat.mod_eq_of_lt (by omega : a < 2 ^ 64), Nat.mod_eq_of_lt (by omega : 2 ^ d < 2 ^ 64), Nat.mod_eq_of_lt (by omega)] at h1
  exact h1.symm
theorem wraps_i64 (n : Int) (h₀ : 0 ≤ n) (h₁ : n < 2 ^ 63) : IntKind.i64.wrap n = n := by rw [IntKind.wrap_i64]; omega
theorem i64_or (a b : Nat) (ha : a < 2 ^ 63) (hb : b < 2 ^ 63) : bits .or .i64 (a : Int) (b : Int) = ((a ||| b : Nat) : Int) := (bits_nat .i64 63 (by decide) wraps_i64 a b ha hb).2
theorem i64_and (a b : Nat) (ha : a < 2 ^ 63) (hb : b < 2 ^ 63) : bits .and .i64 (a : Int) (b : Int) = ((a &&& b : Nat) : Int) := (bits_nat .i64 63 (by decide) wraps_i64 a b ha hb).1
theorem or_high {a b i : Nat} (ha : a < 2 ^ i) : a ||| b * 2 ^ i = a + b * 2 ^ i := by
  rw [Nat.or_comm, Nat.mul_comm, Nat.add_comm]
  exact (Nat.two_pow_add_eq_or_of_lt ha b).symm
theorem bit_and (m k : Nat) : m / 2 ^ k % 2 = (m.testBit k).toNat := by
  rw [Nat.testBit_eq_decide_div_mod_eq]
  rcases Nat.mod_two_eq_zero_or_one (m / 2 ^ k) with h | h <;> simp [h]
/-- A quarter turn: width, height, place. -/
abbrev Q4 := Int × Int × Int × Int
def quarter (q : Q4) : Q4 := (q.2.1, q.1, q.2.1 - 1 - q.2.2.2, q.2.2.1)
def rot : Nat → Q4 → Q4
  | 0, q => q
  | k + 1, q => quarter (rot k q)
def okQ (q : Q4) : Prop := 1 ≤ q.1 ∧ q.1 ≤ 6 ∧ 1 ≤ q.2.1 ∧ q.2.1 ≤ 6 ∧ 0 ≤ q.2.2.1 ∧ q.2.2.1 < q.1 ∧ 0 ≤ q.2.2.2 ∧ q.2.2.2 < q.2.1
theorem okQ_quarter {q : Q4} (h : okQ q) : okQ (quarter q) := by
  unfold okQ quarter at *
  simp only
  omega
theorem okQ_rot {q : Q4} (h : okQ q) : ∀ k, okQ (rot k q)
  | 0 => h
  | k + 1 => okQ_quarter (okQ_rot h k)
/-- Where a motion carries a place. -/
def startQ (w h x y : Int) (m : Nat) : Q4 := (w, h, if 4 ≤ m then w - 1 - x else x, y)
def carry (w h x y : Int) (m : Nat) : Q4 := rot (m % 4) (startQ w h x y m)
theorem okQ_start {w h x y : Int} (m : Nat) (hq : okQ (w, h, x, y)) : okQ (startQ w h x y m) := by
  unfold okQ startQ at *
  simp only at hq ⊢
  split <;> omega
/-- The number of the place where a motion carries place i of a grid. -/
def pos (n h m i : Nat) : Nat := ((carry n h ((i % n : Nat) : Int) ((i / n : Nat) : Int) m).2.2.2 * n + (carry n h ((i % n : Nat) : Int) ((i / n : Nat) : Int) m).2.2.1).toNat
def goesM (n h m : Nat) : Bool := m % 2 == 0 || n == h
def posOk (n h m : Nat) : Bool := !goesM n h m || ((List.range (n * h)).map (pos n h m)).Nodup && (List.range (n * h)).all fun i => decide (pos n h m i < n * h)
theorem posOk_all : ((List.range 7).all fun n => (List.range 7).all fun h => (List.range 8).all fun m => n == 0 || h == 0 || posOk n h m) = true := by decide +kernel
theorem pos_ok {n h m : Nat} (hn : 1 ≤ n ∧ n ≤ 6) (hh : 1 ≤ h ∧ h ≤ 6) (hm : m < 8) (hg : goesM n h m = true) :
    (∀ i, i < n * h → pos n h m i < n * h) ∧ ∀ i j, i < n * h → j < n * h → pos n h m i = pos n h m j → i = j := by
  have h0 := posOk_all
  simp only [List.all_eq_true, List.mem_range, Bool.or_eq_true, beq_iff_eq] at h0
  have h1 := h0 n (by omega) h (by omega) m hm
  have h2 : posOk n h m = true := by
    rcases h1 with (h1 | h1) | h1
    · omega
    · omega
    · exact h1
  unfold posOk at h2
  rw [hg] at h2
  simp only [Bool.not_true, Bool.false_or, Bool.and_eq_true, decide_eq_true_eq, List.all_eq_true, List.mem_range] at h2
  refine ⟨h2.2, fun i j hi hj e => ?_⟩
  have hp := List.pairwise_iff_getElem.1 h2.1
  rcases Nat.lt_trichotomy i j with hij | hij | hij
  · exact absurd e (by have := hp i j (by simpa using hi) (by simpa using hj) hij; simpa using this)
  · exact hij
  · exact absurd e.symm (by have := hp j i (by simpa using hj) (by simpa using hi) hij; simpa using this)
/-- The mask that a motion makes of the places below k. -/
def turnTo (n h m mask : Nat) : Nat → Nat
  | 0 => 0
  | k + 1 => turnTo n h m mask k + (if mask.testBit k then 2 ^ pos n h m k else 0)
theorem turn_bits {n h m mask : Nat} (hp : ∀ i j, i < n * h → j < n * h → pos n h m i = pos n h m j → i = j) (hl : ∀ i, i < n * h → pos n h m i < n * h) (h36 : n * h ≤ 36) :
    ∀ k, k ≤ n * h → turnTo n h m mask k < 2 ^ (n * h) ∧ ∀ j, (turnTo n h m mask k).testBit j = true → ∃ i, i < k ∧ mask.testBit i = true ∧ pos n h m i = j
  | 0, _ => ⟨by simp [turnTo]; exact Nat.pow_pos (by decide), fun j hj => by simp [turnTo] at hj⟩
  | k + 1, hk => by
    obtain ⟨h1, h2⟩ := turn_bits hp hl h36 k (by omega)
    have h62 : (2 : Nat) ^ (n * h) ≤ 2 ^ 36 := Nat.pow_le_pow_right (by decide) h36
    by_cases hb : mask.testBit k = true
    · have hk2 := hl k (by omega)
      have hnb : (turnTo n h m mask k).testBit (pos n h m k) = false := by
        cases e : (turnTo n h m mask k).testBit (pos n h m k) with
        | false => rfl
        | true =>
          obtain ⟨i, hi, _, hpi⟩ := h2 _ e
          have := hp i k (by omega) (by omega) hpi
          omega
      have e : turnTo n h m mask (k + 1) = turnTo n h m mask k ||| 2 ^ pos n h m k := by
        show turnTo n h m mask k + _ = _
        rw [if_pos hb, or_bit (by omega) (by omega) hnb]
      rw [e]
      refine ⟨Nat.or_lt_two_pow h1 (Nat.pow_lt_pow_right (by decide) hk2), fun j hj => ?_⟩
      rw [Nat.testBit_or, Bool.or_eq_true, Nat.testBit_two_pow] at hj
      rcases hj with hj | hj
      · obtain ⟨i, hi, h3⟩ := h2 j hj
        exact ⟨i, by omega, h3⟩
      · exact ⟨k, by omega, hb, by simpa using hj⟩
    · have e : turnTo n h m mask (k + 1) = turnTo n h m mask k := by
        show turnTo n h m mask k + _ = _
        rw [if_neg hb, Nat.add_zero]
      rw [e]
      refine ⟨h1, fun j hj => ?_⟩
      obtain ⟨i, hi, h3⟩ := h2 j hj
      exact ⟨i, by omega, h3⟩
theorem turn_or {n h m mask : Nat} (hp : ∀ i j, i < n * h → j < n * h → pos n h m i = pos n h m j → i = j) (hl : ∀ i, i < n * h → pos n h m i < n * h) (h36 : n * h ≤ 36) {k : Nat} (hk : k < n * h) (hb : mask.testBit k = true) :
    turnTo n h m mask (k + 1) = turnTo n h m mask k ||| 2 ^ pos n h m k := by
  obtain ⟨h1, h2⟩ := turn_bits hp hl h36 k (mask := mask) (by omega)
  have h62 : (2 : Nat) ^ (n * h) ≤ 2 ^ 36 := Nat.pow_le_pow_right (by decide) h36
  have hk2 := hl k hk
  have hnb : (turnTo n h m mask k).testBit (pos n h m k) = false := by
    cases e : (turnTo n h m mask k).testBit (pos n h m k) with
    | false => rfl
    | true =>
      obtain ⟨i, hi, _, hpi⟩ := h2 _ e
      have := hp i k (by omega) (by omega) hpi
      omega
  show turnTo n h m mask k + _ = _
  rw [if_pos hb, or_bit (by omega) (by omega) hnb]
end Go.Proofs.YteelmhmdnljjnaaGreat
