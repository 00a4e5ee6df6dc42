/- Masks within masks: bits of natural numbers. No program is in sight. -/
import Derived.Test.YtcgohceakjjlhaaRegM
namespace Go.Proofs.Ytcgohceakjjlhaa
open Go.RowKit
set_option linter.unusedVariables false
/-- All bits of a are bits of b. -/
def inM (a b : Nat) : Bool := a &&& b == a
theorem and_sub (a b : Nat) (hb : b < 2 ^ 64) (ha : a < 2 ^ 64) : a &&& (2 ^ 64 - 1 - b) = a - (a &&& b) := by
  have h1 : (BitVec.ofNat 64 a &&& BitVec.ofNat 64 b) &&& (BitVec.ofNat 64 a &&& ~~~BitVec.ofNat 64 b) = 0#64 := by
    ext i hi
    simp only [BitVec.getElem_and, BitVec.getElem_not, BitVec.getElem_zero]
    cases (BitVec.ofNat 64 a)[i] <;> cases (BitVec.ofNat 64 b)[i] <;> rfl
  have h2 := BitVec.add_eq_or_of_and_eq_zero _ _ h1
  have h3 : (BitVec.ofNat 64 a &&& BitVec.ofNat 64 b) ||| (BitVec.ofNat 64 a &&& ~~~BitVec.ofNat 64 b) = BitVec.ofNat 64 a := by
    ext i hi
    simp only [BitVec.getElem_or, BitVec.getElem_and, BitVec.getElem_not]
    cases (BitVec.ofNat 64 a)[i] <;> cases (BitVec.ofNat 64 b)[i] <;> rfl
  rw [h3] at h2
  have h4 := congrArg BitVec.toNat h2
  have ea : (BitVec.ofNat 64 a).toNat = a := by rw [BitVec.toNat_ofNat]; exact Nat.mod_eq_of_lt ha
  have eb : (BitVec.ofNat 64 b).toNat = b := by rw [BitVec.toNat_ofNat]; exact Nat.mod_eq_of_lt hb
  rw [BitVec.toNat_add, BitVec.toNat_and, BitVec.toNat_and, BitVec.toNat_not, ea, eb] at h4
  have hl : a &&& b ≤ a := Nat.and_le_left
  have hl2 : a &&& (2 ^ 64 - 1 - b) ≤ a := Nat.and_le_left
  -- no carry: both are below 2 ^ 64, and the sum is a
  have h5 : (a &&& b) + (a &&& (2 ^ 64 - 1 - b)) < 2 ^ 64 ∨ (a &&& b) + (a &&& (2 ^ 64 - 1 - b)) = a + 2 ^ 64 := by
    by_cases hlt : (a &&& b) + (a &&& (2 ^ 64 - 1 - b)) < 2 ^ 64
    · exact .inl hlt
    · right; omega
  rcases h5 with h5 | h5
  · rw [Nat.mod_eq_of_lt h5] at h4; omega
  · omega
theorem i64_andNot (a b : Nat) (ha : a < 2 ^ 63) (hb : b < 2 ^ 63) : bits .andNot .i64 (a : Int) (b : Int) = ((a - (a &&& b) : Nat) : Int) := by
  have ea : (BitVec.ofInt 64 (a : Int)).toNat = a := by rw [BitVec.ofInt_natCast, BitVec.toNat_ofNat]; exact Nat.mod_eq_of_lt (by omega)
  have eb : (BitVec.ofInt 64 (b : Int)).toNat = b := by rw [BitVec.ofInt_natCast, BitVec.toNat_ofNat]; exact Nat.mod_eq_of_lt (by omega)
  show IntKind.i64.wrap ((BitVec.ofInt 64 (a : Int) &&& ~~~BitVec.ofInt 64 (b : Int)).toNat : Int) = _
  rw [BitVec.toNat_and, BitVec.toNat_not, ea, eb, and_sub a b (by omega) (by omega)]
  exact wraps_i64 _ (by omega) (by have : a - (a &&& b) ≤ a := Nat.sub_le _ _; omega)
theorem sub_zero_iff (a b : Nat) : (a - (a &&& b) = 0) ↔ inM a b = true := by
  have hl : a &&& b ≤ a := Nat.and_le_left
  unfold inM
  rw [beq_iff_eq]
  omega
theorem inM_lt {a b : Nat} {k : Nat} (h : inM a b = true) (hb : b < 2 ^ k) : a < 2 ^ k := by
  unfold inM at h
  rw [beq_iff_eq] at h
  rw [← h]
  exact Nat.and_lt_two_pow _ hb
end Go.Proofs.Ytcgohceakjjlhaa
