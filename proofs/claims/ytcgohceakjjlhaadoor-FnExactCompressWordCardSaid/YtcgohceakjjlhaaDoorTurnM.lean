/- Letters of a word, its turns, its runs: plain functions. No program is in sight. -/
import Derived.Test.YtcgohceakjjlhaaDoorWordsM
import Derived.Lib.ItoaNum
namespace Go.Proofs.YtcgohceakjjlhaaDoor
open Go.RowKit
set_option linter.unusedVariables false
def dig (b : UInt8) : Int := if b = 114 then 0 else if b = 100 then 1 else if b = 108 then 2 else 3
def rgt (b : UInt8) : UInt8 := if b = 114 then 100 else if b = 100 then 108 else if b = 108 then 117 else 114
def letter (b : UInt8) : Prop := b = 114 ∨ b = 108 ∨ b = 100 ∨ b = 117
theorem step_letter {c d : C} {b : UInt8} (h : stepW c b = some d) : letter b := by
  unfold stepW at h
  unfold letter
  by_cases h1 : b = 114
  · exact .inl h1
  by_cases h2 : b = 108
  · exact .inr (.inl h2)
  by_cases h3 : b = 100
  · exact .inr (.inr (.inl h3))
  by_cases h4 : b = 117
  · exact .inr (.inr (.inr h4))
  rw [if_neg h1, if_neg h2, if_neg h3, if_neg h4] at h
  cases h
theorem end_letters : ∀ {l : List UInt8} {c e : C}, endW c l = some e → ∀ b ∈ l, letter b
  | [], _, _, _ => by simp
  | a :: t, c, e, h => by
    simp only [endW, Option.bind_eq_some_iff] at h
    obtain ⟨d, hd, h⟩ := h
    intro b hb
    rcases List.mem_cons.1 hb with rfl | hb
    · exact step_letter hd
    · exact end_letters h b hb
theorem turn_dig {a b : UInt8} (ha : letter a) (hb : letter b) :
    (((dig b - dig a + 4) % 4 == 1) = decide (rgt a = b)) ∧ (((dig b - dig a + 4) % 4 == 3) = (!decide (rgt a = b) && decide (rgt b = a))) ∧ (0 ≤ dig a ∧ dig a ≤ 3) := by
  rcases ha with rfl | rfl | rfl | rfl <;> rcases hb with rfl | rfl | rfl | rfl <;> decide
def at0 (s : ByteArray) (k : Nat) : UInt8 := if h : k < s.size then s[k] else 0
theorem at0_at {s : ByteArray} {k : Nat} (h : k < s.size) : at0 s k = s[k] := dif_pos h
def rTo (s : ByteArray) : Nat → Nat
  | 0 => 0
  | k + 1 => rTo s k + (if rgt (at0 s k) = at0 s ((k + 1) % s.size) then 1 else 0)
def lTo (s : ByteArray) : Nat → Nat
  | 0 => 0
  | k + 1 => lTo s k + (if rgt (at0 s k) = at0 s ((k + 1) % s.size) then 0 else if rgt (at0 s ((k + 1) % s.size)) = at0 s k then 1 else 0)
def turnsV (s : ByteArray) : Value := if closedW s.data.toList = true then .tuple #[.int .i64 (rTo s s.size : Nat), .int .i64 (lTo s s.size : Nat)] else .tuple #[.int .i64 0, .int .i64 0]
theorem turnsV_form (s : ByteArray) : ∃ a b : Int, turnsV s = .tuple #[.int .i64 a, .int .i64 b] := by
  unfold turnsV
  split
  · exact ⟨_, _, rfl⟩
  · exact ⟨_, _, rfl⟩
theorem closed_40 {s : ByteArray} (h : closedW s.data.toList = true) : s.size ≤ 40 ∧ ∀ k (hk : k < s.size), letter s[k] := by
  unfold closedW at h
  simp only [Bool.and_eq_true, decide_eq_true_eq] at h
  have hsz : s.data.toList.length = s.size := by simp
  refine ⟨by omega, fun k hk => ?_⟩
  have := end_letters h.2 (s.data.toList[k]'(by omega)) (List.getElem_mem _)
  have h3 : letter (s.data[k]'hk) := by simpa using this
  exact h3
/-- The runs of a word's first letters: what is written, how long the last run is. -/
def cmpS (s : ByteArray) : Nat → List UInt8 × Nat
  | 0 => ([], 0)
  | i + 1 => if i + 1 = s.size ∨ at0 s (i + 1) ≠ at0 s i then ((cmpS s i).1 ++ Lib.decDigits ((cmpS s i).2 + 1) ++ [at0 s i], 0) else ((cmpS s i).1, (cmpS s i).2 + 1)
theorem cmp_end {s : ByteArray} {i : Nat} (h : i + 1 = s.size ∨ at0 s (i + 1) ≠ at0 s i) : cmpS s (i + 1) = ((cmpS s i).1 ++ Lib.decDigits ((cmpS s i).2 + 1) ++ [at0 s i], 0) := if_pos h
theorem cmp_on {s : ByteArray} {i : Nat} (h : ¬ (i + 1 = s.size ∨ at0 s (i + 1) ≠ at0 s i)) : cmpS s (i + 1) = ((cmpS s i).1, (cmpS s i).2 + 1) := if_neg h
theorem cmp_run_le (s : ByteArray) : ∀ i, (cmpS s i).2 ≤ i
  | 0 => Nat.le_refl _
  | i + 1 => by
    have := cmp_run_le s i
    unfold cmpS
    split
    · exact Nat.zero_le _
    · simp only; omega
theorem cmp_mid {s : ByteArray} {i k : Nat} (h0 : (cmpS s i).2 = 0) (hk : k ≤ s.size) (he : ∀ t, i ≤ t → t < k → at0 s t = at0 s i) : ∀ d, i + d < k → cmpS s (i + d) = ((cmpS s i).1, d)
  | 0, _ => by rw [Nat.add_zero, ← h0]
  | d + 1, hd => by
    have ih := cmp_mid h0 hk he d (by omega)
    rw [← Nat.add_assoc, cmp_on, ih]
    intro h
    rcases h with h | h
    · omega
    · exact h ((he (i + d + 1) (by omega) (by omega)).trans (he (i + d) (by omega) (by omega)).symm)
theorem cmp_run {s : ByteArray} {i k : Nat} (h0 : (cmpS s i).2 = 0) (hik : i < k) (hk : k ≤ s.size) (he : ∀ t, i ≤ t → t < k → at0 s t = at0 s i) (hend : k = s.size ∨ at0 s k ≠ at0 s i) :
    cmpS s k = ((cmpS s i).1 ++ Lib.decDigits (k - i) ++ [at0 s i], 0) := by
  have h1 := cmp_mid h0 hk he (k - 1 - i) (by omega)
  rw [show i + (k - 1 - i) = k - 1 from by omega] at h1
  have h2 := he (k - 1) (by omega) (by omega)
  have h3 : cmpS s (k - 1 + 1) = _ := cmp_end (s := s) (i := k - 1) (by
    rw [show k - 1 + 1 = k from by omega, h2]; exact hend)
  rw [show k - 1 + 1 = k from by omega, h1, h2] at h3
  rw [h3]
  simp only [show k - 1 - i + 1 = k - i from by omega]
def cmpV (s : ByteArray) : Value := if closedW s.data.toList = true then .tuple #[.string (bs (cmpS s s.size).1), .bool true] else .tuple #[.string (bs []), .bool false]
theorem cmpV_form (s : ByteArray) : ∃ q b, cmpV s = .tuple #[.string q, .bool b] := by
  unfold cmpV
  split
  · exact ⟨_, _, rfl⟩
  · exact ⟨_, _, rfl⟩
end Go.Proofs.YtcgohceakjjlhaaDoor
