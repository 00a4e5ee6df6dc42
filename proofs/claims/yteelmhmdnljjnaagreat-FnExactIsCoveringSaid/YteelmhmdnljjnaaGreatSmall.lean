/- Whether a number lies between two others: the program's and the reference's function. -/
import Derived.Test.YteelmhmdnljjnaaGreatApp
import Derived.Outline
namespace Go.Proofs.YteelmhmdnljjnaaGreat
open Go.RowKit
set_option linter.unusedVariables false
theorem between_t (n lo hi : Int) (w : World) (h1 : lo ≤ n) (h2 : n ≤ hi) : Calls Tryz.prog 95 #[.int .i64 n, .int .i64 lo, .int .i64 hi] w (Ret w (.bool true)) := by
  go_enter Tryz.func95, Tryz.ntmps95
  go_wp2
  go_ret
  exact ⟨rfl, Below.refl _ _⟩
theorem between_f (n lo hi : Int) (w : World) (h : ¬ (lo ≤ n ∧ n ≤ hi)) : Calls Tryz.prog 95 #[.int .i64 n, .int .i64 lo, .int .i64 hi] w (Ret w (.bool false)) := by
  by_cases h1 : lo ≤ n
  · have h2 : hi < n := by omega
    have h3 : decide (n ≤ hi) = false := by simp; omega
    clear h
    go_enter Tryz.func95, Tryz.ntmps95
    go_wp2
    go_ret
    exact ⟨rfl, Below.refl _ _⟩
  · have h2 : n < lo := by omega
    clear h h1
    go_enter Tryz.func95, Tryz.ntmps95
    go_wp2
    go_ret
    exact ⟨rfl, Below.refl _ _⟩
theorem between_b (n lo hi : Int) (b : Bool) (w : World) (h : b = (decide (lo ≤ n) && decide (n ≤ hi))) : Calls Tryz.prog 95 #[.int .i64 n, .int .i64 lo, .int .i64 hi] w (Ret w (.bool b)) := by
  subst h
  by_cases h1 : lo ≤ n ∧ n ≤ hi
  · rw [decide_eq_true h1.1, decide_eq_true h1.2]; exact between_t n lo hi w h1.1 h1.2
  · have e : (decide (lo ≤ n) && decide (n ≤ hi)) = false := by simp; omega
    rw [e]; exact between_f n lo hi w h1
theorem l1In_t (n lo hi : Int) (w : World) (h1 : lo ≤ n) (h2 : n ≤ hi) : Calls Tryz.prog 66 #[.int .i64 n, .int .i64 lo, .int .i64 hi] w (Ret w (.bool true)) := by
  go_enter Tryz.func66, Tryz.ntmps66
  go_wp2
  go_ret
  exact ⟨rfl, Below.refl _ _⟩
theorem l1In_f (n lo hi : Int) (w : World) (h : ¬ (lo ≤ n ∧ n ≤ hi)) : Calls Tryz.prog 66 #[.int .i64 n, .int .i64 lo, .int .i64 hi] w (Ret w (.bool false)) := by
  by_cases h1 : lo ≤ n
  · have h2 : hi < n := by omega
    have h3 : decide (n ≤ hi) = false := by simp; omega
    clear h
    go_enter Tryz.func66, Tryz.ntmps66
    go_wp2
    go_ret
    exact ⟨rfl, Below.refl _ _⟩
  · have h2 : n < lo := by omega
    clear h h1
    go_enter Tryz.func66, Tryz.ntmps66
    go_wp2
    go_ret
    exact ⟨rfl, Below.refl _ _⟩
theorem l1In_b (n lo hi : Int) (b : Bool) (w : World) (h : b = (decide (lo ≤ n) && decide (n ≤ hi))) : Calls Tryz.prog 66 #[.int .i64 n, .int .i64 lo, .int .i64 hi] w (Ret w (.bool b)) := by
  subst h
  by_cases h1 : lo ≤ n ∧ n ≤ hi
  · rw [decide_eq_true h1.1, decide_eq_true h1.2]; exact l1In_t n lo hi w h1.1 h1.2
  · have e : (decide (lo ≤ n) && decide (n ≤ hi)) = false := by simp; omega
    rw [e]; exact l1In_f n lo hi w h1
end Go.Proofs.YteelmhmdnljjnaaGreat
