/- The law on CountRowConvex. -/
import Derived.Test.YtagiifoejdlecaaRowW
import Derived.Test.YtagiifoejdlecaaRowsS
import Derived.Outline
import Derived.WalkLawsBesides
import Derived.WalkSpells
import Derived.BigQuiet
import Derived.Deep.QuietTactic
namespace Go.Proofs.Ytagiifoejdlecaa
open Go.RowKit
set_option linter.unusedVariables false
attribute [local go_sem ↓] Go.wp_at_zero Go.wp_at_succ

def rowC (x : Int) : Int := if 1 ≤ x ∧ x ≤ 12 then rowConvex x.toNat else -1
theorem CountRowConvex_i' (x : Int) (w : World) : Calls Try.prog 10 #[.int .i64 x] w (Ret w (.int .i64 (rowC x))) := by
  unfold rowC
  by_cases h : 1 ≤ x ∧ x ≤ 12
  · rw [if_pos h]
    obtain ⟨m, rfl⟩ := Int.eq_ofNat_of_zero_le (by omega : 0 ≤ x)
    exact CountRowConvex_i m w (by omega) (by omega)
  · rw [if_neg h]
    go_enter Try.func10, Try.ntmps10
    go_wp2_with (go_at_call 29; refine (between_f _ _ _ _ h).mono ?_; rintro e w1 ⟨rfl, hb1⟩)
    go_ret
    exact ⟨rfl, (by (repeat (first | with_reducible exact Below.refl _ _ | with_reducible assumption | with_reducible apply bel_alloc | with_reducible apply bel_drew | with_reducible apply bel_drewN | ((with_reducible refine bel_set ?_ ?_); rotate_left; (simp <;> omega)) | (with_reducible refine bel_trans ?_ (by with_reducible assumption)))))⟩
theorem CountRowConvex_s' (x : Int) (w : World) : Calls Try.prog 9 #[.int .i64 x] w (Ret w (.int .i64 (rowC x))) := by
  unfold rowC
  by_cases h : 1 ≤ x ∧ x ≤ 12
  · rw [if_pos h]
    obtain ⟨m, rfl⟩ := Int.eq_ofNat_of_zero_le (by omega : 0 ≤ x)
    exact CountRowConvex_s m w (by omega) (by omega)
  · rw [if_neg h]
    go_enter Try.func9, Try.ntmps9
    go_wp2_with (go_at_call 28; refine (l1In_f _ _ _ _ h).mono ?_; rintro e w1 ⟨rfl, hb1⟩)
    go_ret
    exact ⟨rfl, (by (repeat (first | with_reducible exact Below.refl _ _ | with_reducible assumption | with_reducible apply bel_alloc | with_reducible apply bel_drew | with_reducible apply bel_drewN | ((with_reducible refine bel_set ?_ ?_); rotate_left; (simp <;> omega)) | (with_reducible refine bel_trans ?_ (by with_reducible assumption)))))⟩
theorem law_FnExactCountRowConvex (x : Int) (w : World) (hx : (Lit.int .i64 x).wf = true) : Calls Try.prog 3 #[.int .i64 x] w (Ret w (.bool true)) := by
  clear hx
  go_enter Try.func3, Try.ntmps3
  go_wp2_with fail
  refine (CountRowConvex_s' _ _).mono ?_
  rintro e w1 ⟨rfl, b1⟩
  go_wp2_with fail
  refine (CountRowConvex_i' _ _).mono ?_
  rintro e w2 ⟨rfl, b2⟩
  go_wp2_with fail
  go_ret
  exact ⟨rfl, (by (repeat (first | with_reducible exact Below.refl _ _ | with_reducible assumption | with_reducible apply bel_alloc | with_reducible apply bel_drew | with_reducible apply bel_drewN | ((with_reducible refine bel_set ?_ ?_); rotate_left; (simp <;> omega)) | (with_reducible refine bel_trans ?_ (by with_reducible assumption)))))⟩
end Go.Proofs.Ytagiifoejdlecaa
