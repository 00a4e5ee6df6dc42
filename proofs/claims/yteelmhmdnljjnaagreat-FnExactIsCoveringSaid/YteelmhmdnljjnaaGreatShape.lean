/- What the program's and the reference's first functions on cells do: walks. -/
import Derived.Test.YteelmhmdnljjnaaGreatShapeM
import Derived.Test.YteelmhmdnljjnaaGreatSmall
import Derived.Outline
import Derived.WalkLawsBesides
import Derived.WalkSpells
import Derived.BigQuiet
import Derived.Deep.QuietTactic
import Derived.Deep.RegionHeld3
import Derived.Deep.DeepCutAuto
import Derived.Deep.CutBlock
import Derived.Deep.DrawnRows
namespace Go.Proofs.YteelmhmdnljjnaaGreat
open Go.RowKit
set_option linter.unusedVariables false
attribute [local go_sem ↓] Go.wp_at_zero Go.wp_at_succ

theorem onBoard_i (a b : Int) (w : World) : Calls Tryz.prog 106 #[.agg #[.int .i64 a, .int .i64 b]] w (Ret w (.bool (onB (a, b)))) := by
  by_cases h1 : 0 ≤ a ∧ a ≤ 7
  · have hv : onB (a, b) = (decide (0 ≤ b) && decide (b ≤ 7)) := by simp [onB, h1]
    have HV := Lib.hid hv
    clear hv
    go_enter Tryz.func106, Tryz.ntmps106
    go_wp2_with fail
    refine (between_t _ _ _ _ (by omega) (by omega)).mono ?_
    rintro e w1 ⟨rfl, hb1⟩
    have k2 : w1.cell? ⟨w.heap.size, 1, none⟩ = some (.int .i64 b) := by simpa using ((Blk.new w 71 #[.int .i64 a, .int .i64 b]).below hb1).cell 1
    go_wp2_with fail
    refine (between_b _ _ _ _ _ rfl).mono ?_
    rintro e w2 ⟨rfl, hb2⟩
    go_wp2_with fail
    go_ret
    exact ⟨by rw [HV.out]; rfl, (by (repeat (first | with_reducible exact Below.refl _ _ | with_reducible assumption | with_reducible apply bel_alloc | with_reducible apply bel_drew | with_reducible apply bel_drewN | ((with_reducible refine bel_set ?_ ?_); rotate_left; (simp <;> omega)) | (with_reducible refine bel_trans ?_ (by with_reducible assumption)))))⟩
  · have hv : onB (a, b) = false := by simp [onB]; omega
    have HV := Lib.hid hv
    clear hv
    go_enter Tryz.func106, Tryz.ntmps106
    go_wp2_with (go_at_call 95; refine (between_f _ _ _ _ h1).mono ?_; rintro e w1 ⟨rfl, hb1⟩)
    go_ret
    exact ⟨by rw [HV.out]; rfl, (by (repeat (first | with_reducible exact Below.refl _ _ | with_reducible assumption | with_reducible apply bel_alloc | with_reducible apply bel_drew | with_reducible apply bel_drewN | ((with_reducible refine bel_set ?_ ?_); rotate_left; (simp <;> omega)) | (with_reducible refine bel_trans ?_ (by with_reducible assumption)))))⟩
end Go.Proofs.YteelmhmdnljjnaaGreat
