/- The law on runs of a word. -/
import Derived.Test.YtcgohceakjjlhaaDoorCompW
namespace Go.Proofs.YtcgohceakjjlhaaDoor
open Go.RowKit
set_option linter.unusedVariables false
attribute [local go_sem ↓] Go.wp_at_zero Go.wp_at_succ

theorem law_FnExactCompressWord (s : ByteArray) (w : World) (hm : s.size ≤ maxLen) : Calls Tryd.prog 3 #[.string s] w (Ret w (.bool true)) := by
  have hm' := hm
  unfold maxLen at hm'
  obtain ⟨n, b, hv⟩ := cmpV_form s
  have HV := Lib.hid hv
  clear hv
  go_enter Tryd.func3, Tryd.ntmps3
  go_wp2_with (first
    | (go_at_call 6; refine (CompressWord_s _ _ hm).mono ?_; rw [HV.out]; rintro e w1 ⟨rfl, hb1⟩)
    | (go_at_call 7; refine (CompressWord_i _ _ hm).mono ?_; rw [HV.out]; rintro e w2 ⟨rfl, hb2⟩))
  all_goals go_ret
  all_goals exact ⟨rfl, (by (repeat (first | with_reducible exact Below.refl _ _ | with_reducible assumption | with_reducible apply bel_alloc | with_reducible apply bel_drew | with_reducible apply bel_drewN | ((with_reducible refine bel_set ?_ ?_); rotate_left; (simp <;> omega)) | (with_reducible refine bel_trans ?_ (by with_reducible assumption)))))⟩
end Go.Proofs.YtcgohceakjjlhaaDoor
