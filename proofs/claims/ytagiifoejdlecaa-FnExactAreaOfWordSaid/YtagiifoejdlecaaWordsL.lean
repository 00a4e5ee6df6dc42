/- The laws on closed words and their areas: walks. -/
import Derived.Test.YtagiifoejdlecaaWordsD
import Derived.Outline
import Derived.WalkLawsBesides
import Derived.WalkSpells
import Derived.BigQuiet
import Derived.Deep.QuietTactic
import Derived.Deep.RegionHeld3
import Derived.Deep.DeepCutAuto
import Derived.Deep.CutBlock
import Derived.Deep.DrawnRows
namespace Go.Proofs.Ytagiifoejdlecaa
open Go.RowKit
set_option linter.unusedVariables false
attribute [local go_sem ↓] Go.wp_at_zero Go.wp_at_succ



theorem law_FnExactIsClosedWord (s : ByteArray) (hm : s.size ≤ maxLen) (w : World) : Calls Try.prog 4 #[.string s] w (Ret w (.bool true)) := by
  have hm' := hm
  unfold maxLen at hm'
  go_enter Try.func4, Try.ntmps4
  go_wp2_with (first
    | (go_at_call 11; refine (IsClosedWord_s _ _ hm).mono ?_; rintro e w1 ⟨rfl, hb1⟩)
    | (go_at_call 12; refine (IsClosedWord_i _ _ hm).mono ?_; rintro e w2 ⟨rfl, hb2⟩))
  all_goals go_ret
  all_goals exact ⟨rfl, (by (repeat (first | with_reducible exact Below.refl _ _ | with_reducible assumption | with_reducible apply bel_alloc | with_reducible apply bel_drew | with_reducible apply bel_drewN | (with_reducible refine bel_set ?_ ?_; rotate_left; (simp <;> omega)) | (with_reducible refine bel_trans ?_ (by with_reducible assumption)))))⟩

theorem areaV_form (s : ByteArray) : ∃ n b, areaV s = .tuple #[.int .i64 n, .bool b] := by
  unfold areaV
  split
  · exact ⟨_, _, rfl⟩
  · exact ⟨_, _, rfl⟩

theorem law_FnExactAreaOfWord (s : ByteArray) (hm : s.size ≤ maxLen) (w : World) : Calls Try.prog 7 #[.string s] w (Ret w (.bool true)) := by
  have hm' := hm
  unfold maxLen at hm'
  obtain ⟨n, b, hv⟩ := areaV_form s
  have HV := Lib.hid hv
  clear hv
  go_enter Try.func7, Try.ntmps7
  go_wp2_with (first
    | (go_at_call 21; refine (AreaOfWord_s _ _ hm).mono ?_; rw [HV.out]; rintro e w1 ⟨rfl, hb1⟩)
    | (go_at_call 22; refine (AreaOfWord_i _ _ hm).mono ?_; rw [HV.out]; rintro e w2 ⟨rfl, hb2⟩))
  all_goals go_ret
  all_goals exact ⟨rfl, (by (repeat (first | with_reducible exact Below.refl _ _ | with_reducible assumption | with_reducible apply bel_alloc | with_reducible apply bel_drew | with_reducible apply bel_drewN | (with_reducible refine bel_set ?_ ?_; rotate_left; (simp <;> omega)) | (with_reducible refine bel_trans ?_ (by with_reducible assumption)))))⟩
end Go.Proofs.Ytagiifoejdlecaa
