/- What the program's and the reference's functions on single steps do: walks. -/
import Derived.Test.YtcgohceakjjlhaaDoorWordsM
import Derived.Test.YtcgohceakjjlhaaDoorApp
import Derived.Outline
import Derived.WalkLawsBesides
import Derived.WalkSpells
import Derived.BigQuiet
import Derived.Deep.QuietTactic
import Derived.Deep.RegionHeld3
import Derived.Deep.DeepCutAuto
import Derived.Deep.DrawnRows
namespace Go.Proofs.YtcgohceakjjlhaaDoor
open Go.RowKit
set_option linter.unusedVariables false
attribute [local go_sem ↓] Go.wp_at_zero Go.wp_at_succ

/-- What a step returns: the place behind it, whether it is one. -/
def StepP (c : C) (b : UInt8) (w : World) (e : Ending) (w' : World) : Prop :=
  e = .returned (.tuple #[.agg #[.int .i64 ((stepW c b).getD c).1, .int .i64 ((stepW c b).getD c).2], .bool (stepW c b).isSome]) ∧ Below w.heap.size w w'

theorem stepFrom_i (x y : Int) (b : UInt8) (w : World) :
    Calls Tryd.prog 72 #[.agg #[.int .i64 x, .int .i64 y], .int .u8 b.toNat] w (StepP (x, y) b w) := by
  by_cases h1 : b = 114
  · subst h1
    go_enter Tryd.func72, Tryd.ntmps72
    go_wp2
    exact bodyPost_ret (v := .tuple #[.agg #[.int .i64 (wrap64 (x + 1)), .int .i64 y], .bool true]) (by simp [results, Tryd.results72, go_sem]) rfl ⟨rfl, (by (repeat (first | with_reducible exact Below.refl _ _ | with_reducible assumption | with_reducible apply bel_alloc | with_reducible apply bel_drew | with_reducible apply bel_drewN | ((with_reducible refine bel_set ?_ ?_); rotate_left; (simp <;> omega)) | (with_reducible refine bel_trans ?_ (by with_reducible assumption)))))⟩
  by_cases h2 : b = 108
  · subst h2
    go_enter Tryd.func72, Tryd.ntmps72
    go_wp2
    exact bodyPost_ret (v := .tuple #[.agg #[.int .i64 (wrap64 (x - 1)), .int .i64 y], .bool true]) (by simp [results, Tryd.results72, go_sem]) rfl ⟨rfl, (by (repeat (first | with_reducible exact Below.refl _ _ | with_reducible assumption | with_reducible apply bel_alloc | with_reducible apply bel_drew | with_reducible apply bel_drewN | ((with_reducible refine bel_set ?_ ?_); rotate_left; (simp <;> omega)) | (with_reducible refine bel_trans ?_ (by with_reducible assumption)))))⟩
  by_cases h3 : b = 100
  · subst h3
    go_enter Tryd.func72, Tryd.ntmps72
    go_wp2
    exact bodyPost_ret (v := .tuple #[.agg #[.int .i64 x, .int .i64 (wrap64 (y + 1))], .bool true]) (by simp [results, Tryd.results72, go_sem]) rfl ⟨rfl, (by (repeat (first | with_reducible exact Below.refl _ _ | with_reducible assumption | with_reducible apply bel_alloc | with_reducible apply bel_drew | with_reducible apply bel_drewN | ((with_reducible refine bel_set ?_ ?_); rotate_left; (simp <;> omega)) | (with_reducible refine bel_trans ?_ (by with_reducible assumption)))))⟩
  by_cases h4 : b = 117
  · subst h4
    go_enter Tryd.func72, Tryd.ntmps72
    go_wp2
    exact bodyPost_ret (v := .tuple #[.agg #[.int .i64 x, .int .i64 (wrap64 (y - 1))], .bool true]) (by simp [results, Tryd.results72, go_sem]) rfl ⟨rfl, (by (repeat (first | with_reducible exact Below.refl _ _ | with_reducible assumption | with_reducible apply bel_alloc | with_reducible apply bel_drew | with_reducible apply bel_drewN | ((with_reducible refine bel_set ?_ ?_); rotate_left; (simp <;> omega)) | (with_reducible refine bel_trans ?_ (by with_reducible assumption)))))⟩
  have e1 : ((b.toNat : Int) == 114) = false := (u8_is b 114).trans (by simpa using h1)
  have e2 : ((b.toNat : Int) == 108) = false := (u8_is b 108).trans (by simpa using h2)
  have e3 : ((b.toNat : Int) == 100) = false := (u8_is b 100).trans (by simpa using h3)
  have e4 : ((b.toNat : Int) == 117) = false := (u8_is b 117).trans (by simpa using h4)
  have e : stepW (x, y) b = none := by simp [stepW, h1, h2, h3, h4]
  clear h1 h2 h3 h4
  have E := Lib.hid e
  clear e
  go_enter Tryd.func72, Tryd.ntmps72
  go_wp2
  exact bodyPost_ret (v := .tuple #[.agg #[.int .i64 x, .int .i64 y], .bool false]) (by simp [results, Tryd.results72, go_sem]) rfl ⟨by rw [E.out]; rfl, (by (repeat (first | with_reducible exact Below.refl _ _ | with_reducible assumption | with_reducible apply bel_alloc | with_reducible apply bel_drew | with_reducible apply bel_drewN | ((with_reducible refine bel_set ?_ ?_); rotate_left; (simp <;> omega)) | (with_reducible refine bel_trans ?_ (by with_reducible assumption)))))⟩

theorem l26Step_s (x y : Int) (b : UInt8) (w : World) :
    Calls Tryd.prog 38 #[.agg #[.int .i64 x, .int .i64 y], .int .u8 b.toNat] w (StepP (x, y) b w) := by
  by_cases h1 : b = 114
  · subst h1
    go_enter Tryd.func38, Tryd.ntmps38
    go_wp2
    exact bodyPost_ret (v := .tuple #[.agg #[.int .i64 (wrap64 (x + 1)), .int .i64 y], .bool true]) (by simp [results, Tryd.results38, go_sem]) rfl ⟨rfl, (by (repeat (first | with_reducible exact Below.refl _ _ | with_reducible assumption | with_reducible apply bel_alloc | with_reducible apply bel_drew | with_reducible apply bel_drewN | ((with_reducible refine bel_set ?_ ?_); rotate_left; (simp <;> omega)) | (with_reducible refine bel_trans ?_ (by with_reducible assumption)))))⟩
  by_cases h2 : b = 108
  · subst h2
    go_enter Tryd.func38, Tryd.ntmps38
    go_wp2
    exact bodyPost_ret (v := .tuple #[.agg #[.int .i64 (wrap64 (x - 1)), .int .i64 y], .bool true]) (by simp [results, Tryd.results38, go_sem]) rfl ⟨rfl, (by (repeat (first | with_reducible exact Below.refl _ _ | with_reducible assumption | with_reducible apply bel_alloc | with_reducible apply bel_drew | with_reducible apply bel_drewN | ((with_reducible refine bel_set ?_ ?_); rotate_left; (simp <;> omega)) | (with_reducible refine bel_trans ?_ (by with_reducible assumption)))))⟩
  by_cases h3 : b = 100
  · subst h3
    go_enter Tryd.func38, Tryd.ntmps38
    go_wp2
    exact bodyPost_ret (v := .tuple #[.agg #[.int .i64 x, .int .i64 (wrap64 (y + 1))], .bool true]) (by simp [results, Tryd.results38, go_sem]) rfl ⟨rfl, (by (repeat (first | with_reducible exact Below.refl _ _ | with_reducible assumption | with_reducible apply bel_alloc | with_reducible apply bel_drew | with_reducible apply bel_drewN | ((with_reducible refine bel_set ?_ ?_); rotate_left; (simp <;> omega)) | (with_reducible refine bel_trans ?_ (by with_reducible assumption)))))⟩
  by_cases h4 : b = 117
  · subst h4
    go_enter Tryd.func38, Tryd.ntmps38
    go_wp2
    exact bodyPost_ret (v := .tuple #[.agg #[.int .i64 x, .int .i64 (wrap64 (y - 1))], .bool true]) (by simp [results, Tryd.results38, go_sem]) rfl ⟨rfl, (by (repeat (first | with_reducible exact Below.refl _ _ | with_reducible assumption | with_reducible apply bel_alloc | with_reducible apply bel_drew | with_reducible apply bel_drewN | ((with_reducible refine bel_set ?_ ?_); rotate_left; (simp <;> omega)) | (with_reducible refine bel_trans ?_ (by with_reducible assumption)))))⟩
  have e1 : ((b.toNat : Int) == 114) = false := (u8_is b 114).trans (by simpa using h1)
  have e2 : ((b.toNat : Int) == 108) = false := (u8_is b 108).trans (by simpa using h2)
  have e3 : ((b.toNat : Int) == 100) = false := (u8_is b 100).trans (by simpa using h3)
  have e4 : ((b.toNat : Int) == 117) = false := (u8_is b 117).trans (by simpa using h4)
  have e : stepW (x, y) b = none := by simp [stepW, h1, h2, h3, h4]
  clear h1 h2 h3 h4
  have E := Lib.hid e
  clear e
  go_enter Tryd.func38, Tryd.ntmps38
  go_wp2
  exact bodyPost_ret (v := .tuple #[.agg #[.int .i64 x, .int .i64 y], .bool false]) (by simp [results, Tryd.results38, go_sem]) rfl ⟨by rw [E.out]; rfl, (by (repeat (first | with_reducible exact Below.refl _ _ | with_reducible assumption | with_reducible apply bel_alloc | with_reducible apply bel_drew | with_reducible apply bel_drewN | ((with_reducible refine bel_set ?_ ?_); rotate_left; (simp <;> omega)) | (with_reducible refine bel_trans ?_ (by with_reducible assumption)))))⟩

end Go.Proofs.YtcgohceakjjlhaaDoor
