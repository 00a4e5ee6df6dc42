/- What the program's and the reference's functions on closed words do: walks. -/
import Derived.Test.YtcgohceakjjlhaaDoorWords
import Derived.Outline
import Derived.WalkLawsBesides
import Derived.WalkSpells
import Derived.BigQuiet
import Derived.Deep.QuietTactic
import Derived.Deep.RegionHeld3
import Derived.Deep.DeepCutAuto
import Derived.Deep.DrawnRows
namespace Go.Proofs.YtcgohceakjjlhaaDoor
open Go.RowKit
set_option linter.unusedVariables false
attribute [local go_sem ↓] Go.wp_at_zero Go.wp_at_succ

/-- What a closed way returns: its places, whether it leads back. -/
def ClosedP (s : ByteArray) (w : World) (e : Ending) (w' : World) : Prop :=
  match (if s.size ≤ 40 then wayW (0, 0) s.data.toList else none) with
  | none => e = .returned (.tuple #[.slice none 0 0, .bool false]) ∧ Below w.heap.size w w'
  | some l => RetS2 w 52 2 (vC l) (.bool (closedW s.data.toList)) e w'

theorem closedWay_i (s : ByteArray) (w : World) (hm : s.size ≤ maxLen) : Calls Tryd.prog 39 #[.string s] w (ClosedP s w) := by
  by_cases h40 : s.size ≤ 40
  · cases hw : wayW (0, 0) s.data.toList with
    | none =>
      have HP := Lib.hid hw
      clear hw
      go_enter Tryd.func39, Tryd.ntmps39
      go_wp2_with (go_at_call 54; refine (wayOf_i _ _ _ (by omega) (by omega)).mono ?_; rw [HP.out]; rintro e w' ⟨rfl, hb1⟩)
      go_quiet (fail)
      go_wp2
      go_ret2
      have e : (if s.size ≤ 40 then wayW (0, 0) s.data.toList else none) = none := by rw [HP.out]; simp
      unfold ClosedP
      rw [e]
      exact ⟨rfl, (by (repeat (first | with_reducible exact Below.refl _ _ | with_reducible assumption | with_reducible apply bel_alloc | with_reducible apply bel_drew | with_reducible apply bel_drewN | ((with_reducible refine bel_set ?_ ?_); rotate_left; (simp <;> omega)) | (with_reducible refine bel_trans ?_ (by with_reducible assumption)))))⟩
    | some l =>
      have hlen := wayW_len hw
      have hend := way_end hw
      have hsz : s.data.toList.length = s.size := by rw [Array.length_toList]; rfl
      rw [hsz] at hlen hend
      have hlk : s.size < l.length := by omega
      have hcl : closedW s.data.toList = decide (l[s.size] = (0, 0)) := by
        unfold closedW
        rw [hend, hsz, List.getD_eq_getElem?_getD, List.getElem?_eq_getElem hlk]
        simp [h40]
      obtain ⟨x, y, hxy⟩ : ∃ x y, l[s.size] = (x, y) := ⟨_, _, rfl⟩
      rw [hxy] at hcl
      have hcl : closedW s.data.toList = (x == 0 && y == 0) := by rw [hcl]; by_cases h1 : x = 0 <;> by_cases h2 : y = 0 <;> simp [h1, h2]
      have HP := Lib.hid hw
      have HC := Lib.hid hcl
      have HX := Lib.hid hxy
      have HN := Lib.hid hlen
      clear hw hcl hlen hend hxy hsz
      go_enter Tryd.func39, Tryd.ntmps39
      go_wp2_with (go_at_call 54; refine (wayOf_i _ _ _ (by omega) (by omega)).mono ?_; rw [HP.out]; rintro e w' ⟨A, n, c, rfl, hown, hb1⟩)
      have hn : n = s.size + 1 := by have := own_len hown; rw [vC_length, HN.out] at this; omega
      obtain ⟨g, off, rfl, hgw, c1, c2⟩ := RdC.at_ (Rd.of_own hown) hlk
      rw [HX.out] at c1 c2
      have hi1 : (0 : Int) ≤ (n : Int) - 1 := by omega
      have hi2 : (n : Int) - 1 < (n : Int) := by omega
      have hi3 : ((n : Int) - 1).toNat = s.size := by omega
      have hi4 : (n : Int) ≤ 41 := by omega
      have hi5 : IntKind.i64.wrap ((n : Int) - 1) = (n : Int) - 1 := IntWalk.i64_in _ (by omega)
      have HM := Lib.hid hn
      clear hn
      go_quiet (fail)
      go_wp2
      go_ret2
      unfold ClosedP
      rw [HP.out, if_pos h40]
      exact ⟨_, _, _, by rw [HC.out]; rfl, hown, (by (repeat (first | with_reducible exact Below.refl _ _ | with_reducible assumption | with_reducible apply bel_alloc | with_reducible apply bel_drew | with_reducible apply bel_drewN | ((with_reducible refine bel_set ?_ ?_); rotate_left; (simp <;> omega)) | (with_reducible refine bel_trans ?_ (by with_reducible assumption)))))⟩
  · go_enter Tryd.func39, Tryd.ntmps39
    go_wp2_with (go_at_call 54; refine (wayOf_far _ _ _ (by omega) hm).mono ?_; rintro e w' ⟨rfl, hb1⟩)
    go_quiet (fail)
    go_wp2
    go_ret2
    have e : (if s.size ≤ 40 then wayW (0, 0) s.data.toList else none) = none := if_neg h40
    unfold ClosedP
    rw [e]
    exact ⟨rfl, (by (repeat (first | with_reducible exact Below.refl _ _ | with_reducible assumption | with_reducible apply bel_alloc | with_reducible apply bel_drew | with_reducible apply bel_drewN | ((with_reducible refine bel_set ?_ ?_); rotate_left; (simp <;> omega)) | (with_reducible refine bel_trans ?_ (by with_reducible assumption)))))⟩
end Go.Proofs.YtcgohceakjjlhaaDoor
