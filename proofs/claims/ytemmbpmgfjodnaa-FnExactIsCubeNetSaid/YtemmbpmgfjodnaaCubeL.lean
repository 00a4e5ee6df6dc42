/- The law on IsCubeNet. -/
import Derived.Test.YtemmbpmgfjodnaaCov
import Derived.Test.YtemmbpmgfjodnaaLawC
import Derived.Outline
import Derived.WalkLawsBesides
import Derived.WalkSpells
import Derived.BigQuiet
import Derived.Deep.QuietTactic
import Derived.Deep.RegionHeld3
import Derived.Deep.RegionWith
import Derived.Deep.DeepCutAuto
import Derived.Deep.CutBlock
import Derived.Deep.DrawnRows
namespace Go.Proofs.Ytemmbpmgfjodnaa
open Go.RowKit
set_option linter.unusedVariables false
attribute [local go_sem ↓] Go.wp_at_zero Go.wp_at_succ



theorem own_nC_IsCubeNet {w : World} {base e n c : Nat} {A : Option Addr} {xs : List C} (h : w.ownsRow base e 2 (.slice A n c) n (vC xs)) : xs.length = n := by
  have := own_len h
  rw [vC_length] at this
  omega
set_option maxHeartbeats 800000 in
theorem law_FnExactIsCubeNet (A : Option Addr) (n c : Nat) (xs : List C) (w : World) (hr : Rd w A (vC xs)) (hl : xs.length = n) (hm : n ≤ maxLen) :
    Calls Try.prog 13 #[.slice A n c] w (Ret w (.bool true)) := by
  have hsz := szCellS_l A n c 1048576 w hm (by omega) (by omega)
  by_cases hbig : (1048576 : Int) < (n : Int)
  · rw [if_pos hbig] at hsz
    have HZ := Lib.hid hsz
    clear hsz
    go_enter Try.func13, Try.ntmps13
    go_wp2_with fail
    refine Calls.mono HZ.out ?_
    rintro e w1 ⟨rfl, b1⟩
    go_wp2_with fail
    go_ret
    exact ⟨rfl, b1⟩
  · rw [if_neg hbig] at hsz
    have HZ := Lib.hid hsz
    have HL := Lib.hid hl
    have hn : n ≤ 1048576 := by omega
    have hz0 : (0 : Int) ≤ 1048576 - (n : Int) := by omega
    have hz1 : ¬ (1048576 : Int) - (n : Int) < 0 := by omega
    clear hsz hl hbig hm
    go_enter Try.func13, Try.ntmps13
    go_wp2_with fail
    refine Calls.mono HZ.out ?_
    rintro e w1 ⟨rfl, b1⟩
    go_wp2_with fail
    refine (toCellS_l _ _ _ _ _ (hr.below b1) HL.out hn).mono ?_
    rintro e w2 ⟨B1, m1, k1, rfl, o1, b2⟩
    obtain rfl : m1 = n := (own_nC_IsCubeNet o1).symm.trans HL.out
    go_wp2_with fail
    refine (IsCubeNet_s _ _ _ _ _ (Rd.of_own o1) HL.out (by omega)).mono ?_
    rintro e w3 ⟨rfl, b3⟩
    have b03 : Below w.heap.size w w3 := bel_trans (bel_trans b1 b2) b3
    go_wp2_with fail
    refine (toCellS_l _ _ _ _ _ (hr.below b03) HL.out hn).mono ?_
    rintro e w4 ⟨X, mx, kx, rfl, ox, b4⟩
    obtain rfl : mx = m1 := (own_nC_IsCubeNet ox).symm.trans HL.out
    go_wp2_with fail
    refine (IsCubeNet_i _ _ _ _ _ (Rd.of_own ox) HL.out (by omega)).mono ?_
    rintro e w5 ⟨rfl, b5⟩
    have b05 : Below w.heap.size w w5 := bel_trans (bel_trans b03 b4) b5
    go_wp2_with fail
    refine (toCellS_l _ _ _ _ _ (hr.below b05) HL.out hn).mono ?_
    rintro e w6 ⟨Y, my, ky, rfl, oy, b6⟩
    obtain rfl : my = mx := (own_nC_IsCubeNet oy).symm.trans HL.out
    go_wp2_with fail
    refine (eqCellS_t _ _ _ _ _ _ xs _ ((Rd.of_own ox).below (bel_trans b5 b6)) (Rd.of_own oy) HL.out HL.out (by omega)).mono ?_
    rintro e w7 ⟨rfl, b7⟩
    go_wp2_with fail
    go_ret
    exact ⟨rfl, bel_trans (bel_trans b05 b6) b7⟩
end Go.Proofs.Ytemmbpmgfjodnaa
