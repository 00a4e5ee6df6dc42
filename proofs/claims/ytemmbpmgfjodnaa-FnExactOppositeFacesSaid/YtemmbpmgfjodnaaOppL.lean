/- The law on OppositeFaces. -/
import Derived.Test.YtemmbpmgfjodnaaOpp
import Derived.Test.YtemmbpmgfjodnaaLawSS
import Derived.Test.YtemmbpmgfjodnaaLawC
import Derived.Test.YtemmbpmgfjodnaaLawM
import Derived.Outline
import Derived.WalkLawsBesides
import Derived.WalkSpells
import Derived.BigQuiet
import Derived.Deep.QuietTactic
import Derived.Deep.RegionHeld3
import Derived.Deep.RegionWith
import Derived.Deep.DeepCutAuto
import Derived.Deep.CutBlock
import Derived.Deep.DrawnRows
namespace Go.Proofs.Ytemmbpmgfjodnaa
open Go.RowKit
set_option linter.unusedVariables false
attribute [local go_sem ↓] Go.wp_at_zero Go.wp_at_succ

theorem own_nC_OppositeFaces {w : World} {base e n c : Nat} {A : Option Addr} {xs : List C} (h : w.ownsRow base e 2 (.slice A n c) n (vC xs)) : xs.length = n := by
  have := own_len h
  rw [vC_length] at this
  omega
set_option maxHeartbeats 800000 in
theorem law_FnExactOppositeFaces (A : Option Addr) (n c : Nat) (xs : List C) (w : World) (hr : Rd w A (vC xs)) (hl : xs.length = n) (hm : n ≤ maxLen) :
    Calls Try.prog 14 #[.slice A n c] w (Ret w (.bool true)) := by
  have hsz := szCellS_l A n c 1048576 w hm (by omega) (by omega)
  by_cases hbig : (1048576 : Int) < (n : Int)
  · rw [if_pos hbig] at hsz
    have HZ := Lib.hid hsz
    clear hsz
    go_enter Try.func14, Try.ntmps14
    go_wp2_with fail
    refine Calls.mono HZ.out ?_
    rintro e w1 ⟨rfl, b1⟩
    go_wp2_with fail
    go_ret
    exact ⟨rfl, b1⟩
  · rw [if_neg hbig] at hsz
    have HZ := Lib.hid hsz
    have HL := Lib.hid hl
    have hn : n ≤ 1048576 := by omega
    have hz0 : (0 : Int) ≤ 1048576 - (n : Int) := by omega
    have hz1 : ¬ (1048576 : Int) - (n : Int) < 0 := by omega
    have hv6 : total (oppV xs) ≤ 1048576 := oppV_tot xs
    have hv7 : (oppV xs).length ≤ 1048576 := oppV_len xs
    generalize hv : oppV xs = F at hv6 hv7
    have HV := Lib.hid hv
    clear hsz hl hbig hm hv
    go_enter Try.func14, Try.ntmps14
    go_wp2_with fail
    refine Calls.mono HZ.out ?_
    rintro e w0 ⟨rfl, b0⟩
    go_wp2_with fail
    refine (toCellS_l _ _ _ _ _ (hr.below b0) HL.out hn).mono ?_
    rintro e w1 ⟨B1, m1, k1, rfl, o1, b1'⟩
    have b1 : Below w.heap.size w w1 := bel_trans b0 b1'
    obtain rfl : m1 = n := (own_nC_OppositeFaces o1).symm.trans HL.out
    go_wp2_with fail
    refine (OppositeFaces_s _ _ _ _ _ (Rd.of_own o1) HL.out (by omega)).mono ?_
    rintro e w2 ⟨W, mw, kw, hW, rfl, ow, b2⟩
    rw [HV.out] at ow
    have r2 : Rd w2 A (vC xs) := hr.below (bel_trans b1 b2)
    go_wp2_with fail
    refine (toCellS_l _ _ _ _ _ r2 HL.out hn).mono ?_
    rintro e w3 ⟨X, mx, kx, rfl, ox, b3⟩
    obtain rfl : mx = m1 := (own_nC_OppositeFaces ox).symm.trans HL.out
    go_wp2_with fail
    refine (OppositeFaces_i _ _ _ _ _ (Rd.of_own ox) HL.out (by omega)).mono ?_
    rintro e w4 ⟨G, mg, kg, hG, rfl, og, b4⟩
    rw [HV.out] at og
    have hg6 : mg ≤ 1048576 := by have := og.flen; omega
    go_wp2_with fail
    refine (eqIntSS_t _ _ _ _ _ _ _ _ _ _ F _ og (ow.below (bel_trans b3 b4)) (by omega) (by omega)).mono ?_
    rintro e w5 ⟨rfl, b5⟩
    have b05 : Below w.heap.size w w5 := bel_trans (bel_trans (bel_trans (bel_trans b1 b2) b3) b4) b5
    go_wp2_with fail
    refine (toCellS_l _ _ _ _ _ (hr.below b05) HL.out hn).mono ?_
    rintro e w6 ⟨Y, my, ky, rfl, oy, b6⟩
    obtain rfl : my = mx := (own_nC_OppositeFaces oy).symm.trans HL.out
    have b36 : Below w3.heap.size w3 w6 := bel_trans (bel_trans b4 b5) b6
    go_wp2_with fail
    refine (eqCellS_t _ _ _ _ _ _ xs _ (Rd.of_own (own_keep ox b36)) (Rd.of_own oy) HL.out HL.out (by omega)).mono ?_
    rintro e w7 ⟨rfl, b7⟩
    have b37 : Below w3.heap.size w3 w7 := bel_trans b36 b7
    have b47 : Below w4.heap.size w4 w7 := bel_trans (bel_trans b5 b6) b7
    have b07 : Below w.heap.size w w7 := bel_trans (bel_trans b05 b6) b7
    go_wp2_with fail
    refine (markCellS_l _ _ _ _ _ _ _ (own_keep ox b37) (by omega) (by omega) (by omega)).mono ?_
    rintro e w8 ⟨rfl, ox8, g8⟩
    have hXlt := own_lt ox
    have sz := b1.size
    have sz2 := b2.size
    have sz3 := b3.size
    have sz4 := b4.size
    have oG8 : Own2 w3.heap.size w8 G mg kg hG F := (og.below b47).grown g8 (fun g e => (hXlt g e).2)
    have bW8 : Below w2.heap.size w2 w8 := bel_app (bel_trans b3 b37) g8 (fun g h => (hXlt g h).1)
    have b08 : Below w.heap.size w w8 := bel_trans (bel_trans b1 b2) bW8
    have s38 : w3.heap.size ≤ w8.heap.size := Nat.le_trans b37.size g8.size
    go_wp2_with fail
    refine (eqIntSS_t _ _ _ _ _ _ _ _ _ _ F _ oG8 (ow.below bW8) (by omega) (by omega)).mono ?_
    rintro e w9 ⟨rfl, b9⟩
    have s39 : w3.heap.size ≤ w9.heap.size := Nat.le_trans s38 b9.size
    go_wp2_with fail
    refine (markIntSS_l w3.heap.size _ _ _ _ _ F _ (oG8.below b9) s39 (by omega) (by omega) (by omega) (by omega)).mono ?_
    rintro e w10 ⟨rfl, oG10, g10⟩
    have bW10 : Below w2.heap.size w2 w10 := (bel_trans bW8 b9).trans (g10.mono sz3)
    have b010 : Below w.heap.size w w10 := bel_trans (bel_trans b1 b2) bW10
    have ht0 : ¬ (1 : Int) + ((total F : Nat) : Int) < 0 := by omega
    go_wp2_with fail
    refine (heldIntSS_l _ _ _ _ _ _ F _ oG10 (by omega) (by omega) (by omega) (by omega)).mono ?_
    rintro e w11 ⟨rfl, b11⟩
    go_wp2_with fail
    refine (toCellS_l _ _ _ _ _ (hr.below (bel_trans b010 b11)) HL.out hn).mono ?_
    rintro e w12 ⟨Z, mz, kz, rfl, oz, b12⟩
    obtain rfl : mz = my := (own_nC_OppositeFaces oz).symm.trans HL.out
    go_wp2_with fail
    refine (OppositeFaces_i _ _ _ _ _ (Rd.of_own oz) HL.out (by omega)).mono ?_
    rintro e w13 ⟨K, mk, kk, hK, rfl, ok13, b13⟩
    rw [HV.out] at ok13
    have hk6 : mk ≤ 1048576 := by have := ok13.flen; omega
    have b1013 : Below w10.heap.size w10 w13 := bel_trans (bel_trans b11 b12) b13
    go_wp2_with fail
    refine (eqIntSS_t _ _ _ _ _ _ _ _ _ _ F _ ok13 (ow.below (bel_trans bW10 b1013)) (by omega) (by omega)).mono ?_
    rintro e w14 ⟨rfl, b14⟩
    go_wp2_with fail
    refine (heldIntSS_l _ _ _ _ _ _ F _ (oG10.below (bel_trans b1013 b14)) (by omega) (by omega) (by omega) (by omega)).mono ?_
    rintro e w15 ⟨rfl, b15⟩
    go_wp2_with fail
    go_ret
    exact ⟨rfl, bel_trans (bel_trans (bel_trans b010 b1013) b14) b15⟩
end Go.Proofs.Ytemmbpmgfjodnaa
