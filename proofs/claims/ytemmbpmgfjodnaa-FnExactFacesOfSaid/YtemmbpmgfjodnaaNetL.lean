/- The law on FacesOf. -/
import Derived.Test.YtemmbpmgfjodnaaNetS
import Derived.Test.YtemmbpmgfjodnaaNetI
import Derived.Test.YtemmbpmgfjodnaaLawI
import Derived.Test.YtemmbpmgfjodnaaLawC
import Derived.Test.YtemmbpmgfjodnaaLawM
import Derived.Outline
import Derived.WalkLawsBesides
import Derived.WalkSpells
import Derived.BigQuiet
import Derived.Deep.QuietTactic
import Derived.Deep.RegionHeld3
import Derived.Deep.RegionWith
import Derived.Deep.DeepCutAuto
import Derived.Deep.CutBlock
import Derived.Deep.DrawnRows
namespace Go.Proofs.Ytemmbpmgfjodnaa
open Go.RowKit
set_option linter.unusedVariables false
attribute [local go_sem ↓] Go.wp_at_zero Go.wp_at_succ



theorem own_nC_FacesOf {w : World} {base e n c : Nat} {A : Option Addr} {xs : List C} (h : w.ownsRow base e 2 (.slice A n c) n (vC xs)) : xs.length = n := by
  have := own_len h
  rw [vC_length] at this
  omega
theorem own_nI_FacesOf {w : World} {base e n c : Nat} {A : Option Addr} {xs : List Int} (h : w.ownsRow base e 1 (.slice A n c) n (vI xs)) : xs.length = n := by
  have := own_len h
  rw [vI_length] at this
  omega
set_option maxHeartbeats 800000 in
theorem law_FnExactFacesOf (A : Option Addr) (n c : Nat) (xs : List C) (w : World) (hr : Rd w A (vC xs)) (hl : xs.length = n) (hm : n ≤ maxLen) :
    Calls Try.prog 9 #[.slice A n c] w (Ret w (.bool true)) := by
  have hsz := szCellS_l A n c 1048576 w hm (by omega) (by omega)
  by_cases hbig : (1048576 : Int) < (n : Int)
  · rw [if_pos hbig] at hsz
    have HZ := Lib.hid hsz
    clear hsz
    go_enter Try.func9, Try.ntmps9
    go_wp2_with fail
    refine Calls.mono HZ.out ?_
    rintro e w1 ⟨rfl, b1⟩
    go_wp2_with fail
    go_ret
    exact ⟨rfl, b1⟩
  · rw [if_neg hbig] at hsz
    have HZ := Lib.hid hsz
    have HL := Lib.hid hl
    have hn : n ≤ 1048576 := by omega
    have hz0 : (0 : Int) ≤ 1048576 - (n : Int) := by omega
    have hz1 : ¬ (1048576 : Int) - (n : Int) < 0 := by omega
    have hv6 : (faces xs).length ≤ 1048576 := faces_len xs
    generalize hv : faces xs = vs at hv6
    generalize hb : isConn xs = ok
    have HB := Lib.hid hb
    clear hb
    have HV := Lib.hid hv
    clear hsz hl hbig hm hv
    go_enter Try.func9, Try.ntmps9
    go_wp2_with fail
    refine Calls.mono HZ.out ?_
    rintro e w0 ⟨rfl, b0⟩
    go_wp2_with fail
    refine (toCellS_l _ _ _ _ _ (hr.below b0) HL.out hn).mono ?_
    rintro e w1 ⟨B1, m1, k1, rfl, o1, b1'⟩
    have b1 : Below w.heap.size w w1 := bel_trans b0 b1'
    obtain rfl : m1 = n := (own_nC_FacesOf o1).symm.trans HL.out
    go_wp2_with fail
    refine (FacesOf_s _ _ _ _ _ (Rd.of_own o1) HL.out (by omega)).mono ?_
    rintro e w2 ⟨W, mw, kw, rfl, ow, b2⟩
    rw [HV.out] at ow
    rw [HB.out]
    have hmw := own_nI_FacesOf ow
    have r2 : Rd w2 A (vC xs) := hr.below (bel_trans b1 b2)
    go_wp2_with fail
    refine (toCellS_l _ _ _ _ _ r2 HL.out hn).mono ?_
    rintro e w3 ⟨X, mx, kx, rfl, ox, b3⟩
    obtain rfl : mx = m1 := (own_nC_FacesOf ox).symm.trans HL.out
    go_wp2_with fail
    refine (FacesOf_i _ _ _ _ _ (Rd.of_own ox) HL.out (by omega)).mono ?_
    rintro e w4 ⟨G, mg, kg, rfl, og, b4⟩
    rw [HV.out] at og
    rw [HB.out]
    have hmg := own_nI_FacesOf og
    have ow4 := own_keep ow (bel_trans b3 b4)
    have HMW := Lib.hid hmw
    have HMG := Lib.hid hmg
    have hg6 : mg ≤ 1048576 := by omega
    clear hmw hmg
    go_wp2_with fail
    refine (eqIntS_t _ _ _ _ _ _ vs _ (Rd.of_own og) (Rd.of_own ow4) HMG.out HMW.out (by omega)).mono ?_
    rintro e w5 ⟨rfl, b5⟩
    have b05 : Below w.heap.size w w5 := bel_trans (bel_trans (bel_trans (bel_trans b1 b2) b3) b4) b5
    go_wp2_with fail
    refine (toCellS_l _ _ _ _ _ (hr.below b05) HL.out hn).mono ?_
    rintro e w6 ⟨Y, my, ky, rfl, oy, b6⟩
    obtain rfl : my = mx := (own_nC_FacesOf oy).symm.trans HL.out
    have b36 : Below w3.heap.size w3 w6 := bel_trans (bel_trans b4 b5) b6
    go_wp2_with fail
    refine (eqCellS_t _ _ _ _ _ _ xs _ (Rd.of_own (own_keep ox b36)) (Rd.of_own oy) HL.out HL.out (by omega)).mono ?_
    rintro e w7 ⟨rfl, b7⟩
    have b37 : Below w3.heap.size w3 w7 := bel_trans b36 b7
    have b47 : Below w4.heap.size w4 w7 := bel_trans (bel_trans b5 b6) b7
    have b07 : Below w.heap.size w w7 := bel_trans (bel_trans b05 b6) b7
    go_wp2_with fail
    refine (markCellS_l _ _ _ _ _ _ _ (own_keep ox b37) (by omega) (by omega) (by omega)).mono ?_
    rintro e w8 ⟨rfl, ox8, g8⟩
    have hXlt := own_lt ox
    have hGge := own_lt og
    have hWlt := own_lt ow
    have sz := b1.size
    have sz2 := b2.size
    have sz3 := b3.size
    have sz4 := b4.size
    have rG8 : Rd w8 G (vI vs) := (Rd.of_own (own_keep og b47)).grown g8 (fun g h e => by have h1 := (hGge g h).1; have h2 := (hXlt g e.symm).2; omega)
    have oG8 : w8.ownsRow w3.heap.size 3 1 (.slice G mg kg) mg (vI vs) := (own_keep og b47).kept g8 (by
      rw [ownBlock_slice]
      cases hG : ob G with
      | none => exact .inl rfl
      | some g => right; intro e; have h1 := (hGge g hG).1; have h2 := (hXlt g e.symm).2; omega)
    have rW8 : Rd w8 W (vI vs) := (Rd.of_own (own_keep ow4 b47)).grown g8 (fun g h e => by have h1 := (hWlt g h).2; have h2 := (hXlt g e.symm).1; omega)
    have b08 : Below w.heap.size w w8 := bel_app b07 g8 (fun g h => by have := (hXlt g h).1; omega)
    go_wp2_with fail
    refine (eqIntS_t _ _ _ _ _ _ vs _ rG8 rW8 HMG.out HMW.out (by omega)).mono ?_
    rintro e w9 ⟨rfl, b9⟩
    go_wp2_with fail
    refine (markIntS_l _ _ _ _ _ _ _ (own_keep oG8 b9) (by omega) (by omega) (by omega)).mono ?_
    rintro e w10 ⟨rfl, oG10, g10⟩
    have rW10 : Rd w10 W (vI vs) := (rW8.below b9).grown g10 (fun g h e => by have h1 := (hWlt g h).2; have h2 := (hGge g e.symm).1; omega)
    have b010 : Below w.heap.size w w10 := bel_app (bel_trans b08 b9) g10 (fun g h => by have := (hGge g h).1; omega)
    go_wp2_with fail
    refine (heldIntS_l _ _ _ _ _ (Rd.of_own oG10) (by omega) (by omega) (by omega)).mono ?_
    rintro e w11 ⟨rfl, b11⟩
    go_wp2_with fail
    refine (toCellS_l _ _ _ _ _ (hr.below (bel_trans b010 b11)) HL.out hn).mono ?_
    rintro e w12 ⟨Z, mz, kz, rfl, oz, b12⟩
    obtain rfl : mz = my := (own_nC_FacesOf oz).symm.trans HL.out
    go_wp2_with fail
    refine (FacesOf_i _ _ _ _ _ (Rd.of_own oz) HL.out (by omega)).mono ?_
    rintro e w13 ⟨K, mk, kk, rfl, ok13, b13⟩
    rw [HV.out] at ok13
    rw [HB.out]
    have hmk := own_nI_FacesOf ok13
    have HMK := Lib.hid hmk
    have hk6 : mk ≤ 1048576 := by omega
    clear hmk
    have b1013 : Below w10.heap.size w10 w13 := bel_trans (bel_trans b11 b12) b13
    go_wp2_with fail
    refine (eqIntS_t _ _ _ _ _ _ vs _ (Rd.of_own ok13) (rW10.below b1013) HMK.out HMW.out (by omega)).mono ?_
    rintro e w14 ⟨rfl, b14⟩
    go_wp2_with fail
    refine (heldIntS_l _ _ _ _ _ ((Rd.of_own oG10).below (bel_trans b1013 b14)) (by omega) (by omega) (by omega)).mono ?_
    rintro e w15 ⟨rfl, b15⟩
    go_wp2_with fail
    go_ret
    exact ⟨rfl, bel_trans (bel_trans (bel_trans b010 b1013) b14) b15⟩
end Go.Proofs.Ytemmbpmgfjodnaa
