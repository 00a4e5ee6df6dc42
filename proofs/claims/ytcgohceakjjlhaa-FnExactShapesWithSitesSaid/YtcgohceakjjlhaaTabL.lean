/- The laws on the table of places. -/
import Derived.Test.YtcgohceakjjlhaaTabD
import Derived.Test.YtcgohceakjjlhaaLawI
namespace Go.Proofs.Ytcgohceakjjlhaa
open Go.RowKit
set_option linter.unusedVariables false
attribute [local go_sem ↓] Go.wp_at_zero Go.wp_at_succ

theorem law_FnExactShapesWithSites (n k : Int) (w : World) (_h : (Lit.int .i64 n).wf = true) (_h2 : (Lit.int .i64 k).wf = true) : Calls Try.prog 8 #[.int .i64 n, .int .i64 k] w (Ret w (.bool true)) := by
  obtain ⟨v, hv⟩ : ∃ v, swV (tabV (fixA n)) k = v := ⟨_, rfl⟩
  have HV := Lib.hid hv
  have hne : (v != v) = false := by simp
  clear hv _h _h2
  go_enter Try.func8, Try.ntmps8
  go_wp2_with fail
  refine (ShapesWithSites_s n k _).mono ?_
  rw [HV.out]
  rintro e w1 ⟨rfl, hb1⟩
  go_wp2_with fail
  refine (ShapesWithSites_i n k _).mono ?_
  rw [HV.out]
  rintro e w2 ⟨rfl, hb2⟩
  go_wp2_with fail
  go_ret
  exact ⟨rfl, bel_trans hb1 hb2⟩
theorem law_FnExactMostNeighbours (n : Int) (w : World) (_h : (Lit.int .i64 n).wf = true) : Calls Try.prog 10 #[.int .i64 n] w (Ret w (.bool true)) := by
  obtain ⟨v, hv⟩ : ∃ v, mostTo (tabV (fixA n)) (tabV (fixA n)).length = v := ⟨_, rfl⟩
  have HV := Lib.hid hv
  have hne : (v != v) = false := by simp
  clear hv _h
  go_enter Try.func10, Try.ntmps10
  go_wp2_with fail
  refine (MostNeighbours_s n _).mono ?_
  rw [HV.out]
  rintro e w1 ⟨rfl, hb1⟩
  go_wp2_with fail
  refine (MostNeighbours_i n _).mono ?_
  rw [HV.out]
  rintro e w2 ⟨rfl, hb2⟩
  go_wp2_with fail
  go_ret
  exact ⟨rfl, bel_trans hb1 hb2⟩
theorem law_FnExactFewestNeighbours (n : Int) (w : World) (_h : (Lit.int .i64 n).wf = true) : Calls Try.prog 9 #[.int .i64 n] w (Ret w (.bool true)) := by
  obtain ⟨v, hv⟩ : ∃ v, fewV (tabV (fixA n)) = v := ⟨_, rfl⟩
  have HV := Lib.hid hv
  have hne : (v != v) = false := by simp
  clear hv _h
  go_enter Try.func9, Try.ntmps9
  go_wp2_with fail
  refine (FewestNeighbours_s n _).mono ?_
  rw [HV.out]
  rintro e w1 ⟨rfl, hb1⟩
  go_wp2_with fail
  refine (FewestNeighbours_i n _).mono ?_
  rw [HV.out]
  rintro e w2 ⟨rfl, hb2⟩
  go_wp2_with fail
  go_ret
  exact ⟨rfl, bel_trans hb1 hb2⟩
theorem own_nT {w : World} {base e n c : Nat} {A : Option Addr} {xs : List Int} (h : w.ownsRow base e 1 (.slice A n c) n (vI xs)) : xs.length = n := by
  have := own_len h
  rw [vI_length] at this
  omega
set_option maxRecDepth 100000 in
set_option maxHeartbeats 1600000 in
theorem law_FnExactSiteTable (n : Int) (w : World) (_h : (Lit.int .i64 n).wf = true) : Calls Try.prog 11 #[.int .i64 n] w (Ret w (.bool true)) := by
  have hl := tab_len n
  obtain ⟨T, hT⟩ : ∃ T, tabV (fixA n) = T := ⟨_, rfl⟩
  have HT := Lib.hid hT
  rw [hT] at hl
  clear hT _h
  go_enter Try.func11, Try.ntmps11
  go_wp2_with fail
  refine (SiteTable_s n _).mono ?_
  rw [HT.out]
  rintro e w1 ⟨W, mw, kw, rfl, ow, b1⟩
  have hmw := own_nT ow
  go_wp2_with fail
  refine (SiteTable_i n _).mono ?_
  rw [HT.out]
  rintro e w2 ⟨G, mg, kg, rfl, og, b2⟩
  have hmg := own_nT og
  have hm13 : mg ≤ 13 := by omega
  have HMW := Lib.hid hmw
  have HMG := Lib.hid hmg
  clear hmw hmg hl
  have ow2 := own_keep ow b2
  go_wp2_with fail
  refine (eqIntS_t _ _ _ _ _ _ T _ (Rd.of_own og) (Rd.of_own ow2) HMG.out HMW.out (by omega)).mono ?_
  rintro e w3 ⟨rfl, b3⟩
  have og3 := own_keep og b3
  have ow3 := own_keep ow2 b3
  go_wp2_with fail
  refine (markIntS_l _ _ _ _ _ _ _ og3 (by omega) (by omega) (by omega)).mono ?_
  rintro e w4 ⟨rfl, og4, g4⟩
  have hGge := own_lt og
  have hWlt := own_lt ow
  have rW4 : Rd w4 W (vI T) := (Rd.of_own ow3).grown g4 (fun g h e => by have h1 := (hWlt g h).2; have h2 := (hGge g e.symm).1; omega)
  have b01 := bel_trans (bel_trans b1 b2) b3
  have sz1 := b1.size
  have b04 : Below w.heap.size w w4 := bel_app b01 g4 (fun g h => by have := (hGge g h).1; omega)
  go_wp2_with fail
  refine (heldIntS_l _ _ _ _ _ (Rd.of_own og4) (by omega) (by omega) (by omega)).mono ?_
  rintro e w5 ⟨rfl, b5⟩
  have hlt : ¬ (1 : Int) + (mg : Int) < 0 := by omega
  have hne : ((1 : Int) + (mg : Int) != 1 + (mg : Int)) = false := by simp
  go_wp2_with fail
  refine (SiteTable_i n _).mono ?_
  rw [HT.out]
  rintro e w6 ⟨Z, mz, kz, rfl, oz, b6⟩
  have HMZ := Lib.hid (own_nT oz)
  have og6 := own_keep (own_keep og4 b5) b6
  have rW6 := (rW4.below b5).below b6
  obtain rfl : mg = mz := HMG.out.symm.trans HMZ.out
  go_wp2_with fail
  refine (eqIntS_t _ _ _ _ _ _ T _ (Rd.of_own oz) rW6 HMZ.out HMW.out (by omega)).mono ?_
  rintro e w7 ⟨rfl, b7⟩
  go_wp2_with fail
  refine (heldIntS_l _ _ _ _ _ (Rd.of_own (own_keep og6 b7)) (by omega) (by omega) (by omega)).mono ?_
  rintro e w8 ⟨rfl, b8⟩
  go_wp2_with fail
  go_ret
  exact ⟨rfl, bel_trans (bel_trans (bel_trans (bel_trans b04 b5) b6) b7) b8⟩
end Go.Proofs.Ytcgohceakjjlhaa
