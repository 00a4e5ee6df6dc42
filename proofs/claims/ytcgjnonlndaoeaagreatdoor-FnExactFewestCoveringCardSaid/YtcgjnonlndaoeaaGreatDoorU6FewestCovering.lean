/- Texts of this claim, one behind the other: part 6. -/
import Derived.Test.YtcgjnonlndaoeaaGreatDoorU5FewestCovering
import Derived.Outline
import Derived.WalkLawsBesides
import Derived.WalkSpells
import Derived.BigQuiet
import Derived.Deep.QuietTactic
import Derived.Deep.RegionHeld3
import Derived.Deep.RegionWith
import Derived.Deep.DeepCutAuto
import Derived.Deep.CutBlock
import Derived.Deep.DrawnRows
import Derived.Lib.SmallJoins
import Derived.Test.YtcgjnonlndaoeaaGreatDoorRows
import Derived.Lib.LaidTab
import Derived.LaidMore
import Derived.Stop.LaidErr
import Derived.MakeChecks
/- The law on FnExactFewestCovering. -/
namespace Go.Proofs.YtcgjnonlndaoeaaGreatDoor
open Go.RowKit
set_option linter.unusedVariables false
attribute [local go_sem ↓] Go.wp_at_zero Go.wp_at_succ
set_option maxRecDepth 100000 in
set_option maxHeartbeats 3200000 in
theorem law_FnExactFewestCovering (W : Int) (A : Option Addr) (n c : Nat) (rows : List Int) (B : Option Addr) (q cb : Nat) (P : List (List C)) (w : World) (hr : Rd w A (vI rows)) (hl : rows.length = n) (hm : n ≤ maxLen) (hrP : ∃ hs, RdP w B q hs P ∧ ∀ x ∈ hs, x.2.1 ≤ maxLen) (hlP : P.length = q) (hmP : q ≤ maxLen) (hTb : Tb w) :
    Calls Tryz.prog 4 #[.agg #[.int .i64 W, .slice A n c], .slice B q cb] w (Ret w (.bool true)) := by
  obtain ⟨hs, hP, hxl⟩ := hrP
  have HTB := Lib.hid hTb
  clear hTb
  have HL := Lib.hid hl
  have HX := Lib.hid hxl
  have HP := Lib.hid hP
  have HMP := Lib.hid hmP
  have HA0 := Lib.hid (Blk.new w 24 #[.int .i64 W, .slice A n c])
  have hv7 : (fewL W rows P).length ≤ 1048576 := by have := fewL_len W rows P; omega
  obtain ⟨F, hv⟩ : ∃ F, fewL W rows P = F := ⟨_, rfl⟩
  obtain ⟨bb, hbb⟩ : ∃ bb, ((fewcV W rows P).isSome) = bb := ⟨_, rfl⟩
  have HBB := Lib.hid hbb
  rw [hv] at hv7
  have HV := Lib.hid hv
  have hne1 : (bb != bb) = false := by cases bb <;> rfl
  clear hv hbb
  clear hl hxl hP hlP hmP
  by_cases hbig : (1048576 : Int) < (n : Int)
  · have HS : Hid (szR 1048576 n = -1) := if_pos hbig
    clear hbig
    go_enter Tryz.func4, Tryz.ntmps4
    go_wp2_with fail
    refine (szRegion_l W A n c 1048576 _ hm (by omega) (by omega)).mono ?_
    rw [HS.out]
    rintro e w1 ⟨rfl, hb1⟩
    go_wp2_with fail
    go_ret
    exact ⟨rfl, (by (repeat (first | with_reducible exact Below.refl _ _ | with_reducible assumption | with_reducible apply bel_alloc | with_reducible apply bel_drew | with_reducible apply bel_drewN | ((with_reducible refine bel_set ?_ ?_); rotate_left; (simp <;> omega)) | (with_reducible refine bel_trans ?_ (by with_reducible assumption)))))⟩
  · have hn : n ≤ 1048576 := by omega
    have HS : Hid (szR 1048576 n = 1048576 - n) := if_neg hbig
    have hsz : ¬ (1048576 - (n : Int)) < 0 := by omega
    clear hbig
    obtain ⟨z, hz⟩ : ∃ z, szP (1048576 - (n : Int)) q P = z := ⟨_, rfl⟩
    have HZ := Lib.hid hz
    by_cases hz0 : z < 0
    · clear hz
      go_enter Tryz.func4, Tryz.ntmps4
      go_wp2_with fail
      refine (szRegion_l W A n c 1048576 _ hm (by omega) (by omega)).mono ?_
      rw [HS.out]
      rintro e w1 ⟨rfl, hb1⟩
      go_wp2_with fail
      refine (szCellSS_l B q cb (1048576 - (n : Int)) hs P _ (HP.out.below (by (repeat (first | with_reducible exact Below.refl _ _ | with_reducible assumption | with_reducible apply bel_alloc | with_reducible apply bel_drew | with_reducible apply bel_drewN | ((with_reducible refine bel_set ?_ ?_); rotate_left; (simp <;> omega)) | (with_reducible refine bel_trans ?_ (by with_reducible assumption)))))) HX.out HMP.out (by omega) (by omega)).mono ?_
      rw [HZ.out]
      rintro e w2 ⟨rfl, hb2⟩
      go_wp2_with fail
      go_ret
      exact ⟨rfl, (by (repeat (first | with_reducible exact Below.refl _ _ | with_reducible assumption | with_reducible apply bel_alloc | with_reducible apply bel_drew | with_reducible apply bel_drewN | ((with_reducible refine bel_set ?_ ?_); rotate_left; (simp <;> omega)) | (with_reducible refine bel_trans ?_ (by with_reducible assumption)))))⟩
    · have hqt : q ≤ 1048576 ∧ totC P ≤ 1048576 := by
        unfold szP at hz
        split at hz
        · omega
        · have := szRows_ok _ P (by rw [hz]; omega : 0 ≤ szRows (1048576 - (n : Int) - (q : Int)) P)
          omega
      obtain ⟨hq, ht⟩ := hqt
      have HT := Lib.hid ht
      clear hz ht
      go_enter Tryz.func4, Tryz.ntmps4
      go_wp2_with fail
      refine (szRegion_l W A n c 1048576 _ hm (by omega) (by omega)).mono ?_
      rw [HS.out]
      rintro e w1 ⟨rfl, hb1⟩
      have HA1 := Lib.hid (HA0.out.below hb1); (try clear a0 a1 al); have a0 : w1.cell? ⟨w.heap.size, 0, none⟩ = some (.int .i64 W) := (by simpa using HA1.out.cell 0); have a1 : w1.cell? ⟨w.heap.size, 1, none⟩ = some (.slice A n c) := (by simpa using HA1.out.cell 1); have al : w.heap.size < w1.heap.size := HA1.out.lt
      have g1 : Below w.heap.size w w1 := (by (repeat (first | with_reducible exact Below.refl _ _ | with_reducible assumption | with_reducible apply bel_alloc | with_reducible apply bel_drew | with_reducible apply bel_drewN | ((with_reducible refine bel_set ?_ ?_); rotate_left; (simp <;> omega)) | (with_reducible refine bel_trans ?_ (by with_reducible assumption)))))
      go_wp2_with fail
      refine (szCellSS_l B q cb (1048576 - (n : Int)) hs P _ (HP.out.below g1) HX.out HMP.out (by omega) (by omega)).mono ?_
      rw [HZ.out]
      rintro e w2 ⟨rfl, hb2⟩
      have HA2 := Lib.hid (HA1.out.below hb2); (try clear a0 a1 al); have a0 : w2.cell? ⟨w.heap.size, 0, none⟩ = some (.int .i64 W) := (by simpa using HA2.out.cell 0); have a1 : w2.cell? ⟨w.heap.size, 1, none⟩ = some (.slice A n c) := (by simpa using HA2.out.cell 1); have al : w.heap.size < w2.heap.size := HA2.out.lt
      have g2 := bel_trans g1 hb2
      go_wp2_with fail
      refine (toRegion_l W A n c rows _ (hr.below g2) HL.out hn).mono ?_
      rintro e w3 ⟨Y, ny, cy, rfl, oY, hb3⟩
      obtain rfl : n = ny := HL.out.symm.trans (own_nI oY)
      have HY := Lib.hid (Rd.of_own oY)
      clear oY
      have HA3 := Lib.hid (HA2.out.below hb3); (try clear a0 a1 al); have a0 : w3.cell? ⟨w.heap.size, 0, none⟩ = some (.int .i64 W) := (by simpa using HA3.out.cell 0); have a1 : w3.cell? ⟨w.heap.size, 1, none⟩ = some (.slice A n c) := (by simpa using HA3.out.cell 1); have al : w.heap.size < w3.heap.size := HA3.out.lt
      have g3 := bel_trans g2 hb3
      go_wp2_with fail
      refine (toCellSS_l B q cb hs P _ (HP.out.below g3) hq HT.out).mono ?_
      rintro e w4 ⟨YP, cyp, hsY, rfl, oYP, hb4⟩
      have HYP := Lib.hid oYP
      clear oYP
      have HA4 := Lib.hid (HA3.out.below hb4); (try clear a0 a1 al); have a0 : w4.cell? ⟨w.heap.size, 0, none⟩ = some (.int .i64 W) := (by simpa using HA4.out.cell 0); have a1 : w4.cell? ⟨w.heap.size, 1, none⟩ = some (.slice A n c) := (by simpa using HA4.out.cell 1); have al : w.heap.size < w4.heap.size := HA4.out.lt
      have g4 := bel_trans g3 hb4
      go_wp2_with fail
      refine (FewestCovering_s W Y YP n cy q cyp rows hsY P _ (HY.out.below hb4) HL.out HYP.out hq HT.out).mono ?_
      rw [HV.out, HBB.out]
      rintro e w6 ⟨Wt, mw, kw, rfl, ow, hb6⟩
      have HOW := Lib.hid ow
      have hmw : F.length = mw := by have h1 := own_len ow; rw [vI_length] at h1; omega
      have HFW := Lib.hid hmw
      clear ow
      have HA6 := Lib.hid (HA4.out.below hb6); (try clear a0 a1 al); have a0 : w6.cell? ⟨w.heap.size, 0, none⟩ = some (.int .i64 W) := (by simpa using HA6.out.cell 0); have a1 : w6.cell? ⟨w.heap.size, 1, none⟩ = some (.slice A n c) := (by simpa using HA6.out.cell 1); have al : w.heap.size < w6.heap.size := HA6.out.lt
      have g6 := bel_trans g4 hb6
      go_wp2_with fail
      refine (toRegion_l W A n c rows _ (hr.below g6) HL.out hn).mono ?_
      rintro e w7 ⟨X, nx, cx, rfl, ox, hb7⟩
      obtain rfl : n = nx := HL.out.symm.trans (own_nI ox)
      have HOX := Lib.hid ox
      clear ox
      have HA7 := Lib.hid (HA6.out.below hb7); (try clear a0 a1 al); have a0 : w7.cell? ⟨w.heap.size, 0, none⟩ = some (.int .i64 W) := (by simpa using HA7.out.cell 0); have a1 : w7.cell? ⟨w.heap.size, 1, none⟩ = some (.slice A n c) := (by simpa using HA7.out.cell 1); have al : w.heap.size < w7.heap.size := HA7.out.lt
      have g7 := bel_trans g6 hb7
      have HX7 := Lib.hid (Blk.new w7 29 #[.int .i64 W, .slice X n cx])
      have b78 : Below w7.heap.size w7 (w7.alloc (.cells #[.int .i64 W, .slice X n cx] 29)) := bel_alloc (Below.refl _ _) _
      go_wp2_with fail
      refine (toCellSSo_l B q cb hs P _ ((HP.out.below g7).below b78) hq HT.out).mono ?_
      rintro e w8 ⟨hsX, cxp, rfl, oXP, hb8⟩
      have HWS : Hid ((w7.alloc (.cells #[.int .i64 W, .slice X n cx] 29)).heap.size = w7.heap.size + 1) := by show _ = _; simp
      rw [HWS.out] at oXP
      rw [HWS.out]
      obtain ⟨XP, hXP⟩ : ∃ XP, some (⟨w7.heap.size + 1, 0, none⟩ : Addr) = XP := ⟨_, rfl⟩
      have HXPE := Lib.hid hXP
      rw [hXP] at oXP ⊢
      clear hXP
      have HXP := Lib.hid oXP
      clear oXP
      have b8 := bel_trans b78 hb8
      have HA8 := Lib.hid (HA7.out.below b8); (try clear a0 a1 al); have a0 : w8.cell? ⟨w.heap.size, 0, none⟩ = some (.int .i64 W) := (by simpa using HA8.out.cell 0); have a1 : w8.cell? ⟨w.heap.size, 1, none⟩ = some (.slice A n c) := (by simpa using HA8.out.cell 1); have al : w.heap.size < w8.heap.size := HA8.out.lt
      have HX8 := Lib.hid (HX7.out.below hb8); (try clear x0 x1 xl); have x0 : w8.cell? ⟨w7.heap.size, 0, none⟩ = some (.int .i64 W) := (by simpa using HX8.out.cell 0); have x1 : w8.cell? ⟨w7.heap.size, 1, none⟩ = some (.slice X n cx) := (by simpa using HX8.out.cell 1); have xl : w7.heap.size < w8.heap.size := HX8.out.lt
      have g8 := bel_trans g7 b8
      go_wp2_with fail
      refine (FewestCovering_i W X XP n cx q cxp rows hsX P _ ((Rd.of_own HOX.out).below b8) HL.out HXP.out.rdp hq HT.out (HTB.out.below g8)).mono ?_
      rw [HV.out, HBB.out]
      rintro e w10 ⟨G, mg, kg, rfl, og, hb10⟩
      have HOG := Lib.hid og
      have hmg : F.length = mg := by have h1 := own_len og; rw [vI_length] at h1; omega
      have HFG := Lib.hid hmg
      have hmg2 : mg ≤ 1048576 := by omega
      have hmw2 : mw ≤ 1048576 := by omega
      have hmg3 : mg ≤ 1099511627776 := by omega
      clear og hmg hmw
      have HA10 := Lib.hid (HA8.out.below hb10); (try clear a0 a1 al); have a0 : w10.cell? ⟨w.heap.size, 0, none⟩ = some (.int .i64 W) := (by simpa using HA10.out.cell 0); have a1 : w10.cell? ⟨w.heap.size, 1, none⟩ = some (.slice A n c) := (by simpa using HA10.out.cell 1); have al : w.heap.size < w10.heap.size := HA10.out.lt
      have HX10 := Lib.hid (HX8.out.below hb10); (try clear x0 x1 xl); have x0 : w10.cell? ⟨w7.heap.size, 0, none⟩ = some (.int .i64 W) := (by simpa using HX10.out.cell 0); have x1 : w10.cell? ⟨w7.heap.size, 1, none⟩ = some (.slice X n cx) := (by simpa using HX10.out.cell 1); have xl : w7.heap.size < w10.heap.size := HX10.out.lt
      have b06 := bel_trans g8 hb10
      have b710 := bel_trans b8 hb10
      have b610 : Below w6.heap.size w6 w10 := bel_trans hb7 b710
      go_wp2_with fail
      refine (eqIntS_t _ _ _ _ _ _ F _ (Rd.of_own (HOG.out)) (Rd.of_own (own_keep HOW.out b610)) HFG.out HFW.out hmg3).mono ?_
      rintro e w20 ⟨rfl, hb20⟩
      have HA20 := Lib.hid (HA10.out.below hb20); (try clear a0 a1 al); have a0 : w20.cell? ⟨w.heap.size, 0, none⟩ = some (.int .i64 W) := (by simpa using HA20.out.cell 0); have a1 : w20.cell? ⟨w.heap.size, 1, none⟩ = some (.slice A n c) := (by simpa using HA20.out.cell 1); have al : w.heap.size < w20.heap.size := HA20.out.lt
      have HX20 := Lib.hid (HX10.out.below hb20); (try clear x0 x1 xl); have x0 : w20.cell? ⟨w7.heap.size, 0, none⟩ = some (.int .i64 W) := (by simpa using HX20.out.cell 0); have x1 : w20.cell? ⟨w7.heap.size, 1, none⟩ = some (.slice X n cx) := (by simpa using HX20.out.cell 1); have xl : w7.heap.size < w20.heap.size := HX20.out.lt
      have b06 := bel_trans b06 hb20
      have b720 := bel_trans b710 hb20
      go_wp2_with fail; (refine wp_region_tailN (C := ExC w20) 2 (by kernel_rfl) (by kernel_rfl) (ExC.drawn _) (fun _ _ h k => ExC.ext h k) ?_; simp only [List.take_succ_cons, List.take_zero, List.drop_succ_cons, List.drop_zero]; (repeat (first | (refine headSkip (by rfl) rfl ?_; simp only [List.setIfInBounds_toArray, List.set_cons_zero, List.set_cons_succ]) | (refine headV (v := ?_) (by rfl) rfl (fun w' hcw => ?_) ?_; rotate_left; ((try dsimp only at hcw); have hbc := hcw.cells; go_simp; first | done | with_reducible rfl | fail); simp only [List.setIfInBounds_toArray, List.set_cons_zero, List.set_cons_succ]))); unfold wpHead); refine tailK (by rfl) (fun u7 hc7 he7 K hK => ?_); go_simp; refine (toRegion_l W A n c rows _ (hr.below (bel_trans b06 hc7)) HL.out hn).mono ?_; rintro e u8 ⟨Z, q3, cz, rfl, oz, hz8⟩; obtain rfl : n = q3 := (HL.out).symm.trans (own_nI oz); have hu8 := bel_trans hc7 hz8; have HOZ := Lib.hid oz; clear oz; refine hK _ _ hu8 ?_; clear hK K; refine tailK (by rfl) (fun u9 hc9 he9 K hK => ?_); go_simp; refine (eqRegion_t W X Z n cx n cz rows _ ((Rd.of_own (own_keep HOX.out b720)).below ((by (repeat (first | with_reducible exact Below.refl _ _ | with_reducible assumption | with_reducible apply bel_alloc | with_reducible apply bel_drew | with_reducible apply bel_drewN | ((with_reducible refine bel_set ?_ ?_); rotate_left; (simp <;> omega)) | (with_reducible refine bel_trans ?_ (by with_reducible assumption))))))) ((Rd.of_own HOZ.out).below he9) HL.out HL.out hn).mono ?_; rintro e u10 ⟨rfl, hz10⟩; have hu10 := bel_trans hc9 hz10; refine hK _ _ hu10 ?_; clear hK K; (refine tailK (by rfl) (fun u11 hc11 he11 K hK => ?_); go_simp; refine hK _ _ (hc11) ?_; clear hK K); (refine fun w11 hu heu => NoPanic.normal ?_)
      clear hc7 he7 hz8 hu8 HOZ hc9 he9 hz10 hu10 hc11 he11 heu
      have hb11 : Below w20.heap.size w20 w11 := hu
      clear hu
      have g11 := bel_trans b06 hb11
      go_wp2_with fail
      refine (toCellSS_l B q cb hs P _ (HP.out.below g11) hq HT.out).mono ?_
      rintro e w12 ⟨ZP, czp, hsZ, rfl, oZP, hb12⟩
      have HZP := Lib.hid oZP
      clear oZP
      go_wp2_with fail
      refine (eqCellSS_t XP ZP q cxp q czp hsX hsZ P _ (((((HXP.out.rdp).below hb10).below hb20).below hb11).below hb12) HZP.out (by omega) (by have := HT.out; omega)).mono ?_
      rintro e w13 ⟨rfl, hb13⟩
      have g13 := bel_trans g11 (bel_trans hb12 hb13)
      have hb1013 : Below w10.heap.size w10 w13 := bel_trans hb20 (bel_trans hb11 (bel_trans hb12 hb13))
      have b713 := bel_trans b710 hb1013
      have HX13 := Lib.hid (HX20.out.below (bel_trans hb11 (bel_trans hb12 hb13))); (try clear x0 x1 xl); have x0 : w13.cell? ⟨w7.heap.size, 0, none⟩ = some (.int .i64 W) := (by simpa using HX13.out.cell 0); have x1 : w13.cell? ⟨w7.heap.size, 1, none⟩ = some (.slice X n cx) := (by simpa using HX13.out.cell 1); have xl : w7.heap.size < w13.heap.size := HX13.out.lt
      have hX8 : w7.heap.size + 1 ≤ w8.heap.size := by have := hb8.size; have := HWS.out; omega
      have oX13 := own_keep HOX.out b713
      have hXlt := own_lt oX13
      have hXl2 := own_lt HOX.out
      have HXP13 := ((HXP.out.below hb10).below hb1013)
      have og13 := own_keep HOG.out hb1013
      have HOX13 := Lib.hid oX13
      have HXP13 := Lib.hid HXP13
      have HOG13 := Lib.hid og13
      have HXL2 := Lib.hid hXl2
      have HG13 := Lib.hid g13
      have H713 := Lib.hid b713
      have H1013 := Lib.hid hb1013
      have H610 := Lib.hid b610
      have h678 : w6.heap.size ≤ w7.heap.size := hb7.size
      have h810 : w8.heap.size ≤ w10.heap.size := hb10.size
      have h8G : w8.heap.size ≤ w8.heap.size := Nat.le_refl _
      have h7G : w7.heap.size + 1 ≤ w8.heap.size := Nat.le_trans hX8 h8G
      have h046 : w.heap.size ≤ w6.heap.size := g6.size
      have hn1 : (0 : Int) ≤ 1 + (n : Int) := by omega
      clear oX13 hXlt hXl2 og13 g13 b713 hb1013 b610
      go_wp2_with fail
      refine (markRegion_l W X n cx w6.heap.size 1 rows _ HOX13.out hn (by omega) (by omega)).mono ?_
      rintro e w30 ⟨rfl, oX14, gX⟩
      have HXP14 := Lib.hid (HXP13.out.grown gX (fun g e => by have h1 := (HXL2.out g e).2; omega) (fun g e => by rw [← HXPE.out] at e; simp only [ob, Option.map_some, Option.some.injEq] at e; omega))
      have HGX := Lib.hid gX
      have hsz14 : w7.heap.size + 1 ≤ w30.heap.size := by have h1 := gX.size; have h2 := H1013.out.size; omega
      clear oX14 gX
      go_wp2_with fail
      refine (markCellSS_l (w7.heap.size + 1) w8.heap.size XP q cxp (1 + (n : Int)) hsX P w30 HXP14.out hsz14 hq HT.out (by omega) (by omega)).mono ?_
      rintro e w31 ⟨rfl, hmid⟩
      have htt := HT.out
      have hk15 : ¬ 1 + (n : Int) + 2 * ((totC P : Nat) : Int) < 0 := by omega
      have hk15b : 1 + (n : Int) + 2 * ((totC P : Nat) : Int) ≤ 9000000 := by omega
      have og15 := own_mid (own_kept HOG13.out HGX.out (fun g e r => by have h1 := (own_lt HOG13.out g e).1; have h2 := (HXL2.out g r).2; omega)) hmid h8G
      have bW15 : Below w6.heap.size w6 w31 := ⟨hmid.os.trans (HGX.out.os.trans (H1013.out.os.trans H610.out.os)), hmid.tape.trans (HGX.out.tape.trans (H1013.out.tape.trans H610.out.tape)), hmid.output.trans (HGX.out.output.trans (H1013.out.output.trans H610.out.output)), by have h1 := hmid.size; have h2 := HGX.out.size; have h3 := H1013.out.size; omega, fun k hk => by
        have e1 := H610.out.block k hk
        have e2 := H1013.out.block k (by omega)
        have e3 := HGX.out.block k (by have h3 := H1013.out.size; omega) (fun r => by have h1 := (own_lt HOX.out k r.symm).1; omega)
        have e4 := hmid.block k (by have h2 := HGX.out.size; have h3 := H1013.out.size; omega) (.inl (by omega))
        rw [e4, e3, e2, e1]⟩
      have HOG15 := Lib.hid og15
      have HBW15 := Lib.hid bW15
      have h815 : w8.heap.size ≤ w31.heap.size := by have h1 := hmid.size; have h2 := HGX.out.size; have h3 := H1013.out.size; omega
      clear og15 bW15 hmid htt
      go_wp2_with fail
      refine (eqIntS_t _ _ _ _ _ _ F _ (Rd.of_own (HOG15.out)) (Rd.of_own (own_keep HOW.out HBW15.out)) HFG.out HFW.out hmg3).mono ?_
      rintro e w33 ⟨rfl, hb16⟩
      have h816 : w8.heap.size ≤ w33.heap.size := Nat.le_trans h815 hb16.size
      have HB16 := Lib.hid hb16
      clear hb16
      go_wp2_with fail
      refine (markIntS_l G mg kg w8.heap.size 1 F _ (own_keep HOG15.out HB16.out) hmg3 (by omega) (by omega)).mono ?_
      rintro e w34 ⟨rfl, oG17, g17⟩
      have HOG17 := Lib.hid oG17
      have bW17 : Below w6.heap.size w6 w34 := (bel_trans HBW15.out HB16.out).grown g17 (by have h1 := HBW15.out.size; have h2 := HB16.out.size; omega) (fun g e => by have h1 := (own_lt HOG15.out g e).1; omega)
      have HBW17 := Lib.hid bW17
      have ht0 : ¬ (1 : Int) + (mg : Int) < 0 := by omega
      clear oG17 g17 bW17
      go_wp2_with fail
      refine (heldIntS_l G mg kg 1 _ (Rd.of_own HOG17.out) hmg3 (by omega) (by omega)).mono ?_
      rintro e w35 ⟨rfl, hb18⟩
      have b018 := bel_trans (bel_trans g6 HBW17.out) hb18
      have HA18 := Lib.hid (HA6.out.below (bel_trans HBW17.out hb18)); (try clear a0 a1 al); have a0 : w35.cell? ⟨w.heap.size, 0, none⟩ = some (.int .i64 W) := (by simpa using HA18.out.cell 0); have a1 : w35.cell? ⟨w.heap.size, 1, none⟩ = some (.slice A n c) := (by simpa using HA18.out.cell 1); have al : w.heap.size < w35.heap.size := HA18.out.lt
      go_wp2_with fail
      refine (toRegion_l W A n c rows _ (hr.below b018) HL.out hn).mono ?_
      rintro e w36 ⟨Y2, ny2, cy2, rfl, oY2, hb19⟩
      obtain rfl : n = ny2 := HL.out.symm.trans (own_nI oY2)
      have HY2 := Lib.hid (Rd.of_own oY2)
      clear oY2
      have b019 := bel_trans b018 hb19
      go_wp2_with fail
      refine (toCellSS_l B q cb hs P _ (HP.out.below b019) hq HT.out).mono ?_
      rintro e w37 ⟨YP2, cyp2, hsY2, rfl, oYP2, hb19b⟩
      have HYP2 := Lib.hid oYP2
      clear oYP2
      go_wp2_with fail
      refine (FewestCovering_i W Y2 YP2 n cy2 q cyp2 rows hsY2 P _ (HY2.out.below hb19b) HL.out HYP2.out hq HT.out (HTB.out.below (bel_trans b019 hb19b))).mono ?_
      rw [HV.out, HBB.out]
      rintro e w38 ⟨K, mk, kk, rfl, ok21, hb21⟩
      have hmk : F.length = mk := by have h1 := own_len ok21; rw [vI_length] at h1; omega
      have hmk3 : mk ≤ 1099511627776 := by omega
      have b1721 : Below w34.heap.size w34 w38 := bel_trans (bel_trans (bel_trans hb18 hb19) hb19b) hb21
      have bW21 := bel_trans HBW17.out b1721
      go_wp2_with fail
      refine (eqIntS_t _ _ _ _ _ _ F _ (Rd.of_own ok21) (Rd.of_own (own_keep HOW.out bW21)) hmk HFW.out hmk3).mono ?_
      rintro e w39 ⟨rfl, hb22⟩
      go_wp2_with fail
      refine (heldIntS_l G mg kg 1 _ (Rd.of_own (own_keep HOG17.out (bel_trans b1721 hb22))) hmg3 (by omega) (by omega)).mono ?_
      rintro e w40 ⟨rfl, hb23⟩
      go_wp2_with fail
      go_ret
      exact ⟨rfl, bel_trans (bel_trans (bel_trans (bel_trans g6 HBW17.out) b1721) hb22) hb23⟩
end Go.Proofs.YtcgjnonlndaoeaaGreatDoor

/- An argument that is a region, opened. -/
namespace Go.Proofs.YtcgjnonlndaoeaaGreatDoor
open Go.RowKit Go.ChangeShapes Go.WideShapes Go.Deep Go.Joins
set_option linter.unusedVariables false
section
variable {H : Type} {enc : TypeId × Value → H}
set_option maxRecDepth 100000 in
theorem openI_core {W : World} {t : TypeId} (ht : Tryz.prog.underlying t = some (.slice 3)) {base : Nat} {spare : Nat → Bool} {held : Bool} {fuel : Nat} {v : Value} {x : DataW H × List MemPlace} (hf : DataW.trod enc Tryz.prog W base spare held fuel t [v] = some x) :
    ∃ A n c xs, v = .slice A n c ∧ Rd W A (vI xs) ∧ xs.length = n ∧ n ≤ maxLen := by
  rcases open_ints ht Tryz.underlying3 cellsI hf with ⟨hcs, hx⟩ | ⟨a, len', cap', zs, hcs, _, hl, hm, hz, hx, hcell, hwz⟩
  · injection hcs with hcs
    exact ⟨none, 0, 0, [], hcs, .inl rfl, rfl, Nat.zero_le _⟩
  · injection hcs with hcs
    subst hcs
    have hzl : len' ≤ zs.length := by rw [hz]; split <;> omega
    refine ⟨_, _, _, zs.take len', rfl, ?_, by rw [List.length_take]; omega, by omega⟩
    by_cases h0 : 0 < zs.length
    · obtain ⟨b, off, rfl, hc⟩ := ints_at hcell h0
      refine .inr ⟨b, off, rfl, fun j u hu => ?_⟩
      simp only [vI, List.getElem?_map, Option.map_eq_some_iff] at hu
      obtain ⟨x, hx, rfl⟩ := hu
      have hjl : j < len' := by
        rcases Nat.lt_or_ge j len' with h | h
        · exact h
        · rw [List.getElem?_eq_none (by rw [List.length_take]; omega)] at hx; cases hx
      rw [List.getElem?_take_of_lt hjl] at hx
      rw [hc j (by omega), List.getD_eq_getElem?_getD, hx]
      rfl
    · left
      rw [List.eq_nil_of_length_eq_zero (by omega : zs.length = 0)]
      simp [vI]
theorem cellsLR : Tryz.prog.cellsOf 24 = 2 := by kernel_rfl
set_option maxRecDepth 100000 in
theorem openR {W : World} {r : Reach} {b0 : Nat} {base : Nat} {spare : Nat → Bool} {held : Bool} {v : Value} {d : DataW H} {p : List MemPlace} (hv : Value.okWide Tryz.prog W r b0 24 v) (h : DataW.Trod enc Tryz.prog W base spare held 24 v d p) :
    ∃ x A n c xs, v = .agg #[.int .i64 x, .slice A n c] ∧ Rd W A (vI xs) ∧ xs.length = n ∧ n ≤ maxLen := by
  obtain ⟨v0, v1, y0, y1, m, rfl, _, _, h0, h1⟩ := open_agg2 Tryz.underlying24 (by kernel_rfl) cellsLR hv h
  obtain ⟨x, e0, _, _⟩ := DataW.trod_int Tryz.underlying3 h0
  injection e0 with e0
  subst e0
  obtain ⟨A, n, c, xs, rfl, hr, hl, hm⟩ := openI_core Tryz.underlying22 h1
  exact ⟨x, A, n, c, xs, rfl, hr, hl, hm⟩
end
end Go.Proofs.YtcgjnonlndaoeaaGreatDoor

/- The library's table, out of what the row lists. -/
namespace Go.Proofs.YtcgjnonlndaoeaaGreatDoor
open Go.RowKit
set_option linter.unusedVariables false
def zs64 : List Int := Lib.deBruijn64tab.map fun (x : Nat) => (x : Int)
theorem tb_of_tab {W : World} (h : laidMet Tryz.prog [("math/bits.deBruijn64tab", Lib.tabData .u8 zs64)] W) : Tb W := by
  have hT := Lib.tabIs_of_head (P := Tryz.prog) (g := 1) (by kernel_rfl) (t := 123) (by kernel_rfl) (n := 64) (e := 5) (by kernel_rfl) (by kernel_rfl) (by kernel_rfl) (by kernel_rfl) h
  intro j hj
  have h2 := hT.cell (g := 1) (by kernel_rfl) j (by simpa [zs64] using hj)
  rw [h2]
  congr 2
  unfold zs64
  rw [List.getD_eq_getElem?_getD, List.getElem?_map, List.getElem?_eq_getElem hj, List.getD_eq_getElem?_getD, List.getElem?_eq_getElem hj]
  rfl
theorem tb_of_laid {W : World} (h : laidMetH Tryz.prog [("math/bits.deBruijn32tab", Rows.laid_math_bits_deBruijn32tab), ("math/bits.deBruijn64tab", Rows.laid_math_bits_deBruijn64tab)] W) : Tb W := by
  rw [MakeChecks.laidMetH_plain _ _ _ (by kernel_rfl)] at h
  exact tb_of_tab h.tail
end Go.Proofs.YtcgjnonlndaoeaaGreatDoor
