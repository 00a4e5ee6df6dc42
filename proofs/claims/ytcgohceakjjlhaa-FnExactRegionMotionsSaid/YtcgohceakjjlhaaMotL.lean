/- The law on the motions of a region. -/
import Derived.Test.YtcgohceakjjlhaaTMask
import Derived.Test.YtcgohceakjjlhaaLawR
import Derived.Test.YtcgohceakjjlhaaLawI
import Derived.Outline
import Derived.WalkLawsBesides
import Derived.WalkSpells
import Derived.BigQuiet
import Derived.Deep.QuietTactic
import Derived.Deep.RegionHeld3
import Derived.Deep.RegionWith
import Derived.Deep.DeepCutAuto
import Derived.Deep.CutBlock
import Derived.Deep.DrawnRows
namespace Go.Proofs.Ytcgohceakjjlhaa
open Go.RowKit
set_option linter.unusedVariables false
attribute [local go_sem ↓] Go.wp_at_zero Go.wp_at_succ
set_option maxHeartbeats 1600000 in
theorem law_FnExactRegionMotions (W : Int) (A : Option Addr) (n c : Nat) (rows : List Int) (w : World) (hr : Rd w A (vI rows)) (hl : rows.length = n) (hm : n ≤ maxLen) :
    Calls Try.prog 3 #[.agg #[.int .i64 W, .slice A n c]] w (Ret w (.bool true)) := by
  by_cases hbig : (1048576 : Int) < (n : Int)
  · have HS : Hid (szR 1048576 n = -1) := if_pos hbig
    clear hbig
    go_enter Try.func3, Try.ntmps3
    go_wp2_with fail
    refine (szRegion_l W A n c 1048576 _ hm (by omega) (by omega)).mono ?_
    rw [HS.out]
    rintro e w1 ⟨rfl, hb1⟩
    go_wp2_with fail
    go_ret
    exact ⟨rfl, (by (repeat (first | with_reducible exact Below.refl _ _ | with_reducible assumption | with_reducible apply bel_alloc | with_reducible apply bel_drew | with_reducible apply bel_drewN | ((with_reducible refine bel_set ?_ ?_); rotate_left; (simp <;> omega)) | (with_reducible refine bel_trans ?_ (by with_reducible assumption)))))⟩
  · have hn : n ≤ 1048576 := by omega
    have HS : Hid (szR 1048576 n = 1048576 - n) := if_neg hbig
    have hsz : ¬ (1048576 - (n : Int)) < 0 := by omega
    have HL := Lib.hid hl
    have HA0 := Lib.hid (Blk.new w 24 #[.int .i64 W, .slice A n c])
    have hvl := motV_len W rows
    generalize hv : motV W rows = vs at hvl
    have HV := Lib.hid hv
    clear hv
    clear hl hbig
    go_enter Try.func3, Try.ntmps3
    go_wp2_with fail
    refine (szRegion_l W A n c 1048576 _ hm (by omega) (by omega)).mono ?_
    rw [HS.out]
    rintro e w1 ⟨rfl, hb1⟩
    have HA1 := Lib.hid (HA0.out.below hb1); (try clear a0 a1 al); have a0 : w1.cell? ⟨w.heap.size, 0, none⟩ = some (.int .i64 W) := (by simpa using HA1.out.cell 0); have a1 : w1.cell? ⟨w.heap.size, 1, none⟩ = some (.slice A n c) := (by simpa using HA1.out.cell 1); have al : w.heap.size < w1.heap.size := HA1.out.lt
    go_wp2_with fail
    refine (toRegion_l W A n c rows _ (hr.below (by (repeat (first | with_reducible exact Below.refl _ _ | with_reducible assumption | with_reducible apply bel_alloc | with_reducible apply bel_drew | with_reducible apply bel_drewN | ((with_reducible refine bel_set ?_ ?_); rotate_left; (simp <;> omega)) | (with_reducible refine bel_trans ?_ (by with_reducible assumption)))))) HL.out hn).mono ?_
    rintro e w2 ⟨Y, q, cy, rfl, ho2, hb2⟩
    obtain rfl : n = q := HL.out.symm.trans (own_nI ho2)
    have HA2 := Lib.hid (HA1.out.below hb2); (try clear a0 a1 al); have a0 : w2.cell? ⟨w.heap.size, 0, none⟩ = some (.int .i64 W) := (by simpa using HA2.out.cell 0); have a1 : w2.cell? ⟨w.heap.size, 1, none⟩ = some (.slice A n c) := (by simpa using HA2.out.cell 1); have al : w.heap.size < w2.heap.size := HA2.out.lt
    go_wp2_with fail
    refine (RegionMotions_s W Y n cy rows _ (Rd.of_own ho2) HL.out).mono ?_
    rw [HV.out]
    rintro e w3 ⟨V, mv, cv, rfl, ov, hb3⟩
    have hmv := own_nI ov
    have HMV := Lib.hid hmv
    have HOV := Lib.hid ov
    have vlt := own_lt ov
    have hmv8 : mv ≤ 8 := by omega
    clear ov hmv
    have HA3 := Lib.hid (HA2.out.below hb3); (try clear a0 a1 al); have a0 : w3.cell? ⟨w.heap.size, 0, none⟩ = some (.int .i64 W) := (by simpa using HA3.out.cell 0); have a1 : w3.cell? ⟨w.heap.size, 1, none⟩ = some (.slice A n c) := (by simpa using HA3.out.cell 1); have al : w.heap.size < w3.heap.size := HA3.out.lt
    go_wp2_with fail
    refine (toRegion_l W A n c rows _ (hr.below (by (repeat (first | with_reducible exact Below.refl _ _ | with_reducible assumption | with_reducible apply bel_alloc | with_reducible apply bel_drew | with_reducible apply bel_drewN | ((with_reducible refine bel_set ?_ ?_); rotate_left; (simp <;> omega)) | (with_reducible refine bel_trans ?_ (by with_reducible assumption)))))) HL.out hn).mono ?_
    rintro e w4 ⟨X, q2, cx, rfl, ox, hb4⟩
    obtain rfl : n = q2 := HL.out.symm.trans (own_nI ox)
    have HOX := Lib.hid ox
    have xlt := own_lt ox
    clear ox
    have HA4 := Lib.hid (HA3.out.below hb4); (try clear a0 a1 al); have a0 : w4.cell? ⟨w.heap.size, 0, none⟩ = some (.int .i64 W) := (by simpa using HA4.out.cell 0); have a1 : w4.cell? ⟨w.heap.size, 1, none⟩ = some (.slice A n c) := (by simpa using HA4.out.cell 1); have al : w.heap.size < w4.heap.size := HA4.out.lt
    have HX4 := Lib.hid (Blk.new w4 27 #[.int .i64 W, .slice X n cx])
    go_wp2_with fail
    refine (RegionMotions_i W X n cx rows _ ((Rd.of_own HOX.out).below (by (repeat (first | with_reducible exact Below.refl _ _ | with_reducible assumption | with_reducible apply bel_alloc | with_reducible apply bel_drew | with_reducible apply bel_drewN | ((with_reducible refine bel_set ?_ ?_); rotate_left; (simp <;> omega)) | (with_reducible refine bel_trans ?_ (by with_reducible assumption)))))) HL.out).mono ?_
    rw [HV.out]
    rintro e w5 ⟨G, mg, cg, rfl, og, hb5i⟩
    have hb5 : Below w4.heap.size w4 w5 := (by (repeat (first | with_reducible exact Below.refl _ _ | with_reducible assumption | with_reducible apply bel_alloc | with_reducible apply bel_drew | with_reducible apply bel_drewN | ((with_reducible refine bel_set ?_ ?_); rotate_left; (simp <;> omega)) | (with_reducible refine bel_trans ?_ (by with_reducible assumption)))))
    have hmg := own_nI og
    have HMG := Lib.hid hmg
    have HOG := Lib.hid og
    have glt := own_lt og
    have hmg8 : mg ≤ 8 := by omega
    clear og hmg
    have HA5 := Lib.hid (HA4.out.below hb5); (try clear a0 a1 al); have a0 : w5.cell? ⟨w.heap.size, 0, none⟩ = some (.int .i64 W) := (by simpa using HA5.out.cell 0); have a1 : w5.cell? ⟨w.heap.size, 1, none⟩ = some (.slice A n c) := (by simpa using HA5.out.cell 1); have al : w.heap.size < w5.heap.size := HA5.out.lt
    have HX5 := Lib.hid (HX4.out.below hb5i); (try clear x0 x1 xl); have x0 : w5.cell? ⟨w4.heap.size, 0, none⟩ = some (.int .i64 W) := (by simpa using HX5.out.cell 0); have x1 : w5.cell? ⟨w4.heap.size, 1, none⟩ = some (.slice X n cx) := (by simpa using HX5.out.cell 1); have xl : w4.heap.size < w5.heap.size := HX5.out.lt
    have b35 : Below w3.heap.size w3 w5 := (by (repeat (first | with_reducible exact Below.refl _ _ | with_reducible assumption | with_reducible apply bel_alloc | with_reducible apply bel_drew | with_reducible apply bel_drewN | ((with_reducible refine bel_set ?_ ?_); rotate_left; (simp <;> omega)) | (with_reducible refine bel_trans ?_ (by with_reducible assumption)))))
    have b05 : Below w.heap.size w w5 := (by (repeat (first | with_reducible exact Below.refl _ _ | with_reducible assumption | with_reducible apply bel_alloc | with_reducible apply bel_drew | with_reducible apply bel_drewN | ((with_reducible refine bel_set ?_ ?_); rotate_left; (simp <;> omega)) | (with_reducible refine bel_trans ?_ (by with_reducible assumption)))))
    go_wp2_with fail
    refine (eqIntS_t _ _ _ _ _ _ vs _ (Rd.of_own HOG.out) ((Rd.of_own HOV.out).below b35) HMG.out HMV.out (by omega)).mono ?_
    rintro e w6 ⟨rfl, hb6⟩
    have HA6 := Lib.hid (HA5.out.below hb6); (try clear a0 a1 al); have a0 : w6.cell? ⟨w.heap.size, 0, none⟩ = some (.int .i64 W) := (by simpa using HA6.out.cell 0); have a1 : w6.cell? ⟨w.heap.size, 1, none⟩ = some (.slice A n c) := (by simpa using HA6.out.cell 1); have al : w.heap.size < w6.heap.size := HA6.out.lt
    have HX6 := Lib.hid (HX5.out.below hb6); (try clear x0 x1 xl); have x0 : w6.cell? ⟨w4.heap.size, 0, none⟩ = some (.int .i64 W) := (by simpa using HX6.out.cell 0); have x1 : w6.cell? ⟨w4.heap.size, 1, none⟩ = some (.slice X n cx) := (by simpa using HX6.out.cell 1); have xl : w4.heap.size < w6.heap.size := HX6.out.lt
    have b06 : Below w.heap.size w w6 := (by (repeat (first | with_reducible exact Below.refl _ _ | with_reducible assumption | with_reducible apply bel_alloc | with_reducible apply bel_drew | with_reducible apply bel_drewN | ((with_reducible refine bel_set ?_ ?_); rotate_left; (simp <;> omega)) | (with_reducible refine bel_trans ?_ (by with_reducible assumption)))))
    have b46 : Below w4.heap.size w4 w6 := bel_trans hb5 hb6
    have b56 : Below w5.heap.size w5 w6 := hb6
    go_wp2_with fail; (refine wp_region_tailN (C := ExC w6) 2 (by kernel_rfl) (by kernel_rfl) (ExC.drawn _) (fun _ _ h k => ExC.ext h k) ?_; simp only [List.take_succ_cons, List.take_zero, List.drop_succ_cons, List.drop_zero]; (repeat (first | (refine headSkip (by rfl) rfl ?_; simp only [List.setIfInBounds_toArray, List.set_cons_zero, List.set_cons_succ]) | (refine headV (v := ?_) (by rfl) rfl (fun w' hcw => ?_) ?_; rotate_left; ((try dsimp only at hcw); have hbc := hcw.cells; go_simp; first | done | with_reducible rfl | fail); simp only [List.setIfInBounds_toArray, List.set_cons_zero, List.set_cons_succ]))); unfold wpHead); refine tailK (by rfl) (fun u7 hc7 he7 K hK => ?_); go_simp; refine (toRegion_l W A n c rows _ (hr.below (bel_trans b06 hc7)) HL.out hn).mono ?_; rintro e u8 ⟨Z, q3, cz, rfl, oz, hz8⟩; obtain rfl : n = q3 := (HL.out).symm.trans (own_nI oz); have hu8 := bel_trans hc7 hz8; have HOZ := Lib.hid oz; clear oz; refine hK _ _ hu8 ?_; clear hK K; refine tailK (by rfl) (fun u9 hc9 he9 K hK => ?_); go_simp; refine (eqRegion_t W X Z n cx n cz rows _ ((Rd.of_own (own_keep HOX.out b46)).below ((by (repeat (first | with_reducible exact Below.refl _ _ | with_reducible assumption | with_reducible apply bel_alloc | with_reducible apply bel_drew | with_reducible apply bel_drewN | ((with_reducible refine bel_set ?_ ?_); rotate_left; (simp <;> omega)) | (with_reducible refine bel_trans ?_ (by with_reducible assumption))))))) ((Rd.of_own HOZ.out).below he9) HL.out HL.out hn).mono ?_; rintro e u10 ⟨rfl, hz10⟩; have hu10 := bel_trans hc9 hz10; refine hK _ _ hu10 ?_; clear hK K; (refine tailK (by rfl) (fun u11 hc11 he11 K hK => ?_); go_simp; refine hK _ _ (hc11) ?_; clear hK K); (refine fun w7 hu heu => NoPanic.normal ?_)
    clear hc7 he7 hz8 hu8 HOZ hc9 he9 hz10 hu10 hc11 he11 heu
    have hb7 : Below w6.heap.size w6 w7 := hu
    clear hu
    have HA7 := Lib.hid (HA6.out.below hb7); (try clear a0 a1 al); have a0 : w7.cell? ⟨w.heap.size, 0, none⟩ = some (.int .i64 W) := (by simpa using HA7.out.cell 0); have a1 : w7.cell? ⟨w.heap.size, 1, none⟩ = some (.slice A n c) := (by simpa using HA7.out.cell 1); have al : w.heap.size < w7.heap.size := HA7.out.lt
    have HX7 := Lib.hid (HX6.out.below hb7); (try clear x0 x1 xl); have x0 : w7.cell? ⟨w4.heap.size, 0, none⟩ = some (.int .i64 W) := (by simpa using HX7.out.cell 0); have x1 : w7.cell? ⟨w4.heap.size, 1, none⟩ = some (.slice X n cx) := (by simpa using HX7.out.cell 1); have xl : w4.heap.size < w7.heap.size := HX7.out.lt
    have b47 : Below w4.heap.size w4 w7 := bel_trans b46 hb7
    have b57 : Below w5.heap.size w5 w7 := bel_trans b56 hb7
    have b07 : Below w.heap.size w w7 := bel_trans b06 hb7
    have HOX7 := Lib.hid (own_keep HOX.out b47)
    have HOG7 := Lib.hid (own_keep HOG.out b57)
    have HOV7 := Lib.hid (own_keep HOV.out (bel_trans b35 b57))
    have sz1 := hb1.size
    have sz2 := hb2.size
    have sz3 := hb3.size
    have sz4 := hb4.size
    have sz5 := hb5.size
    simp only [World.size_alloc] at sz1
    have glt2 : ∀ g, ob G = some g → w4.heap.size + 1 ≤ g := fun g e => by have := (glt g e).1; simpa using this
    go_wp2_with fail
    refine (markRegion_l W X n cx w3.heap.size 1 rows _ HOX7.out hn (by omega) (by omega)).mono ?_
    rintro e w8 ⟨rfl, ox8, g8⟩
    clear ox8
    have HG8 := Lib.hid g8
    clear g8
    have nX : ∀ (S : Option Addr), (∀ g, ob S = some g → g < w3.heap.size ∨ w4.heap.size ≤ g) → ∀ g, ob S = some g → ob X ≠ some g := fun S h g e r => by have := h g e; have := xlt g r; omega
    have HOG8 := Lib.hid (own_kept2 HOG7.out HG8.out (nX G fun g e => .inr (by have := glt2 g e; omega)))
    have HOV8 := Lib.hid (own_kept2 HOV7.out HG8.out (nX V fun g e => .inl (vlt g e).2))
    have b08 : Below w.heap.size w w8 := bel_app b07 HG8.out (fun g h => by have := (xlt g h).1; omega)
    have HA8 := Lib.hid (HA7.out.grown HG8.out (fun e => by have := (xlt _ e.symm).1; omega)); (try clear a0 a1 al); have a0 : w8.cell? ⟨w.heap.size, 0, none⟩ = some (.int .i64 W) := (by simpa using HA8.out.cell 0); have a1 : w8.cell? ⟨w.heap.size, 1, none⟩ = some (.slice A n c) := (by simpa using HA8.out.cell 1); have al : w.heap.size < w8.heap.size := HA8.out.lt
    have HX8 := Lib.hid (HX7.out.grown HG8.out (fun e => by have := (xlt _ e.symm).2; omega)); (try clear x0 x1 xl); have x0 : w8.cell? ⟨w4.heap.size, 0, none⟩ = some (.int .i64 W) := (by simpa using HX8.out.cell 0); have x1 : w8.cell? ⟨w4.heap.size, 1, none⟩ = some (.slice X n cx) := (by simpa using HX8.out.cell 1); have xl : w4.heap.size < w8.heap.size := HX8.out.lt
    go_wp2_with fail
    refine (eqIntS_t _ _ _ _ _ _ vs _ (Rd.of_own HOG8.out) (Rd.of_own HOV8.out) HMG.out HMV.out (by omega)).mono ?_
    rintro e w9 ⟨rfl, hb9⟩
    have HA9 := Lib.hid (HA8.out.below hb9); (try clear a0 a1 al); have a0 : w9.cell? ⟨w.heap.size, 0, none⟩ = some (.int .i64 W) := (by simpa using HA9.out.cell 0); have a1 : w9.cell? ⟨w.heap.size, 1, none⟩ = some (.slice A n c) := (by simpa using HA9.out.cell 1); have al : w.heap.size < w9.heap.size := HA9.out.lt
    have b09 : Below w.heap.size w w9 := bel_trans b08 hb9
    go_wp2_with fail
    refine (markIntS_l _ _ _ (w4.heap.size + 1) _ vs _ (own_base (own_keep HOG8.out hb9) (by simp)) (by omega) (by omega) (by omega)).mono ?_
    rintro e w10 ⟨rfl, og10, g10⟩
    have HOG10 := Lib.hid og10
    have HG10 := Lib.hid g10
    clear og10 g10
    have HOV10 := Lib.hid (own_kept2 (own_keep HOV8.out hb9) HG10.out (fun g e r => by have := (vlt g e).2; have := glt2 g r; omega))
    have b010 : Below w.heap.size w w10 := bel_app b09 HG10.out (fun g h => by have := glt2 g h; omega)
    have HA10 := Lib.hid (HA9.out.grown HG10.out (fun e => by have := glt2 _ e.symm; omega)); (try clear a0 a1 al); have a0 : w10.cell? ⟨w.heap.size, 0, none⟩ = some (.int .i64 W) := (by simpa using HA10.out.cell 0); have a1 : w10.cell? ⟨w.heap.size, 1, none⟩ = some (.slice A n c) := (by simpa using HA10.out.cell 1); have al : w.heap.size < w10.heap.size := HA10.out.lt
    go_wp2_with fail
    refine (heldIntS_l _ _ _ _ _ (Rd.of_own HOG10.out) (by omega) (by omega) (by omega)).mono ?_
    rintro e w11 ⟨rfl, hb11⟩
    have HA11 := Lib.hid (HA10.out.below hb11); (try clear a0 a1 al); have a0 : w11.cell? ⟨w.heap.size, 0, none⟩ = some (.int .i64 W) := (by simpa using HA11.out.cell 0); have a1 : w11.cell? ⟨w.heap.size, 1, none⟩ = some (.slice A n c) := (by simpa using HA11.out.cell 1); have al : w.heap.size < w11.heap.size := HA11.out.lt
    go_wp2_with fail
    refine (toRegion_l W A n c rows _ (hr.below (bel_trans b010 hb11)) HL.out hn).mono ?_
    rintro e w12 ⟨U, q4, cu, rfl, ou, hb12⟩
    obtain rfl : n = q4 := HL.out.symm.trans (own_nI ou)
    have HA12 := Lib.hid (HA11.out.below hb12); (try clear a0 a1 al); have a0 : w12.cell? ⟨w.heap.size, 0, none⟩ = some (.int .i64 W) := (by simpa using HA12.out.cell 0); have a1 : w12.cell? ⟨w.heap.size, 1, none⟩ = some (.slice A n c) := (by simpa using HA12.out.cell 1); have al : w.heap.size < w12.heap.size := HA12.out.lt
    go_wp2_with fail
    refine (RegionMotions_i W U n cu rows _ (Rd.of_own ou) HL.out).mono ?_
    rw [HV.out]
    rintro e w13 ⟨K, mk, ck, rfl, okk, hb13⟩
    have hmk := own_nI okk
    have HMK := Lib.hid hmk
    have HOK := Lib.hid okk
    have hmk8 : mk ≤ 8 := by omega
    clear okk hmk
    have HA13 := Lib.hid (HA12.out.below hb13); (try clear a0 a1 al); have a0 : w13.cell? ⟨w.heap.size, 0, none⟩ = some (.int .i64 W) := (by simpa using HA13.out.cell 0); have a1 : w13.cell? ⟨w.heap.size, 1, none⟩ = some (.slice A n c) := (by simpa using HA13.out.cell 1); have al : w.heap.size < w13.heap.size := HA13.out.lt
    have b1013 : Below w10.heap.size w10 w13 := bel_trans (bel_trans hb11 hb12) hb13
    go_wp2_with fail
    refine (eqIntS_t _ _ _ _ _ _ vs _ (Rd.of_own HOK.out) ((Rd.of_own HOV10.out).below b1013) HMK.out HMV.out (by omega)).mono ?_
    rintro e w14 ⟨rfl, hb14⟩
    have HA14 := Lib.hid (HA13.out.below hb14); (try clear a0 a1 al); have a0 : w14.cell? ⟨w.heap.size, 0, none⟩ = some (.int .i64 W) := (by simpa using HA14.out.cell 0); have a1 : w14.cell? ⟨w.heap.size, 1, none⟩ = some (.slice A n c) := (by simpa using HA14.out.cell 1); have al : w.heap.size < w14.heap.size := HA14.out.lt
    go_wp2_with fail
    refine (heldIntS_l _ _ _ _ _ ((Rd.of_own HOG10.out).below (bel_trans b1013 hb14)) (by omega) (by omega) (by omega)).mono ?_
    rintro e w15 ⟨rfl, hb15⟩
    go_wp2_with fail
    go_ret
    exact ⟨rfl, bel_trans (bel_trans (bel_trans b010 b1013) hb14) hb15⟩
end Go.Proofs.Ytcgohceakjjlhaa
