/- The law on a mask turned. -/
import Derived.Test.YtcgohceakjjlhaaTMask
import Derived.Test.YtcgohceakjjlhaaLawR
import Derived.Test.YtcgohceakjjlhaaLawI
import Derived.Outline
import Derived.WalkLawsBesides
import Derived.WalkSpells
import Derived.BigQuiet
import Derived.Deep.QuietTactic
import Derived.Deep.RegionHeld3
import Derived.Deep.RegionWith
import Derived.Deep.DeepCutAuto
import Derived.Deep.CutBlock
import Derived.Deep.DrawnRows
namespace Go.Proofs.Ytcgohceakjjlhaa
open Go.RowKit
set_option linter.unusedVariables false
attribute [local go_sem ↓] Go.wp_at_zero Go.wp_at_succ
set_option maxHeartbeats 1600000 in
theorem law_FnExactTurnMask (W : Int) (A : Option Addr) (n c : Nat) (rows : List Int) (x m : Int) (w : World) (hr : Rd w A (vI rows)) (hl : rows.length = n) (hm : n ≤ maxLen) (hx : (Lit.int .i64 x).wf = true) (_hm : (Lit.int .i64 m).wf = true) :
    Calls Try.prog 4 #[.agg #[.int .i64 W, .slice A n c], .int .i64 x, .int .i64 m] w (Ret w (.bool true)) := by
  have hx63 : x < 9223372036854775808 := by simp [Lit.wf, IntKind.min, IntKind.max, IntKind.bits, IntKind.signed] at hx; omega
  by_cases hbig : (1048576 : Int) < (n : Int)
  · have HS : Hid (szR 1048576 n = -1) := if_pos hbig
    clear hbig
    go_enter Try.func4, Try.ntmps4
    go_wp2_with fail
    refine (szRegion_l W A n c 1048576 _ hm (by omega) (by omega)).mono ?_
    rw [HS.out]
    rintro e w1 ⟨rfl, hb1⟩
    go_wp2_with fail
    go_ret
    exact ⟨rfl, (by (repeat (first | with_reducible exact Below.refl _ _ | with_reducible assumption | with_reducible apply bel_alloc | with_reducible apply bel_drew | with_reducible apply bel_drewN | ((with_reducible refine bel_set ?_ ?_); rotate_left; (simp <;> omega)) | (with_reducible refine bel_trans ?_ (by with_reducible assumption)))))⟩
  · have hn : n ≤ 1048576 := by omega
    have HS : Hid (szR 1048576 n = 1048576 - n) := if_neg hbig
    have hsz : ¬ (1048576 - (n : Int)) < 0 := by omega
    have HL := Lib.hid hl
    have HA0 := Lib.hid (Blk.new w 24 #[.int .i64 W, .slice A n c])
    obtain ⟨v, hv⟩ : ∃ v, tmV W rows x m = v := ⟨_, rfl⟩
    obtain ⟨b, hb⟩ : ∃ b, tmOk W rows x m = b := ⟨_, rfl⟩
    have HV : Hid (Value.tuple #[.int .i64 (tmV W rows x m), .bool (tmOk W rows x m)] = .tuple #[.int .i64 v, .bool b]) := by show _ = _; rw [hv, hb]
    clear hx hv hb
    clear hl hbig
    go_enter Try.func4, Try.ntmps4
    go_wp2_with fail
    refine (szRegion_l W A n c 1048576 _ hm (by omega) (by omega)).mono ?_
    rw [HS.out]
    rintro e w1 ⟨rfl, hb1⟩
    have HA1 := Lib.hid (HA0.out.below hb1); (try clear a0 a1 al); have a0 : w1.cell? ⟨w.heap.size, 0, none⟩ = some (.int .i64 W) := (by simpa using HA1.out.cell 0); have a1 : w1.cell? ⟨w.heap.size, 1, none⟩ = some (.slice A n c) := (by simpa using HA1.out.cell 1); have al : w.heap.size < w1.heap.size := HA1.out.lt
    go_wp2_with fail
    refine (toRegion_l W A n c rows _ (hr.below (by (repeat (first | with_reducible exact Below.refl _ _ | with_reducible assumption | with_reducible apply bel_alloc | with_reducible apply bel_drew | with_reducible apply bel_drewN | ((with_reducible refine bel_set ?_ ?_); rotate_left; (simp <;> omega)) | (with_reducible refine bel_trans ?_ (by with_reducible assumption)))))) HL.out hn).mono ?_
    rintro e w2 ⟨Y, q, cy, rfl, ho2, hb2⟩
    obtain rfl : n = q := HL.out.symm.trans (own_nI ho2)
    have HA2 := Lib.hid (HA1.out.below hb2); (try clear a0 a1 al); have a0 : w2.cell? ⟨w.heap.size, 0, none⟩ = some (.int .i64 W) := (by simpa using HA2.out.cell 0); have a1 : w2.cell? ⟨w.heap.size, 1, none⟩ = some (.slice A n c) := (by simpa using HA2.out.cell 1); have al : w.heap.size < w2.heap.size := HA2.out.lt
    go_wp2_with fail
    refine (TurnMask_s W Y n cy rows x m _ (Rd.of_own ho2) HL.out hx63).mono ?_
    rw [HV.out]
    rintro e w3 ⟨rfl, hb3⟩
    have HA3 := Lib.hid (HA2.out.below hb3); (try clear a0 a1 al); have a0 : w3.cell? ⟨w.heap.size, 0, none⟩ = some (.int .i64 W) := (by simpa using HA3.out.cell 0); have a1 : w3.cell? ⟨w.heap.size, 1, none⟩ = some (.slice A n c) := (by simpa using HA3.out.cell 1); have al : w.heap.size < w3.heap.size := HA3.out.lt
    go_wp2_with fail
    refine (toRegion_l W A n c rows _ (hr.below (by (repeat (first | with_reducible exact Below.refl _ _ | with_reducible assumption | with_reducible apply bel_alloc | with_reducible apply bel_drew | with_reducible apply bel_drewN | ((with_reducible refine bel_set ?_ ?_); rotate_left; (simp <;> omega)) | (with_reducible refine bel_trans ?_ (by with_reducible assumption)))))) HL.out hn).mono ?_
    rintro e w4 ⟨X, q2, cx, rfl, ox, hb4⟩
    obtain rfl : n = q2 := HL.out.symm.trans (own_nI ox)
    have HOX := Lib.hid ox
    have xlt := own_lt ox
    clear ox
    have HA4 := Lib.hid (HA3.out.below hb4); (try clear a0 a1 al); have a0 : w4.cell? ⟨w.heap.size, 0, none⟩ = some (.int .i64 W) := (by simpa using HA4.out.cell 0); have a1 : w4.cell? ⟨w.heap.size, 1, none⟩ = some (.slice A n c) := (by simpa using HA4.out.cell 1); have al : w.heap.size < w4.heap.size := HA4.out.lt
    have HX4 := Lib.hid (Blk.new w4 27 #[.int .i64 W, .slice X n cx])
    go_wp2_with fail
    refine (TurnMask_i W X n cx rows x m _ ((Rd.of_own HOX.out).below (by (repeat (first | with_reducible exact Below.refl _ _ | with_reducible assumption | with_reducible apply bel_alloc | with_reducible apply bel_drew | with_reducible apply bel_drewN | ((with_reducible refine bel_set ?_ ?_); rotate_left; (simp <;> omega)) | (with_reducible refine bel_trans ?_ (by with_reducible assumption)))))) HL.out hx63).mono ?_
    rw [HV.out]
    rintro e w6 ⟨rfl, hb6i⟩
    have hb6 : Below w4.heap.size w4 w6 := (by (repeat (first | with_reducible exact Below.refl _ _ | with_reducible assumption | with_reducible apply bel_alloc | with_reducible apply bel_drew | with_reducible apply bel_drewN | ((with_reducible refine bel_set ?_ ?_); rotate_left; (simp <;> omega)) | (with_reducible refine bel_trans ?_ (by with_reducible assumption)))))
    have HA6 := Lib.hid (HA4.out.below hb6); (try clear a0 a1 al); have a0 : w6.cell? ⟨w.heap.size, 0, none⟩ = some (.int .i64 W) := (by simpa using HA6.out.cell 0); have a1 : w6.cell? ⟨w.heap.size, 1, none⟩ = some (.slice A n c) := (by simpa using HA6.out.cell 1); have al : w.heap.size < w6.heap.size := HA6.out.lt
    have HX6 := Lib.hid (HX4.out.below hb6i); (try clear x0 x1 xl); have x0 : w6.cell? ⟨w4.heap.size, 0, none⟩ = some (.int .i64 W) := (by simpa using HX6.out.cell 0); have x1 : w6.cell? ⟨w4.heap.size, 1, none⟩ = some (.slice X n cx) := (by simpa using HX6.out.cell 1); have xl : w4.heap.size < w6.heap.size := HX6.out.lt
    have b06 : Below w.heap.size w w6 := (by (repeat (first | with_reducible exact Below.refl _ _ | with_reducible assumption | with_reducible apply bel_alloc | with_reducible apply bel_drew | with_reducible apply bel_drewN | ((with_reducible refine bel_set ?_ ?_); rotate_left; (simp <;> omega)) | (with_reducible refine bel_trans ?_ (by with_reducible assumption)))))
    go_wp2_with fail
    go_wp2_with fail; (refine wp_region_tailN (C := ExC w6) 2 (by kernel_rfl) (by kernel_rfl) (ExC.drawn _) (fun _ _ h k => ExC.ext h k) ?_; simp only [List.take_succ_cons, List.take_zero, List.drop_succ_cons, List.drop_zero]; (repeat (first | (refine headSkip (by rfl) rfl ?_; simp only [List.setIfInBounds_toArray, List.set_cons_zero, List.set_cons_succ]) | (refine headV (v := ?_) (by rfl) rfl (fun w' hcw => ?_) ?_; rotate_left; ((try dsimp only at hcw); have hbc := hcw.cells; go_simp; first | done | with_reducible rfl | fail); simp only [List.setIfInBounds_toArray, List.set_cons_zero, List.set_cons_succ]))); unfold wpHead); refine tailK (by rfl) (fun u7 hc7 he7 K hK => ?_); go_simp; refine (toRegion_l W A n c rows _ (hr.below (bel_trans b06 hc7)) HL.out hn).mono ?_; rintro e u8 ⟨Z, q3, cz, rfl, oz, hz8⟩; obtain rfl : n = q3 := (HL.out).symm.trans (own_nI oz); have hu8 := bel_trans hc7 hz8; have HOZ := Lib.hid oz; clear oz; refine hK _ _ hu8 ?_; clear hK K; refine tailK (by rfl) (fun u9 hc9 he9 K hK => ?_); go_simp; refine (eqRegion_t W X Z n cx n cz rows _ ((Rd.of_own (own_keep HOX.out hb6)).below ((by (repeat (first | with_reducible exact Below.refl _ _ | with_reducible assumption | with_reducible apply bel_alloc | with_reducible apply bel_drew | with_reducible apply bel_drewN | ((with_reducible refine bel_set ?_ ?_); rotate_left; (simp <;> omega)) | (with_reducible refine bel_trans ?_ (by with_reducible assumption))))))) ((Rd.of_own HOZ.out).below he9) HL.out HL.out hn).mono ?_; rintro e u10 ⟨rfl, hz10⟩; have hu10 := bel_trans hc9 hz10; refine hK _ _ hu10 ?_; clear hK K; (refine tailK (by rfl) (fun u11 hc11 he11 K hK => ?_); go_simp; refine hK _ _ (hc11) ?_; clear hK K); (refine fun w7 hu heu => NoPanic.normal ?_)
    clear hc7 he7 hz8 hu8 HOZ hc9 he9 hz10 hu10 hc11 he11 heu
    have hb7 : Below w6.heap.size w6 w7 := hu
    clear hu
    go_wp2_with fail
    go_ret
    exact ⟨rfl, bel_trans b06 hb7⟩
end Go.Proofs.Ytcgohceakjjlhaa
