/- Texts of this claim, one behind the other: part 8. -/
import Derived.Test.YtoedmmhiinhljaaGreatDoorU7CountOrbits
import Derived.Outline
import Derived.WalkLawsBesides
import Derived.WalkSpells
import Derived.BigQuiet
import Derived.Deep.QuietTactic
import Derived.Deep.RegionHeld3
import Derived.Deep.RegionWith
import Derived.Deep.DeepCutAuto
import Derived.Deep.CutBlock
import Derived.Deep.DrawnRows
import Derived.Test.YtoedmmhiinhljaaGreatDoorRows
import Derived.Lib.LaidTab
import Derived.LaidMore
import Derived.Stop.LaidErr
import Derived.MakeChecks
import Derived.Lib.SmallJoins
/- The law on FnExactCountOrbits. -/
namespace Go.Proofs.YtoedmmhiinhljaaGreatDoor
open Go.RowKit
set_option linter.unusedVariables false
attribute [local go_sem ↓] Go.wp_at_zero Go.wp_at_succ
set_option maxRecDepth 100000 in
set_option maxHeartbeats 3200000 in
theorem law_FnExactCountOrbits (W : Int) (A : Option Addr) (n c : Nat) (rows : List Int) (B : Option Addr) (q cb : Nat) (P : List (List C)) (w : World) (hr : Rd w A (vI rows)) (hl : rows.length = n) (hm : n ≤ maxLen) (hrP : ∃ hs, RdP w B q hs P ∧ ∀ x ∈ hs, x.2.1 ≤ maxLen) (hlP : P.length = q) (hmP : q ≤ maxLen) (hTb : Tb w) :
    Calls Tryz.prog 4 #[.agg #[.int .i64 W, .slice A n c], .slice B q cb] w (Ret w (.bool true)) := by
  obtain ⟨hs, hP, hxl⟩ := hrP
  have HTB := Lib.hid hTb
  clear hTb
  have HL := Lib.hid hl
  have HX := Lib.hid hxl
  have HP := Lib.hid hP
  have HMP := Lib.hid hmP
  have HA0 := Lib.hid (Blk.new w 24 #[.int .i64 W, .slice A n c])
  obtain ⟨v, hv⟩ : ∃ v, orbV W rows P = v := ⟨_, rfl⟩
  have HV := Lib.hid hv
  have hne1 : (v != v) = false := by simp
  clear hv
  clear hl hxl hP hlP hmP
  by_cases hbig : (1048576 : Int) < (n : Int)
  · have HS : Hid (szR 1048576 n = -1) := if_pos hbig
    clear hbig
    go_enter Tryz.func4, Tryz.ntmps4
    go_wp2_with fail
    refine (szRegion_l W A n c 1048576 _ hm (by omega) (by omega)).mono ?_
    rw [HS.out]
    rintro e w1 ⟨rfl, hb1⟩
    go_wp2_with fail
    go_ret
    exact ⟨rfl, (by (repeat (first | with_reducible exact Below.refl _ _ | with_reducible assumption | with_reducible apply bel_alloc | with_reducible apply bel_drew | with_reducible apply bel_drewN | ((with_reducible refine bel_set ?_ ?_); rotate_left; (simp <;> omega)) | (with_reducible refine bel_trans ?_ (by with_reducible assumption)))))⟩
  · have hn : n ≤ 1048576 := by omega
    have HS : Hid (szR 1048576 n = 1048576 - n) := if_neg hbig
    have hsz : ¬ (1048576 - (n : Int)) < 0 := by omega
    clear hbig
    obtain ⟨z, hz⟩ : ∃ z, szP (1048576 - (n : Int)) q P = z := ⟨_, rfl⟩
    have HZ := Lib.hid hz
    by_cases hz0 : z < 0
    · clear hz
      go_enter Tryz.func4, Tryz.ntmps4
      go_wp2_with fail
      refine (szRegion_l W A n c 1048576 _ hm (by omega) (by omega)).mono ?_
      rw [HS.out]
      rintro e w1 ⟨rfl, hb1⟩
      go_wp2_with fail
      refine (szCellSS_l B q cb (1048576 - (n : Int)) hs P _ (HP.out.below (by (repeat (first | with_reducible exact Below.refl _ _ | with_reducible assumption | with_reducible apply bel_alloc | with_reducible apply bel_drew | with_reducible apply bel_drewN | ((with_reducible refine bel_set ?_ ?_); rotate_left; (simp <;> omega)) | (with_reducible refine bel_trans ?_ (by with_reducible assumption)))))) HX.out HMP.out (by omega) (by omega)).mono ?_
      rw [HZ.out]
      rintro e w2 ⟨rfl, hb2⟩
      go_wp2_with fail
      go_ret
      exact ⟨rfl, (by (repeat (first | with_reducible exact Below.refl _ _ | with_reducible assumption | with_reducible apply bel_alloc | with_reducible apply bel_drew | with_reducible apply bel_drewN | ((with_reducible refine bel_set ?_ ?_); rotate_left; (simp <;> omega)) | (with_reducible refine bel_trans ?_ (by with_reducible assumption)))))⟩
    · have hqt : q ≤ 1048576 ∧ totC P ≤ 1048576 := by
        unfold szP at hz
        split at hz
        · omega
        · have := szRows_ok _ P (by rw [hz]; omega : 0 ≤ szRows (1048576 - (n : Int) - (q : Int)) P)
          omega
      obtain ⟨hq, ht⟩ := hqt
      have HT := Lib.hid ht
      clear hz ht
      go_enter Tryz.func4, Tryz.ntmps4
      go_wp2_with fail
      refine (szRegion_l W A n c 1048576 _ hm (by omega) (by omega)).mono ?_
      rw [HS.out]
      rintro e w1 ⟨rfl, hb1⟩
      have HA1 := Lib.hid (HA0.out.below hb1); (try clear a0 a1 al); have a0 : w1.cell? ⟨w.heap.size, 0, none⟩ = some (.int .i64 W) := (by simpa using HA1.out.cell 0); have a1 : w1.cell? ⟨w.heap.size, 1, none⟩ = some (.slice A n c) := (by simpa using HA1.out.cell 1); have al : w.heap.size < w1.heap.size := HA1.out.lt
      have g1 : Below w.heap.size w w1 := (by (repeat (first | with_reducible exact Below.refl _ _ | with_reducible assumption | with_reducible apply bel_alloc | with_reducible apply bel_drew | with_reducible apply bel_drewN | ((with_reducible refine bel_set ?_ ?_); rotate_left; (simp <;> omega)) | (with_reducible refine bel_trans ?_ (by with_reducible assumption)))))
      go_wp2_with fail
      refine (szCellSS_l B q cb (1048576 - (n : Int)) hs P _ (HP.out.below g1) HX.out HMP.out (by omega) (by omega)).mono ?_
      rw [HZ.out]
      rintro e w2 ⟨rfl, hb2⟩
      have HA2 := Lib.hid (HA1.out.below hb2); (try clear a0 a1 al); have a0 : w2.cell? ⟨w.heap.size, 0, none⟩ = some (.int .i64 W) := (by simpa using HA2.out.cell 0); have a1 : w2.cell? ⟨w.heap.size, 1, none⟩ = some (.slice A n c) := (by simpa using HA2.out.cell 1); have al : w.heap.size < w2.heap.size := HA2.out.lt
      have g2 := bel_trans g1 hb2
      go_wp2_with fail
      refine (toRegion_l W A n c rows _ (hr.below g2) HL.out hn).mono ?_
      rintro e w3 ⟨Y, ny, cy, rfl, oY, hb3⟩
      obtain rfl : n = ny := HL.out.symm.trans (own_nI oY)
      have HY := Lib.hid (Rd.of_own oY)
      clear oY
      have HA3 := Lib.hid (HA2.out.below hb3); (try clear a0 a1 al); have a0 : w3.cell? ⟨w.heap.size, 0, none⟩ = some (.int .i64 W) := (by simpa using HA3.out.cell 0); have a1 : w3.cell? ⟨w.heap.size, 1, none⟩ = some (.slice A n c) := (by simpa using HA3.out.cell 1); have al : w.heap.size < w3.heap.size := HA3.out.lt
      have g3 := bel_trans g2 hb3
      go_wp2_with fail
      refine (toCellSS_l B q cb hs P _ (HP.out.below g3) hq HT.out).mono ?_
      rintro e w4 ⟨YP, cyp, hsY, rfl, oYP, hb4⟩
      have HYP := Lib.hid oYP
      clear oYP
      have HA4 := Lib.hid (HA3.out.below hb4); (try clear a0 a1 al); have a0 : w4.cell? ⟨w.heap.size, 0, none⟩ = some (.int .i64 W) := (by simpa using HA4.out.cell 0); have a1 : w4.cell? ⟨w.heap.size, 1, none⟩ = some (.slice A n c) := (by simpa using HA4.out.cell 1); have al : w.heap.size < w4.heap.size := HA4.out.lt
      have g4 := bel_trans g3 hb4
      go_wp2_with fail
      refine (CountOrbits_s W Y YP n cy q cyp rows hsY P _ (HY.out.below hb4) HL.out HYP.out hq HT.out).mono ?_
      rw [HV.out]
      rintro e w6 ⟨rfl, hb6⟩
      have HA6 := Lib.hid (HA4.out.below hb6); (try clear a0 a1 al); have a0 : w6.cell? ⟨w.heap.size, 0, none⟩ = some (.int .i64 W) := (by simpa using HA6.out.cell 0); have a1 : w6.cell? ⟨w.heap.size, 1, none⟩ = some (.slice A n c) := (by simpa using HA6.out.cell 1); have al : w.heap.size < w6.heap.size := HA6.out.lt
      have g6 := bel_trans g4 hb6
      go_wp2_with fail
      refine (toRegion_l W A n c rows _ (hr.below g6) HL.out hn).mono ?_
      rintro e w7 ⟨X, nx, cx, rfl, ox, hb7⟩
      obtain rfl : n = nx := HL.out.symm.trans (own_nI ox)
      have HOX := Lib.hid ox
      clear ox
      have HA7 := Lib.hid (HA6.out.below hb7); (try clear a0 a1 al); have a0 : w7.cell? ⟨w.heap.size, 0, none⟩ = some (.int .i64 W) := (by simpa using HA7.out.cell 0); have a1 : w7.cell? ⟨w.heap.size, 1, none⟩ = some (.slice A n c) := (by simpa using HA7.out.cell 1); have al : w.heap.size < w7.heap.size := HA7.out.lt
      have g7 := bel_trans g6 hb7
      have HX7 := Lib.hid (Blk.new w7 29 #[.int .i64 W, .slice X n cx])
      have b78 : Below w7.heap.size w7 (w7.alloc (.cells #[.int .i64 W, .slice X n cx] 29)) := bel_alloc (Below.refl _ _) _
      go_wp2_with fail
      refine (toCellSS_l B q cb hs P _ ((HP.out.below g7).below b78) hq HT.out).mono ?_
      rintro e w8 ⟨XP, cxp, hsX, rfl, oXP, hb8⟩
      have HXP := Lib.hid oXP
      clear oXP
      have b8 := bel_trans b78 hb8
      have HA8 := Lib.hid (HA7.out.below b8); (try clear a0 a1 al); have a0 : w8.cell? ⟨w.heap.size, 0, none⟩ = some (.int .i64 W) := (by simpa using HA8.out.cell 0); have a1 : w8.cell? ⟨w.heap.size, 1, none⟩ = some (.slice A n c) := (by simpa using HA8.out.cell 1); have al : w.heap.size < w8.heap.size := HA8.out.lt
      have HX8 := Lib.hid (HX7.out.below hb8); (try clear x0 x1 xl); have x0 : w8.cell? ⟨w7.heap.size, 0, none⟩ = some (.int .i64 W) := (by simpa using HX8.out.cell 0); have x1 : w8.cell? ⟨w7.heap.size, 1, none⟩ = some (.slice X n cx) := (by simpa using HX8.out.cell 1); have xl : w7.heap.size < w8.heap.size := HX8.out.lt
      have g8 := bel_trans g7 b8
      go_wp2_with fail
      refine (CountOrbits_i W X XP n cx q cxp rows hsX P _ ((Rd.of_own HOX.out).below b8) HL.out HXP.out hq HT.out (HTB.out.below g8)).mono ?_
      rw [HV.out]
      rintro e w10 ⟨rfl, hb10⟩
      have HA10 := Lib.hid (HA8.out.below hb10); (try clear a0 a1 al); have a0 : w10.cell? ⟨w.heap.size, 0, none⟩ = some (.int .i64 W) := (by simpa using HA10.out.cell 0); have a1 : w10.cell? ⟨w.heap.size, 1, none⟩ = some (.slice A n c) := (by simpa using HA10.out.cell 1); have al : w.heap.size < w10.heap.size := HA10.out.lt
      have HX10 := Lib.hid (HX8.out.below hb10); (try clear x0 x1 xl); have x0 : w10.cell? ⟨w7.heap.size, 0, none⟩ = some (.int .i64 W) := (by simpa using HX10.out.cell 0); have x1 : w10.cell? ⟨w7.heap.size, 1, none⟩ = some (.slice X n cx) := (by simpa using HX10.out.cell 1); have xl : w7.heap.size < w10.heap.size := HX10.out.lt
      have b06 := bel_trans g8 hb10
      have b710 := bel_trans b8 hb10
      go_wp2_with fail; (refine wp_region_tailN (C := ExC w10) 2 (by kernel_rfl) (by kernel_rfl) (ExC.drawn _) (fun _ _ h k => ExC.ext h k) ?_; simp only [List.take_succ_cons, List.take_zero, List.drop_succ_cons, List.drop_zero]; (repeat (first | (refine headSkip (by rfl) rfl ?_; simp only [List.setIfInBounds_toArray, List.set_cons_zero, List.set_cons_succ]) | (refine headV (v := ?_) (by rfl) rfl (fun w' hcw => ?_) ?_; rotate_left; ((try dsimp only at hcw); have hbc := hcw.cells; go_simp; first | done | with_reducible rfl | fail); simp only [List.setIfInBounds_toArray, List.set_cons_zero, List.set_cons_succ]))); unfold wpHead); refine tailK (by rfl) (fun u7 hc7 he7 K hK => ?_); go_simp; refine (toRegion_l W A n c rows _ (hr.below (bel_trans b06 hc7)) HL.out hn).mono ?_; rintro e u8 ⟨Z, q3, cz, rfl, oz, hz8⟩; obtain rfl : n = q3 := (HL.out).symm.trans (own_nI oz); have hu8 := bel_trans hc7 hz8; have HOZ := Lib.hid oz; clear oz; refine hK _ _ hu8 ?_; clear hK K; refine tailK (by rfl) (fun u9 hc9 he9 K hK => ?_); go_simp; refine (eqRegion_t W X Z n cx n cz rows _ ((Rd.of_own (own_keep HOX.out b710)).below ((by (repeat (first | with_reducible exact Below.refl _ _ | with_reducible assumption | with_reducible apply bel_alloc | with_reducible apply bel_drew | with_reducible apply bel_drewN | ((with_reducible refine bel_set ?_ ?_); rotate_left; (simp <;> omega)) | (with_reducible refine bel_trans ?_ (by with_reducible assumption))))))) ((Rd.of_own HOZ.out).below he9) HL.out HL.out hn).mono ?_; rintro e u10 ⟨rfl, hz10⟩; have hu10 := bel_trans hc9 hz10; refine hK _ _ hu10 ?_; clear hK K; (refine tailK (by rfl) (fun u11 hc11 he11 K hK => ?_); go_simp; refine hK _ _ (hc11) ?_; clear hK K); (refine fun w11 hu heu => NoPanic.normal ?_)
      clear hc7 he7 hz8 hu8 HOZ hc9 he9 hz10 hu10 hc11 he11 heu
      have hb11 : Below w10.heap.size w10 w11 := hu
      clear hu
      have g11 := bel_trans b06 hb11
      go_wp2_with fail
      refine (toCellSS_l B q cb hs P _ (HP.out.below g11) hq HT.out).mono ?_
      rintro e w12 ⟨ZP, czp, hsZ, rfl, oZP, hb12⟩
      have HZP := Lib.hid oZP
      clear oZP
      go_wp2_with fail
      refine (eqCellSS_t XP ZP q cxp q czp hsX hsZ P _ ((((HXP.out).below hb10).below hb11).below hb12) HZP.out (by omega) (by have := HT.out; omega)).mono ?_
      rintro e w13 ⟨rfl, hb13⟩
      have g13 := bel_trans g11 (bel_trans hb12 hb13)
      go_wp2_with fail
      go_ret
      exact ⟨rfl, g13⟩
end Go.Proofs.YtoedmmhiinhljaaGreatDoor

/- The library's table, out of what the row lists. -/
namespace Go.Proofs.YtoedmmhiinhljaaGreatDoor
open Go.RowKit
set_option linter.unusedVariables false
def zs64 : List Int := Lib.deBruijn64tab.map fun (x : Nat) => (x : Int)
theorem tb_of_tab {W : World} (h : laidMet Tryz.prog [("math/bits.deBruijn64tab", Lib.tabData .u8 zs64)] W) : Tb W := by
  have hT := Lib.tabIs_of_head (P := Tryz.prog) (g := 1) (by kernel_rfl) (t := 120) (by kernel_rfl) (n := 64) (e := 5) (by kernel_rfl) (by kernel_rfl) (by kernel_rfl) (by kernel_rfl) h
  intro j hj
  have h2 := hT.cell (g := 1) (by kernel_rfl) j (by simpa [zs64] using hj)
  rw [h2]
  congr 2
  unfold zs64
  rw [List.getD_eq_getElem?_getD, List.getElem?_map, List.getElem?_eq_getElem hj, List.getD_eq_getElem?_getD, List.getElem?_eq_getElem hj]
  rfl
theorem tb_of_laid {W : World} (h : laidMetH Tryz.prog [("math/bits.deBruijn32tab", Rows.laid_math_bits_deBruijn32tab), ("math/bits.deBruijn64tab", Rows.laid_math_bits_deBruijn64tab)] W) : Tb W := by
  rw [MakeChecks.laidMetH_plain _ _ _ (by kernel_rfl)] at h
  exact tb_of_tab h.tail
end Go.Proofs.YtoedmmhiinhljaaGreatDoor

/- An argument that is a region, opened. -/
namespace Go.Proofs.YtoedmmhiinhljaaGreatDoor
open Go.RowKit Go.ChangeShapes Go.WideShapes Go.Deep Go.Joins
set_option linter.unusedVariables false
section
variable {H : Type} {enc : TypeId × Value → H}
set_option maxRecDepth 100000 in
theorem openI_core {W : World} {t : TypeId} (ht : Tryz.prog.underlying t = some (.slice 3)) {base : Nat} {spare : Nat → Bool} {held : Bool} {fuel : Nat} {v : Value} {x : DataW H × List MemPlace} (hf : DataW.trod enc Tryz.prog W base spare held fuel t [v] = some x) :
    ∃ A n c xs, v = .slice A n c ∧ Rd W A (vI xs) ∧ xs.length = n ∧ n ≤ maxLen := by
  rcases open_ints ht Tryz.underlying3 cellsI hf with ⟨hcs, hx⟩ | ⟨a, len', cap', zs, hcs, _, hl, hm, hz, hx, hcell, hwz⟩
  · injection hcs with hcs
    exact ⟨none, 0, 0, [], hcs, .inl rfl, rfl, Nat.zero_le _⟩
  · injection hcs with hcs
    subst hcs
    have hzl : len' ≤ zs.length := by rw [hz]; split <;> omega
    refine ⟨_, _, _, zs.take len', rfl, ?_, by rw [List.length_take]; omega, by omega⟩
    by_cases h0 : 0 < zs.length
    · obtain ⟨b, off, rfl, hc⟩ := ints_at hcell h0
      refine .inr ⟨b, off, rfl, fun j u hu => ?_⟩
      simp only [vI, List.getElem?_map, Option.map_eq_some_iff] at hu
      obtain ⟨x, hx, rfl⟩ := hu
      have hjl : j < len' := by
        rcases Nat.lt_or_ge j len' with h | h
        · exact h
        · rw [List.getElem?_eq_none (by rw [List.length_take]; omega)] at hx; cases hx
      rw [List.getElem?_take_of_lt hjl] at hx
      rw [hc j (by omega), List.getD_eq_getElem?_getD, hx]
      rfl
    · left
      rw [List.eq_nil_of_length_eq_zero (by omega : zs.length = 0)]
      simp [vI]
theorem cellsLR : Tryz.prog.cellsOf 24 = 2 := by kernel_rfl
set_option maxRecDepth 100000 in
theorem openR {W : World} {r : Reach} {b0 : Nat} {base : Nat} {spare : Nat → Bool} {held : Bool} {v : Value} {d : DataW H} {p : List MemPlace} (hv : Value.okWide Tryz.prog W r b0 24 v) (h : DataW.Trod enc Tryz.prog W base spare held 24 v d p) :
    ∃ x A n c xs, v = .agg #[.int .i64 x, .slice A n c] ∧ Rd W A (vI xs) ∧ xs.length = n ∧ n ≤ maxLen := by
  obtain ⟨v0, v1, y0, y1, m, rfl, _, _, h0, h1⟩ := open_agg2 Tryz.underlying24 (by kernel_rfl) cellsLR hv h
  obtain ⟨x, e0, _, _⟩ := DataW.trod_int Tryz.underlying3 h0
  injection e0 with e0
  subst e0
  obtain ⟨A, n, c, xs, rfl, hr, hl, hm⟩ := openI_core Tryz.underlying22 h1
  exact ⟨x, A, n, c, xs, rfl, hr, hl, hm⟩
end
end Go.Proofs.YtoedmmhiinhljaaGreatDoor
