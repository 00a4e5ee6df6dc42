/- Texts of this claim, one behind the other: part 7. -/
import Derived.Test.YtcgjnonlndaoeaaGreatU6FnPuzzles
import Derived.Outline
import Derived.WalkLawsBesides
import Derived.WalkSpells
import Derived.BigQuiet
import Derived.Deep.QuietTactic
import Derived.Deep.RegionHeld3
import Derived.Deep.RegionWith
import Derived.Deep.DeepCutAuto
import Derived.Deep.CutBlock
import Derived.Deep.DrawnRows
import Derived.Laws.EntriesVeiled
/- Are masks a solution of a puzzle? Both sides. -/
namespace Go.Proofs.YtcgjnonlndaoeaaGreat
open Go.RowKit
set_option linter.unusedVariables false
attribute [local go_sem ↓] Go.wp_at_zero Go.wp_at_succ

set_option maxRecDepth 100000 in
set_option maxHeartbeats 6400000 in
theorem IsSolution_i (W : Int) (A B D : Option Addr) (n c q cb k cd : Nat) (rows l : List Int) (hs : List H) (P : List (List C)) (w : World) (hr : Rd w A (vI rows)) (hl : rows.length = n) (hp : RdP w B q hs P) (hq : q ≤ 1048576) (hm : totC P ≤ 1048576) (hrd : Rd w D (vI l)) (hll : l.length = k) (hk : k ≤ 1048576) :
    Calls Tryz.prog 11 #[.agg #[.int .i64 W, .slice A n c], .slice B q cb, .slice D k cd] w (Ret w (.bool (solV W rows P l))) := by
  have HL := Lib.hid hl
  have HLL := Lib.hid hll
  have HR := Lib.hid (hr.alloc (.cells #[.int .i64 W, .slice A n c] 26))
  have HP := Lib.hid (hp.alloc (.cells #[.int .i64 W, .slice A n c] 26))
  have HRD := Lib.hid (hrd.alloc (.cells #[.int .i64 W, .slice A n c] 26))
  have HB0 := Lib.hid (Blk.new w 26 #[.int .i64 W, .slice A n c])
  have HM := Lib.hid hm
  have HPF := Lib.hid hp.flen
  have hbw0 : Below w.heap.size w (w.alloc (.cells #[.int .i64 W, .slice A n c] 26)) := bel_alloc (Below.refl _ _) _
  clear hl hll hr hp hrd hm
  cases hpv : (isReg W rows && pcs P) with
  | false =>
    have HV : Hid (solV W rows P l = false) := by show solV W rows P l = false; unfold solV; rw [hpv]; rfl
    have HPV := Lib.hid hpv
    clear hpv
    go_enter Tryz.func11, Tryz.ntmps11
    go_wp2_with fail
    refine (isProblem_i W A B n c q cb rows hs P _ HR.out HL.out HP.out hq HM.out).mono ?_
    rw [HPV.out]
    rintro e w1 ⟨rfl, hb1⟩
    go_wp2_with fail
    go_ret
    exact ⟨by rw [HV.out]; rfl, bel_trans hbw0 hb1⟩
  | true =>
    have HPV := Lib.hid hpv
    have hvr : isReg W rows = true := by simp only [Bool.and_eq_true] at hpv; exact hpv.1
    have hpc : pcs P = true := by simp only [Bool.and_eq_true] at hpv; exact hpv.2
    have HVR := Lib.hid hvr
    have HPC := Lib.hid hpc
    have HSH := Lib.hid (pcs_at hpc).2
    by_cases hkq : k = q
    · subst hkq
      have hk5 : k ≤ 5 := by have := (pcs_at hpc).1; have := HPF.out; omega
      have hsol : solV W rows P l = optIs (solTo W rows P l k) (maskV W rows) := by unfold solV; rw [hpv, HLL.out, HPF.out, Bool.true_and]; simp
      have HNO : Hid (∀ j u, j < k → solTo W rows P l j = some u → solOk W rows P l j u = false → solV W rows P l = false) := fun j u hj h1 h2 => by rw [hsol, show solTo W rows P l k = none from optTo_no h1 h2 hj]; rfl
      have HYES : Hid (∀ u, solTo W rows P l k = some u → solV W rows P l = (u == maskV W rows)) := fun u h => by rw [hsol, h]; rfl
      have hkk : ((k : Int) != (k : Int)) = false := by simp
      clear hsol hpv hvr hpc
      go_enter Tryz.func11, Tryz.ntmps11
      go_wp2_with fail
      refine (isProblem_i W A B n c k cb rows hs P _ HR.out HL.out HP.out hq HM.out).mono ?_
      rw [HPV.out]
      rintro e w1 ⟨rfl, hb1⟩
      have hbw1 := bel_trans hbw0 hb1
      have HB1 := Lib.hid (HB0.out.below hb1)
      have HR1 := Lib.hid (HR.out.below hb1)
      have HP1 := Lib.hid (HP.out.below hb1)
      have HRD1 := Lib.hid (HRD.out.below hb1)
      clear hb1
      go_wp2_with fail
      go_loopw [23, 7] (fun e23 e7 wr => ∃ (j u : Nat), j ≤ k ∧ e23 = .int .i64 j ∧ e7 = .int .i64 (u : Int) ∧ solTo W rows P l j = some u ∧ u < 2 ^ 36 ∧ Below w1.heap.size w1 wr) (fun e23 _ _ => k - (intOf e23).toNat)
      case atStart => exact ⟨0, 0, Nat.zero_le _, rfl, rfl, rfl, by decide, Below.refl _ _⟩
      case round =>
        obtain ⟨j, u, hj, rfl, rfl, hso, hu, hb⟩ := hrel
        have hB := HB1.out.below hb
        have b0 : wr.cell? ⟨w.heap.size, 0, none⟩ = some (.int .i64 W) := by simpa using hB.cell 0
        have b1 : wr.cell? ⟨w.heap.size, 1, none⟩ = some (.slice A n c) := by simpa using hB.cell 1
        have hgw := hB.lt
        clear hB
        by_cases hlt : j < k
        · have hjl : j < l.length := by rw [HLL.out]; exact hlt
          have hj0 : (0 : Int) ≤ (j : Int) := by omega
          have hj1 : (j : Int) < (k : Int) := by omega
          obtain ⟨gD, oD, hDe, hgD, d1⟩ := RdI.at_ (HRD1.out.below hb) hjl
          obtain ⟨x, f, g, off, _, hfx, hBe, hg, d2, l1, r1⟩ := (HP1.out.below hb).at_ hlt
          have hfs := HSH.out f (List.mem_of_getElem? hfx)
          have hgd : P.getD j [] = f := by rw [List.getD_eq_getElem?_getD, hfx]; rfl
          have hgl : l.getD j 0 = l[j] := by rw [List.getD_eq_getElem?_getD, List.getElem?_eq_getElem hjl]; rfl
          obtain ⟨mm, hmm⟩ : ∃ mm, l[j] = mm := ⟨_, rfl⟩
          rw [hmm] at d1 hgl
          have hok : solOk W rows P l j u = ((plV W rows f).any (· == mm) && u &&& mm.toNat == 0) := by unfold solOk; rw [hgd, hgl]
          have hnx := optTo_succ hso
          have HNO2 := Lib.hid (fun h => HNO.out j u hlt hso h)
          obtain ⟨C1, m1, k1⟩ := x
          have HFS := Lib.hid hfs
          have HRF := Lib.hid r1
          have HL1 := Lib.hid l1
          have HOK := Lib.hid hok
          have HPM := Lib.hid (plV_msk W rows f)
          have HPL := Lib.hid (plV_len W rows f)
          have hnx2 : solOk W rows P l j u = true → solTo W rows P l (j + 1) = some (u ||| mm.toNat) := fun h => by
            have h2 : solTo W rows P l (j + 1) = if solOk W rows P l j u then some (u ||| (l.getD j 0).toNat) else none := hnx
            rw [h2, h, hgl]; rfl
          have HNX := Lib.hid hnx2
          dsimp only at d2
          subst hDe hBe
          clear hfx l1 r1 hfs hgd hgl hok hnx hnx2 hmm hso
          go_wp2_with fail
          refine wp_region_rg 15 rfl (by kernel_rfl) ?_
          (refine rgT (i := 0) (v := ?_) rfl rfl (by kernel_rfl) (by kernel_rfl) (by kernel_rfl) (by rfl) (fun w' hcw => ?_) ?_; rotate_left; ((try dsimp only at hcw); have hbc := hcw.cells; go_simp; first | done | with_reducible rfl); simp only [List.setIfInBounds_toArray, List.set_cons_zero, List.set_cons_succ])
          (refine rgT (i := 1) (v := ?_) rfl rfl (by kernel_rfl) (by kernel_rfl) (by kernel_rfl) (by rfl) (fun w' hcw => ?_) ?_; rotate_left; ((try dsimp only at hcw); have hbc := hcw.cells; go_simp; first | done | with_reducible rfl); simp only [List.setIfInBounds_toArray, List.set_cons_zero, List.set_cons_succ])
          (refine rgT (i := 2) (v := ?_) rfl rfl (by kernel_rfl) (by kernel_rfl) (by kernel_rfl) (by rfl) (fun w' hcw => ?_) ?_; rotate_left; ((try dsimp only at hcw); have hbc := hcw.cells; go_simp; first | done | with_reducible rfl); simp only [List.setIfInBounds_toArray, List.set_cons_zero, List.set_cons_succ])
          (refine rgT (i := 3) (v := ?_) rfl rfl (by kernel_rfl) (by kernel_rfl) (by kernel_rfl) (by rfl) (fun w' hcw => ?_) ?_; rotate_left; ((try dsimp only at hcw); have hbc := hcw.cells; go_simp; first | done | with_reducible rfl); simp only [List.setIfInBounds_toArray, List.set_cons_zero, List.set_cons_succ])
          (refine rgT (i := 4) (v := ?_) rfl rfl (by kernel_rfl) (by kernel_rfl) (by kernel_rfl) (by rfl) (fun w' hcw => ?_) ?_; rotate_left; ((try dsimp only at hcw); have hbc := hcw.cells; go_simp; first | done | with_reducible rfl); simp only [List.setIfInBounds_toArray, List.set_cons_zero, List.set_cons_succ])
          (refine rgT (i := 6) (v := ?_) rfl rfl (by kernel_rfl) (by kernel_rfl) (by kernel_rfl) (by rfl) (fun w' hcw => ?_) ?_; rotate_left; ((try dsimp only at hcw); have hbc := hcw.cells; go_simp; first | done | with_reducible rfl); simp only [List.setIfInBounds_toArray, List.set_cons_zero, List.set_cons_succ])
          refine rgK_one (i := 5) (by kernel_rfl) rfl rfl (fun u1 hc1 he1 K hK => ?_)
          go_simp
          refine (placements_i W A C1 n c m1 k1 rows f _ ((HR1.out.below hb).below hc1) HL.out HVR.out (HRF.out.below hc1) HL1.out HFS.out).mono ?_
          rintro e u2 ⟨E, q2, c2, rfl, hOE, hbE⟩
          have hq2 : (plV W rows f).length = q2 := by have := own_len hOE; rw [vI_length] at this; omega
          have hc2 : Below wr.heap.size wr u2 := bel_trans hc1 hbE
          refine hK _ _ hc2 ?_
          clear hK K
          have HRE := Lib.hid (Rd.of_own hOE)
          have HQ2 := Lib.hid hq2
          have hq3 : q2 ≤ 288 := by have := HPL.out; omega
          clear hOE hq2
          refine rgK_one (i := 7) (by kernel_rfl) rfl rfl (fun u3 hc3 he3 K hK => ?_)
          go_simp
          refine (hasInt_i E q2 c2 (plV W rows f) mm _ (HRE.out.below he3) HQ2.out (by omega)).mono ?_
          rintro e u4 ⟨rfl, hb4⟩
          have hc4 : Below wr.heap.size wr u4 := bel_trans hc3 hb4
          refine hK _ _ hc4 ?_
          clear hK K
          cases hh : (plV W rows f).any (· == mm) with
          | false =>
            have HN := Lib.hid (HNO2.out (by rw [HOK.out, hh]; rfl))
            clear hh
            (refine rgT (i := 8) (v := ?_) rfl rfl (by kernel_rfl) (by kernel_rfl) (by kernel_rfl) (by rfl) (fun w' hcw => ?_) ?_; rotate_left; ((try dsimp only at hcw); have hbc := hcw.cells; go_simp; first | done | with_reducible rfl); simp only [List.setIfInBounds_toArray, List.set_cons_zero, List.set_cons_succ])
            (refine rgT (i := 9) (v := ?_) rfl rfl (by kernel_rfl) (by kernel_rfl) (by kernel_rfl) (by rfl) (fun w' hcw => ?_) ?_; rotate_left; ((try dsimp only at hcw); have hbc := hcw.cells; go_simp; first | done | with_reducible rfl); simp only [List.setIfInBounds_toArray, List.set_cons_zero, List.set_cons_succ])
            (refine rgS (i := 10) rfl rfl (by kernel_rfl) (by kernel_rfl) (by kernel_rfl) (by rfl) ?_; simp only [List.setIfInBounds_toArray, List.set_cons_zero, List.set_cons_succ])
            (refine rgS (i := 11) rfl rfl (by kernel_rfl) (by kernel_rfl) (by kernel_rfl) (by rfl) ?_; simp only [List.setIfInBounds_toArray, List.set_cons_zero, List.set_cons_succ])
            (refine rgS (i := 12) rfl rfl (by kernel_rfl) (by kernel_rfl) (by kernel_rfl) (by rfl) ?_; simp only [List.setIfInBounds_toArray, List.set_cons_zero, List.set_cons_succ])
            (refine rgS (i := 13) rfl rfl (by kernel_rfl) (by kernel_rfl) (by kernel_rfl) (by rfl) ?_; simp only [List.setIfInBounds_toArray, List.set_cons_zero, List.set_cons_succ])
            (refine rgT (i := 14) (v := ?_) rfl rfl (by kernel_rfl) (by kernel_rfl) (by kernel_rfl) (by rfl) (fun w' hcw => ?_) ?_; rotate_left; ((try dsimp only at hcw); have hbc := hcw.cells; go_simp; first | done | with_reducible rfl); simp only [List.setIfInBounds_toArray, List.set_cons_zero, List.set_cons_succ])
            refine ⟨by kernel_rfl, fun wz hcz hez => NoPanic.normal ?_⟩
            have hbz := bel_trans hb hcz
            go_wp2_with fail
            go_ret
            exact ⟨by rw [HN.out]; rfl, bel_trans hbw1 hbz⟩
          | true =>
            obtain ⟨t, rfl, ht⟩ := has_msk HPM.out hh
            obtain ⟨z, hz⟩ : ∃ z, u &&& t = z := ⟨_, rfl⟩
            have hand : bits .and .i64 (u : Int) (t : Int) = (z : Int) := by rw [i64_and u t (by omega) (by omega), hz]
            have hor : bits .or .i64 (u : Int) (t : Int) = ((u ||| t : Nat) : Int) := i64_or u t (by omega) (by omega)
            have HOR := Lib.hid hor
            have HUT : Hid (u ||| t < 2 ^ 36) := Nat.or_lt_two_pow hu ht
            have hokz : solOk W rows P l j u = (z == 0) := by rw [HOK.out, hh, Int.toNat_natCast, hz, Bool.true_and]
            have HOKZ := Lib.hid hokz
            clear hh hokz hor hz
            by_cases hz0 : z = 0
            · have hzt : ((z : Int) != 0) = false := by simp [hz0]
              have HN := Lib.hid (HNX.out (by rw [HOKZ.out, hz0]; rfl))
              clear hz0
              (refine rgT (i := 8) (v := ?_) rfl rfl (by kernel_rfl) (by kernel_rfl) (by kernel_rfl) (by rfl) (fun w' hcw => ?_) ?_; rotate_left; ((try dsimp only at hcw); have hbc := hcw.cells; go_simp; first | done | with_reducible rfl); simp only [List.setIfInBounds_toArray, List.set_cons_zero, List.set_cons_succ])
              (refine rgT (i := 9) (v := ?_) rfl rfl (by kernel_rfl) (by kernel_rfl) (by kernel_rfl) (by rfl) (fun w' hcw => ?_) ?_; rotate_left; ((try dsimp only at hcw); have hbc := hcw.cells; go_simp; first | done | with_reducible rfl); simp only [List.setIfInBounds_toArray, List.set_cons_zero, List.set_cons_succ])
              (refine rgT (i := 10) (v := ?_) rfl rfl (by kernel_rfl) (by kernel_rfl) (by kernel_rfl) (by rfl) (fun w' hcw => ?_) ?_; rotate_left; ((try dsimp only at hcw); have hbc := hcw.cells; go_simp; first | done | with_reducible rfl); simp only [List.setIfInBounds_toArray, List.set_cons_zero, List.set_cons_succ])
              (refine rgT (i := 11) (v := ?_) rfl rfl (by kernel_rfl) (by kernel_rfl) (by kernel_rfl) (by rfl) (fun w' hcw => ?_) ?_; rotate_left; ((try dsimp only at hcw); have hbc := hcw.cells; go_simp; first | done | with_reducible rfl); simp only [List.setIfInBounds_toArray, List.set_cons_zero, List.set_cons_succ])
              (refine rgT (i := 12) (v := ?_) rfl rfl (by kernel_rfl) (by kernel_rfl) (by kernel_rfl) (by rfl) (fun w' hcw => ?_) ?_; rotate_left; ((try dsimp only at hcw); have hbc := hcw.cells; go_simp; first | done | with_reducible rfl); simp only [List.setIfInBounds_toArray, List.set_cons_zero, List.set_cons_succ])
              (refine rgT (i := 13) (v := ?_) rfl rfl (by kernel_rfl) (by kernel_rfl) (by kernel_rfl) (by rfl) (fun w' hcw => ?_) ?_; rotate_left; ((try dsimp only at hcw); have hbc := hcw.cells; go_simp; first | done | with_reducible rfl); simp only [List.setIfInBounds_toArray, List.set_cons_zero, List.set_cons_succ])
              (refine rgT (i := 14) (v := ?_) rfl rfl (by kernel_rfl) (by kernel_rfl) (by kernel_rfl) (by rfl) (fun w' hcw => ?_) ?_; rotate_left; ((try dsimp only at hcw); have hbc := hcw.cells; go_simp; first | done | with_reducible rfl); simp only [List.setIfInBounds_toArray, List.set_cons_zero, List.set_cons_succ])
              refine ⟨by kernel_rfl, fun wz hcz hez => NoPanic.normal ?_⟩
              have hbz := bel_trans hb hcz
              have hor := HOR.out
              have d1' := keep_below hcz d1
              have hgD' : gD < wz.heap.size := Nat.lt_of_lt_of_le hgD hcz.size
              clear hand hzt d1 d2 b0 b1 hgw hg
              go_wp2_with fail
              exact ⟨⟨j + 1, u ||| t, by omega, by go_num, rfl, by rw [HN.out, Int.toNat_natCast], HUT.out, hbz⟩, by simp [intOf]; omega⟩
            · have hzt : ((z : Int) != 0) = true := by simp; omega
              have HN := Lib.hid (HNO2.out (by rw [HOKZ.out]; simpa using hz0))
              clear hz0
              (refine rgT (i := 8) (v := ?_) rfl rfl (by kernel_rfl) (by kernel_rfl) (by kernel_rfl) (by rfl) (fun w' hcw => ?_) ?_; rotate_left; ((try dsimp only at hcw); have hbc := hcw.cells; go_simp; first | done | with_reducible rfl); simp only [List.setIfInBounds_toArray, List.set_cons_zero, List.set_cons_succ])
              (refine rgT (i := 9) (v := ?_) rfl rfl (by kernel_rfl) (by kernel_rfl) (by kernel_rfl) (by rfl) (fun w' hcw => ?_) ?_; rotate_left; ((try dsimp only at hcw); have hbc := hcw.cells; go_simp; first | done | with_reducible rfl); simp only [List.setIfInBounds_toArray, List.set_cons_zero, List.set_cons_succ])
              (refine rgT (i := 10) (v := ?_) rfl rfl (by kernel_rfl) (by kernel_rfl) (by kernel_rfl) (by rfl) (fun w' hcw => ?_) ?_; rotate_left; ((try dsimp only at hcw); have hbc := hcw.cells; go_simp; first | done | with_reducible rfl); simp only [List.setIfInBounds_toArray, List.set_cons_zero, List.set_cons_succ])
              (refine rgT (i := 11) (v := ?_) rfl rfl (by kernel_rfl) (by kernel_rfl) (by kernel_rfl) (by rfl) (fun w' hcw => ?_) ?_; rotate_left; ((try dsimp only at hcw); have hbc := hcw.cells; go_simp; first | done | with_reducible rfl); simp only [List.setIfInBounds_toArray, List.set_cons_zero, List.set_cons_succ])
              (refine rgT (i := 12) (v := ?_) rfl rfl (by kernel_rfl) (by kernel_rfl) (by kernel_rfl) (by rfl) (fun w' hcw => ?_) ?_; rotate_left; ((try dsimp only at hcw); have hbc := hcw.cells; go_simp; first | done | with_reducible rfl); simp only [List.setIfInBounds_toArray, List.set_cons_zero, List.set_cons_succ])
              (refine rgT (i := 13) (v := ?_) rfl rfl (by kernel_rfl) (by kernel_rfl) (by kernel_rfl) (by rfl) (fun w' hcw => ?_) ?_; rotate_left; ((try dsimp only at hcw); have hbc := hcw.cells; go_simp; first | done | with_reducible rfl); simp only [List.setIfInBounds_toArray, List.set_cons_zero, List.set_cons_succ])
              (refine rgT (i := 14) (v := ?_) rfl rfl (by kernel_rfl) (by kernel_rfl) (by kernel_rfl) (by rfl) (fun w' hcw => ?_) ?_; rotate_left; ((try dsimp only at hcw); have hbc := hcw.cells; go_simp; first | done | with_reducible rfl); simp only [List.setIfInBounds_toArray, List.set_cons_zero, List.set_cons_succ])
              refine ⟨by kernel_rfl, fun wz hcz hez => NoPanic.normal ?_⟩
              have hbz := bel_trans hb hcz
              go_wp2_with fail
              go_ret
              exact ⟨by rw [HN.out]; rfl, bel_trans hbw1 hbz⟩
        · obtain rfl : j = k := by omega
          have HN := Lib.hid (HYES.out u hso)
          have hj1 : ¬ (j : Int) < (j : Int) := by omega
          clear hso
          go_wp2_with fail
          refine (mask_i W A n c rows _ (HR1.out.below hb) HL.out HVR.out).mono ?_
          rintro e w2 ⟨rfl, hb2⟩
          go_wp2_with fail
          go_ret
          exact ⟨by rw [HN.out]; exact ret_bool (a := ((u : Int) == ((maskV W rows : Nat) : Int))) (by rw [Bool.eq_iff_iff, beq_iff_eq, beq_iff_eq]; omega), bel_trans hbw1 (bel_trans hb hb2)⟩
    · have HV : Hid (solV W rows P l = false) := by
        show solV W rows P l = false
        unfold solV
        rw [HLL.out, HPF.out, show (k == q) = false from by simpa using hkq, Bool.false_and, Bool.and_false]
      have hkq2 : ((k : Int) != (q : Int)) = true := by simp; omega
      clear hpv hvr hpc hkq
      go_enter Tryz.func11, Tryz.ntmps11
      go_wp2_with fail
      refine (isProblem_i W A B n c q cb rows hs P _ HR.out HL.out HP.out hq HM.out).mono ?_
      rw [HPV.out]
      rintro e w1 ⟨rfl, hb1⟩
      have hbw1 := bel_trans hbw0 hb1
      go_wp2_with fail
      go_ret
      exact ⟨by rw [HV.out]; rfl, hbw1⟩
set_option maxRecDepth 100000 in
set_option maxHeartbeats 6400000 in
theorem IsSolution_s (W : Int) (A B D : Option Addr) (n c q cb k cd : Nat) (rows l : List Int) (hs : List H) (P : List (List C)) (w : World) (hr : Rd w A (vI rows)) (hl : rows.length = n) (hp : RdP w B q hs P) (hq : q ≤ 1048576) (hm : totC P ≤ 1048576) (hrd : Rd w D (vI l)) (hll : l.length = k) (hk : k ≤ 1048576) :
    Calls Tryz.prog 19 #[.agg #[.int .i64 W, .slice A n c], .slice B q cb, .slice D k cd] w (Ret w (.bool (solV W rows P l))) := by
  have HL := Lib.hid hl
  have HLL := Lib.hid hll
  have HR := Lib.hid (hr.alloc (.cells #[.int .i64 W, .slice A n c] 26))
  have HP := Lib.hid (hp.alloc (.cells #[.int .i64 W, .slice A n c] 26))
  have HRD := Lib.hid (hrd.alloc (.cells #[.int .i64 W, .slice A n c] 26))
  have HB0 := Lib.hid (Blk.new w 26 #[.int .i64 W, .slice A n c])
  have HM := Lib.hid hm
  have HPF := Lib.hid hp.flen
  have hbw0 : Below w.heap.size w (w.alloc (.cells #[.int .i64 W, .slice A n c] 26)) := bel_alloc (Below.refl _ _) _
  clear hl hll hr hp hrd hm
  cases hpv : (isReg W rows && pcs P) with
  | false =>
    have HV : Hid (solV W rows P l = false) := by show solV W rows P l = false; unfold solV; rw [hpv]; rfl
    cases hv : isReg W rows with
    | false =>
      have HVR := Lib.hid hv
      clear hpv hv
      go_enter Tryz.func19, Tryz.ntmps19
      go_wp2_with fail
      refine (IsRegion_s _ _ _ _ rows _ HR.out HL.out).mono ?_
      rw [HVR.out]
      rintro e w1 ⟨rfl, hb1⟩
      go_wp2_with fail
      go_ret
      exact ⟨by rw [HV.out]; rfl, bel_trans hbw0 hb1⟩
    | true =>
      rw [hv, Bool.true_and] at hpv
      have HVR := Lib.hid hv
      have HPV := Lib.hid hpv
      clear hpv hv
      go_enter Tryz.func19, Tryz.ntmps19
      go_wp2_with fail
      refine (IsRegion_s _ _ _ _ rows _ HR.out HL.out).mono ?_
      rw [HVR.out]
      rintro e w1 ⟨rfl, hb1⟩
      go_wp2_with fail
      refine (ArePieces_s B q cb hs P _ (HP.out.below hb1) hq HM.out).mono ?_
      rw [HPV.out]
      rintro e w2 ⟨rfl, hb2⟩
      go_wp2_with fail
      go_ret
      exact ⟨by rw [HV.out]; rfl, bel_trans hbw0 (bel_trans hb1 hb2)⟩
  | true =>
    have HPV := Lib.hid hpv
    have hvr : isReg W rows = true := by simp only [Bool.and_eq_true] at hpv; exact hpv.1
    have hpc : pcs P = true := by simp only [Bool.and_eq_true] at hpv; exact hpv.2
    have HVR := Lib.hid hvr
    have HPC := Lib.hid hpc
    have HSH := Lib.hid (pcs_atS hpc).2
    by_cases hkq : k = q
    · subst hkq
      have hk5 : k ≤ 5 := by have := (pcs_atS hpc).1; have := HPF.out; omega
      have hsol : solV W rows P l = optIs (solTo W rows P l k) (maskV W rows) := by unfold solV; rw [hpv, HLL.out, HPF.out, Bool.true_and]; simp
      have HNO : Hid (∀ j u, j < k → solTo W rows P l j = some u → solOk W rows P l j u = false → solV W rows P l = false) := fun j u hj h1 h2 => by rw [hsol, show solTo W rows P l k = none from optTo_no h1 h2 hj]; rfl
      have HYES : Hid (∀ u, solTo W rows P l k = some u → solV W rows P l = (u == maskV W rows)) := fun u h => by rw [hsol, h]; rfl
      have hkk : ((k : Int) != (k : Int)) = false := by simp
      clear hsol hpv hvr hpc
      go_enter Tryz.func19, Tryz.ntmps19
      go_wp2_with fail
      refine (IsRegion_s _ _ _ _ rows _ HR.out HL.out).mono ?_
      rw [HVR.out]
      rintro e w3 ⟨rfl, hb3⟩
      go_wp2_with fail
      refine (ArePieces_s B k cb hs P _ (HP.out.below hb3) hq HM.out).mono ?_
      rw [HPC.out]
      rintro e w1 ⟨rfl, hb4⟩
      have hb1 := bel_trans hb3 hb4
      have hbw1 := bel_trans hbw0 hb1
      have HB1 := Lib.hid (HB0.out.below hb1)
      have HR1 := Lib.hid (HR.out.below hb1)
      have HP1 := Lib.hid (HP.out.below hb1)
      have HRD1 := Lib.hid (HRD.out.below hb1)
      clear hb1
      go_wp2_with fail
      go_loopw [8, 7] (fun e23 e7 wr => ∃ (j u : Nat), j ≤ k ∧ e23 = .int .i64 j ∧ e7 = .int .i64 (u : Int) ∧ solTo W rows P l j = some u ∧ u < 2 ^ 36 ∧ Below w1.heap.size w1 wr) (fun e23 _ _ => k - (intOf e23).toNat)
      case atStart => exact ⟨0, 0, Nat.zero_le _, rfl, rfl, rfl, by decide, Below.refl _ _⟩
      case round =>
        obtain ⟨j, u, hj, rfl, rfl, hso, hu, hb⟩ := hrel
        have hB := HB1.out.below hb
        have b0 : wr.cell? ⟨w.heap.size, 0, none⟩ = some (.int .i64 W) := by simpa using hB.cell 0
        have b1 : wr.cell? ⟨w.heap.size, 1, none⟩ = some (.slice A n c) := by simpa using hB.cell 1
        have hgw := hB.lt
        clear hB
        by_cases hlt : j < k
        · have hjl : j < l.length := by rw [HLL.out]; exact hlt
          have hj0 : (0 : Int) ≤ (j : Int) := by omega
          have hj1 : (j : Int) < (k : Int) := by omega
          obtain ⟨gD, oD, hDe, hgD, d1⟩ := RdI.at_ (HRD1.out.below hb) hjl
          obtain ⟨x, f, g, off, _, hfx, hBe, hg, d2, l1, r1⟩ := (HP1.out.below hb).at_ hlt
          have hfs := HSH.out f (List.mem_of_getElem? hfx)
          have hgd : P.getD j [] = f := by rw [List.getD_eq_getElem?_getD, hfx]; rfl
          have hgl : l.getD j 0 = l[j] := by rw [List.getD_eq_getElem?_getD, List.getElem?_eq_getElem hjl]; rfl
          obtain ⟨mm, hmm⟩ : ∃ mm, l[j] = mm := ⟨_, rfl⟩
          rw [hmm] at d1 hgl
          have hok : solOk W rows P l j u = ((plV W rows f).any (· == mm) && u &&& mm.toNat == 0) := by unfold solOk; rw [hgd, hgl]
          have hnx := optTo_succ hso
          have HNO2 := Lib.hid (fun h => HNO.out j u hlt hso h)
          obtain ⟨C1, m1, k1⟩ := x
          have HFS := Lib.hid hfs
          have HRF := Lib.hid r1
          have HL1 := Lib.hid l1
          have HOK := Lib.hid hok
          have HPM := Lib.hid (plV_msk W rows f)
          have HPL := Lib.hid (plV_len W rows f)
          have hnx2 : solOk W rows P l j u = true → solTo W rows P l (j + 1) = some (u ||| mm.toNat) := fun h => by
            have h2 : solTo W rows P l (j + 1) = if solOk W rows P l j u then some (u ||| (l.getD j 0).toNat) else none := hnx
            rw [h2, h, hgl]; rfl
          have HNX := Lib.hid hnx2
          dsimp only at d2
          subst hDe hBe
          clear hfx l1 r1 hfs hgd hgl hok hnx hnx2 hmm hso
          go_wp2_with fail
          refine wp_region_rg 21 rfl (by kernel_rfl) ?_
          (refine rgT (i := 0) (v := ?_) rfl rfl (by kernel_rfl) (by kernel_rfl) (by kernel_rfl) (by rfl) (fun w' hcw => ?_) ?_; rotate_left; ((try dsimp only at hcw); have hbc := hcw.cells; go_simp; first | done | with_reducible rfl); simp only [List.setIfInBounds_toArray, List.set_cons_zero, List.set_cons_succ])
          (refine rgT (i := 1) (v := ?_) rfl rfl (by kernel_rfl) (by kernel_rfl) (by kernel_rfl) (by rfl) (fun w' hcw => ?_) ?_; rotate_left; ((try dsimp only at hcw); have hbc := hcw.cells; go_simp; first | done | with_reducible rfl); simp only [List.setIfInBounds_toArray, List.set_cons_zero, List.set_cons_succ])
          (refine rgT (i := 2) (v := ?_) rfl rfl (by kernel_rfl) (by kernel_rfl) (by kernel_rfl) (by rfl) (fun w' hcw => ?_) ?_; rotate_left; ((try dsimp only at hcw); have hbc := hcw.cells; go_simp; first | done | with_reducible rfl); simp only [List.setIfInBounds_toArray, List.set_cons_zero, List.set_cons_succ])
          (refine rgT (i := 3) (v := ?_) rfl rfl (by kernel_rfl) (by kernel_rfl) (by kernel_rfl) (by rfl) (fun w' hcw => ?_) ?_; rotate_left; ((try dsimp only at hcw); have hbc := hcw.cells; go_simp; first | done | with_reducible rfl); simp only [List.setIfInBounds_toArray, List.set_cons_zero, List.set_cons_succ])
          (refine rgT (i := 4) (v := ?_) rfl rfl (by kernel_rfl) (by kernel_rfl) (by kernel_rfl) (by rfl) (fun w' hcw => ?_) ?_; rotate_left; ((try dsimp only at hcw); have hbc := hcw.cells; go_simp; first | done | with_reducible rfl); simp only [List.setIfInBounds_toArray, List.set_cons_zero, List.set_cons_succ])
          (refine rgT (i := 6) (v := ?_) rfl rfl (by kernel_rfl) (by kernel_rfl) (by kernel_rfl) (by rfl) (fun w' hcw => ?_) ?_; rotate_left; ((try dsimp only at hcw); have hbc := hcw.cells; go_simp; first | done | with_reducible rfl); simp only [List.setIfInBounds_toArray, List.set_cons_zero, List.set_cons_succ])
          (refine rgT (i := 7) (v := ?_) rfl rfl (by kernel_rfl) (by kernel_rfl) (by kernel_rfl) (by rfl) (fun w' hcw => ?_) ?_; rotate_left; ((try dsimp only at hcw); have hbc := hcw.cells; go_simp; first | done | with_reducible rfl); simp only [List.setIfInBounds_toArray, List.set_cons_zero, List.set_cons_succ])
          (refine rgT (i := 8) (v := ?_) rfl rfl (by kernel_rfl) (by kernel_rfl) (by kernel_rfl) (by rfl) (fun w' hcw => ?_) ?_; rotate_left; ((try dsimp only at hcw); have hbc := hcw.cells; go_simp; first | done | with_reducible rfl); simp only [List.setIfInBounds_toArray, List.set_cons_zero, List.set_cons_succ])
          (refine rgT (i := 9) (v := ?_) rfl rfl (by kernel_rfl) (by kernel_rfl) (by kernel_rfl) (by rfl) (fun w' hcw => ?_) ?_; rotate_left; ((try dsimp only at hcw); have hbc := hcw.cells; go_simp; first | done | with_reducible rfl); simp only [List.setIfInBounds_toArray, List.set_cons_zero, List.set_cons_succ])
          refine rgK_one (i := 5) (by kernel_rfl) rfl rfl (fun u1 hc1 he1 K hK => ?_)
          go_simp
          refine (PlacementsOf_s W A C1 n c m1 k1 rows f _ ((HR1.out.below hb).below hc1) HL.out HVR.out (HRF.out.below hc1) HL1.out HFS.out).mono ?_
          rintro e u2 ⟨gE, q2, c2, rfl, hOE, hbE⟩
          have hq2 : (plV W rows f).length = q2 := by have := own_len hOE; rw [vI_length] at this; omega
          have hc2 : Below wr.heap.size wr u2 := bel_trans hc1 hbE
          refine hK _ _ hc2 ?_
          clear hK K
          have HRE := Lib.hid (Rd.of_own hOE)
          have HQ2 := Lib.hid hq2
          have hq3 : q2 ≤ 288 := by have := HPL.out; omega
          clear hOE hq2
          refine rgK_one (i := 10) (by kernel_rfl) rfl rfl (fun u3 hc3 he3 K hK => ?_)
          go_simp
          refine (l7Has_s _ q2 c2 (plV W rows f) mm _ (HRE.out.below he3) HQ2.out (by omega)).mono ?_
          rintro e u4 ⟨rfl, hb4⟩
          have hc4 : Below wr.heap.size wr u4 := bel_trans hc3 hb4
          refine hK _ _ hc4 ?_
          clear hK K
          cases hh : (plV W rows f).any (· == mm) with
          | false =>
            have HN := Lib.hid (HNO2.out (by rw [HOK.out, hh]; rfl))
            clear hh
            (refine rgT (i := 11) (v := ?_) rfl rfl (by kernel_rfl) (by kernel_rfl) (by kernel_rfl) (by rfl) (fun w' hcw => ?_) ?_; rotate_left; ((try dsimp only at hcw); have hbc := hcw.cells; go_simp; first | done | with_reducible rfl); simp only [List.setIfInBounds_toArray, List.set_cons_zero, List.set_cons_succ])
            (refine rgT (i := 12) (v := ?_) rfl rfl (by kernel_rfl) (by kernel_rfl) (by kernel_rfl) (by rfl) (fun w' hcw => ?_) ?_; rotate_left; ((try dsimp only at hcw); have hbc := hcw.cells; go_simp; first | done | with_reducible rfl); simp only [List.setIfInBounds_toArray, List.set_cons_zero, List.set_cons_succ])
            (refine rgS (i := 13) rfl rfl (by kernel_rfl) (by kernel_rfl) (by kernel_rfl) (by rfl) ?_; simp only [List.setIfInBounds_toArray, List.set_cons_zero, List.set_cons_succ])
            (refine rgS (i := 14) rfl rfl (by kernel_rfl) (by kernel_rfl) (by kernel_rfl) (by rfl) ?_; simp only [List.setIfInBounds_toArray, List.set_cons_zero, List.set_cons_succ])
            (refine rgS (i := 15) rfl rfl (by kernel_rfl) (by kernel_rfl) (by kernel_rfl) (by rfl) ?_; simp only [List.setIfInBounds_toArray, List.set_cons_zero, List.set_cons_succ])
            (refine rgS (i := 16) rfl rfl (by kernel_rfl) (by kernel_rfl) (by kernel_rfl) (by rfl) ?_; simp only [List.setIfInBounds_toArray, List.set_cons_zero, List.set_cons_succ])
            (refine rgS (i := 17) rfl rfl (by kernel_rfl) (by kernel_rfl) (by kernel_rfl) (by rfl) ?_; simp only [List.setIfInBounds_toArray, List.set_cons_zero, List.set_cons_succ])
            (refine rgS (i := 18) rfl rfl (by kernel_rfl) (by kernel_rfl) (by kernel_rfl) (by rfl) ?_; simp only [List.setIfInBounds_toArray, List.set_cons_zero, List.set_cons_succ])
            (refine rgS (i := 19) rfl rfl (by kernel_rfl) (by kernel_rfl) (by kernel_rfl) (by rfl) ?_; simp only [List.setIfInBounds_toArray, List.set_cons_zero, List.set_cons_succ])
            (refine rgT (i := 20) (v := ?_) rfl rfl (by kernel_rfl) (by kernel_rfl) (by kernel_rfl) (by rfl) (fun w' hcw => ?_) ?_; rotate_left; ((try dsimp only at hcw); have hbc := hcw.cells; go_simp; first | done | with_reducible rfl); simp only [List.setIfInBounds_toArray, List.set_cons_zero, List.set_cons_succ])
            refine ⟨by kernel_rfl, fun wz hcz hez => NoPanic.normal ?_⟩
            have hbz := bel_trans hb hcz
            go_wp2_with fail
            go_ret
            exact ⟨by rw [HN.out]; rfl, bel_trans hbw1 hbz⟩
          | true =>
            obtain ⟨t, rfl, ht⟩ := has_msk HPM.out hh
            obtain ⟨z, hz⟩ : ∃ z, u &&& t = z := ⟨_, rfl⟩
            have hand : bits .and .i64 (u : Int) (t : Int) = (z : Int) := by rw [i64_and u t (by omega) (by omega), hz]
            have hor : bits .or .i64 (u : Int) (t : Int) = ((u ||| t : Nat) : Int) := i64_or u t (by omega) (by omega)
            have HOR := Lib.hid hor
            have HUT : Hid (u ||| t < 2 ^ 36) := Nat.or_lt_two_pow hu ht
            have hokz : solOk W rows P l j u = (z == 0) := by rw [HOK.out, hh, Int.toNat_natCast, hz, Bool.true_and]
            have HOKZ := Lib.hid hokz
            clear hh hokz hor hz
            by_cases hz0 : z = 0
            · have hzt : ((z : Int) != 0) = false := by simp [hz0]
              have HN := Lib.hid (HNX.out (by rw [HOKZ.out, hz0]; rfl))
              clear hz0
              (refine rgT (i := 11) (v := ?_) rfl rfl (by kernel_rfl) (by kernel_rfl) (by kernel_rfl) (by rfl) (fun w' hcw => ?_) ?_; rotate_left; ((try dsimp only at hcw); have hbc := hcw.cells; go_simp; first | done | with_reducible rfl); simp only [List.setIfInBounds_toArray, List.set_cons_zero, List.set_cons_succ])
              (refine rgT (i := 12) (v := ?_) rfl rfl (by kernel_rfl) (by kernel_rfl) (by kernel_rfl) (by rfl) (fun w' hcw => ?_) ?_; rotate_left; ((try dsimp only at hcw); have hbc := hcw.cells; go_simp; first | done | with_reducible rfl); simp only [List.setIfInBounds_toArray, List.set_cons_zero, List.set_cons_succ])
              (refine rgT (i := 13) (v := ?_) rfl rfl (by kernel_rfl) (by kernel_rfl) (by kernel_rfl) (by rfl) (fun w' hcw => ?_) ?_; rotate_left; ((try dsimp only at hcw); have hbc := hcw.cells; go_simp; first | done | with_reducible rfl); simp only [List.setIfInBounds_toArray, List.set_cons_zero, List.set_cons_succ])
              (refine rgT (i := 14) (v := ?_) rfl rfl (by kernel_rfl) (by kernel_rfl) (by kernel_rfl) (by rfl) (fun w' hcw => ?_) ?_; rotate_left; ((try dsimp only at hcw); have hbc := hcw.cells; go_simp; first | done | with_reducible rfl); simp only [List.setIfInBounds_toArray, List.set_cons_zero, List.set_cons_succ])
              (refine rgT (i := 15) (v := ?_) rfl rfl (by kernel_rfl) (by kernel_rfl) (by kernel_rfl) (by rfl) (fun w' hcw => ?_) ?_; rotate_left; ((try dsimp only at hcw); have hbc := hcw.cells; go_simp; first | done | with_reducible rfl); simp only [List.setIfInBounds_toArray, List.set_cons_zero, List.set_cons_succ])
              (refine rgT (i := 16) (v := ?_) rfl rfl (by kernel_rfl) (by kernel_rfl) (by kernel_rfl) (by rfl) (fun w' hcw => ?_) ?_; rotate_left; ((try dsimp only at hcw); have hbc := hcw.cells; go_simp; first | done | with_reducible rfl); simp only [List.setIfInBounds_toArray, List.set_cons_zero, List.set_cons_succ])
              (refine rgT (i := 17) (v := ?_) rfl rfl (by kernel_rfl) (by kernel_rfl) (by kernel_rfl) (by rfl) (fun w' hcw => ?_) ?_; rotate_left; ((try dsimp only at hcw); have hbc := hcw.cells; go_simp; first | done | with_reducible rfl); simp only [List.setIfInBounds_toArray, List.set_cons_zero, List.set_cons_succ])
              (refine rgT (i := 18) (v := ?_) rfl rfl (by kernel_rfl) (by kernel_rfl) (by kernel_rfl) (by rfl) (fun w' hcw => ?_) ?_; rotate_left; ((try dsimp only at hcw); have hbc := hcw.cells; go_simp; first | done | with_reducible rfl); simp only [List.setIfInBounds_toArray, List.set_cons_zero, List.set_cons_succ])
              (refine rgT (i := 19) (v := ?_) rfl rfl (by kernel_rfl) (by kernel_rfl) (by kernel_rfl) (by rfl) (fun w' hcw => ?_) ?_; rotate_left; ((try dsimp only at hcw); have hbc := hcw.cells; go_simp; first | done | with_reducible rfl); simp only [List.setIfInBounds_toArray, List.set_cons_zero, List.set_cons_succ])
              (refine rgT (i := 20) (v := ?_) rfl rfl (by kernel_rfl) (by kernel_rfl) (by kernel_rfl) (by rfl) (fun w' hcw => ?_) ?_; rotate_left; ((try dsimp only at hcw); have hbc := hcw.cells; go_simp; first | done | with_reducible rfl); simp only [List.setIfInBounds_toArray, List.set_cons_zero, List.set_cons_succ])
              refine ⟨by kernel_rfl, fun wz hcz hez => NoPanic.normal ?_⟩
              have hbz := bel_trans hb hcz
              have hor := HOR.out
              have d1' := keep_below hcz d1
              have hgD' : gD < wz.heap.size := Nat.lt_of_lt_of_le hgD hcz.size
              clear hand hzt d1 d2 b0 b1 hgw hg
              go_wp2_with fail
              exact ⟨⟨j + 1, u ||| t, by omega, by go_num, rfl, by rw [HN.out, Int.toNat_natCast], HUT.out, hbz⟩, by simp [intOf]; omega⟩
            · have hzt : ((z : Int) != 0) = true := by simp; omega
              have HN := Lib.hid (HNO2.out (by rw [HOKZ.out]; simpa using hz0))
              clear hz0
              (refine rgT (i := 11) (v := ?_) rfl rfl (by kernel_rfl) (by kernel_rfl) (by kernel_rfl) (by rfl) (fun w' hcw => ?_) ?_; rotate_left; ((try dsimp only at hcw); have hbc := hcw.cells; go_simp; first | done | with_reducible rfl); simp only [List.setIfInBounds_toArray, List.set_cons_zero, List.set_cons_succ])
              (refine rgT (i := 12) (v := ?_) rfl rfl (by kernel_rfl) (by kernel_rfl) (by kernel_rfl) (by rfl) (fun w' hcw => ?_) ?_; rotate_left; ((try dsimp only at hcw); have hbc := hcw.cells; go_simp; first | done | with_reducible rfl); simp only [List.setIfInBounds_toArray, List.set_cons_zero, List.set_cons_succ])
              (refine rgT (i := 13) (v := ?_) rfl rfl (by kernel_rfl) (by kernel_rfl) (by kernel_rfl) (by rfl) (fun w' hcw => ?_) ?_; rotate_left; ((try dsimp only at hcw); have hbc := hcw.cells; go_simp; first | done | with_reducible rfl); simp only [List.setIfInBounds_toArray, List.set_cons_zero, List.set_cons_succ])
              (refine rgT (i := 14) (v := ?_) rfl rfl (by kernel_rfl) (by kernel_rfl) (by kernel_rfl) (by rfl) (fun w' hcw => ?_) ?_; rotate_left; ((try dsimp only at hcw); have hbc := hcw.cells; go_simp; first | done | with_reducible rfl); simp only [List.setIfInBounds_toArray, List.set_cons_zero, List.set_cons_succ])
              (refine rgT (i := 15) (v := ?_) rfl rfl (by kernel_rfl) (by kernel_rfl) (by kernel_rfl) (by rfl) (fun w' hcw => ?_) ?_; rotate_left; ((try dsimp only at hcw); have hbc := hcw.cells; go_simp; first | done | with_reducible rfl); simp only [List.setIfInBounds_toArray, List.set_cons_zero, List.set_cons_succ])
              (refine rgT (i := 16) (v := ?_) rfl rfl (by kernel_rfl) (by kernel_rfl) (by kernel_rfl) (by rfl) (fun w' hcw => ?_) ?_; rotate_left; ((try dsimp only at hcw); have hbc := hcw.cells; go_simp; first | done | with_reducible rfl); simp only [List.setIfInBounds_toArray, List.set_cons_zero, List.set_cons_succ])
              (refine rgT (i := 17) (v := ?_) rfl rfl (by kernel_rfl) (by kernel_rfl) (by kernel_rfl) (by rfl) (fun w' hcw => ?_) ?_; rotate_left; ((try dsimp only at hcw); have hbc := hcw.cells; go_simp; first | done | with_reducible rfl); simp only [List.setIfInBounds_toArray, List.set_cons_zero, List.set_cons_succ])
              (refine rgT (i := 18) (v := ?_) rfl rfl (by kernel_rfl) (by kernel_rfl) (by kernel_rfl) (by rfl) (fun w' hcw => ?_) ?_; rotate_left; ((try dsimp only at hcw); have hbc := hcw.cells; go_simp; first | done | with_reducible rfl); simp only [List.setIfInBounds_toArray, List.set_cons_zero, List.set_cons_succ])
              (refine rgT (i := 19) (v := ?_) rfl rfl (by kernel_rfl) (by kernel_rfl) (by kernel_rfl) (by rfl) (fun w' hcw => ?_) ?_; rotate_left; ((try dsimp only at hcw); have hbc := hcw.cells; go_simp; first | done | with_reducible rfl); simp only [List.setIfInBounds_toArray, List.set_cons_zero, List.set_cons_succ])
              (refine rgT (i := 20) (v := ?_) rfl rfl (by kernel_rfl) (by kernel_rfl) (by kernel_rfl) (by rfl) (fun w' hcw => ?_) ?_; rotate_left; ((try dsimp only at hcw); have hbc := hcw.cells; go_simp; first | done | with_reducible rfl); simp only [List.setIfInBounds_toArray, List.set_cons_zero, List.set_cons_succ])
              refine ⟨by kernel_rfl, fun wz hcz hez => NoPanic.normal ?_⟩
              have hbz := bel_trans hb hcz
              go_wp2_with fail
              go_ret
              exact ⟨by rw [HN.out]; rfl, bel_trans hbw1 hbz⟩
        · obtain rfl : j = k := by omega
          have HN := Lib.hid (HYES.out u hso)
          have hj1 : ¬ (j : Int) < (j : Int) := by omega
          clear hso
          go_wp2_with fail
          refine (MaskOf_s W A n c rows _ (HR1.out.below hb) HL.out).mono ?_
          rintro e w2 ⟨rfl, hb2⟩
          go_wp2_with fail
          go_ret
          exact ⟨by rw [HN.out]; exact ret_bool (a := ((u : Int) == ((maskV W rows : Nat) : Int))) (by rw [Bool.eq_iff_iff, beq_iff_eq, beq_iff_eq]; omega), bel_trans hbw1 (bel_trans hb hb2)⟩
    · have HV : Hid (solV W rows P l = false) := by
        show solV W rows P l = false
        unfold solV
        rw [HLL.out, HPF.out, show (k == q) = false from by simpa using hkq, Bool.false_and, Bool.and_false]
      have hkq2 : ((k : Int) != (q : Int)) = true := by simp; omega
      clear hpv hvr hpc hkq
      go_enter Tryz.func19, Tryz.ntmps19
      go_wp2_with fail
      refine (IsRegion_s _ _ _ _ rows _ HR.out HL.out).mono ?_
      rw [HVR.out]
      rintro e w3 ⟨rfl, hb3⟩
      go_wp2_with fail
      refine (ArePieces_s B q cb hs P _ (HP.out.below hb3) hq HM.out).mono ?_
      rw [HPC.out]
      rintro e w1 ⟨rfl, hb4⟩
      have hb1 := bel_trans hb3 hb4
      have hbw1 := bel_trans hbw0 hb1
      go_wp2_with fail
      go_ret
      exact ⟨by rw [HV.out]; rfl, hbw1⟩
end Go.Proofs.YtcgjnonlndaoeaaGreat

/- Puzzles: all ways of the reference. -/
namespace Go.Proofs.YtcgjnonlndaoeaaGreat
open Go.RowKit
set_option linter.unusedVariables false
attribute [local go_sem ↓] Go.wp_at_zero Go.wp_at_succ
section
variable (w : World) {ops : Array Oper} {rest : List Oper} {o : Oper} {a : Act} {Q : Exit → Act → World → Prop}
theorem wpS (s x : Operand) {K : Act → World → Prop} (ho : o.op = .call { callee := .builtin .append, args := #[s, x], argTypes := #[30, 30] })
    (base : Nat) (A : Option Addr) (n c : Nat) (l : List H) (hs : a.eval s = .slice A n c) (hown : w.ownsRow base 24 1 (.slice A n c) n (vS l))
    (A2 : Option Addr) (m c2 : Nat) (l2 : List H) (hx : a.eval x = .slice A2 m c2) (hr : Rd w A2 (vS l2)) (hl : l2.length = m) (hb : n + m ≤ 1099511627776) (hbase : base ≤ w.heap.size)
    (h : ∀ A' c' w', w'.ownsRow base 24 1 (.slice A' (n + m) c') (n + m) (vS (l ++ l2)) → w.grownBy w' (ob A) → (ob A' = ob A ∨ ob A' = some w.heap.size) → K (a.put o.dst (.slice A' (n + m) c')) w') :
    o.wp Tryz.prog a w K Q := by
  obtain ⟨i0, hi, hz0, hz1, hz2⟩ := info_parts infoS
  refine wp_app w s x _ ho base _ i0 _ 1 24 Tryz.underlying30 hi hz0 hz1 hz2 rfl (by omega) A n c _ hs hown A2 m c2 _ hx hr (by rw [vS_length, hl]; omega) (vS_one _) (by unfold maxLen; omega) (by omega) hbase ?_
  intro A' c' w' h1
  rw [← vS_append] at h1
  exact h A' c' w' h1
end
theorem placesV_take {W : Int} {rows : List Int} {P : List (List C)} {i : Nat} {f : List C} (h : P[i]? = some f) : (placesV W rows P).take (i + 1) = (placesV W rows P).take i ++ [plV W rows f] := by
  obtain ⟨hi, hf⟩ := List.getElem?_eq_some_iff.1 h
  rw [List.take_succ_eq_append_getElem (by simpa [placesV] using hi)]
  congr 2
  simp [placesV, hf]
theorem puz_most {W : Int} {rows : List Int} {P : List (List C)} : ∀ p ∈ placesV W rows P, Msk 36 p ∧ p.length ≤ 1048576 := fun p hp => by
  unfold placesV at hp
  obtain ⟨f, _, rfl⟩ := List.mem_map.1 hp
  exact ⟨plV_msk _ _ _, by have := plV_len W rows f; omega⟩
set_option maxRecDepth 100000 in
set_option maxHeartbeats 3200000 in
theorem l22All_s (W : Int) (A B D : Option Addr) (n c q cb cd : Nat) (rows hint : List Int) (hs : List H) (P : List (List C)) (w : World) (hr : Rd w A (vI rows)) (hl : rows.length = n) (hv : isReg W rows = true) (hp : RdP w B q hs P) (hpc : pcs P = true) (hrd : Rd w D (vI hint)) (hll : hint.length = q) :
    Calls Tryz.prog 29 #[.agg #[.int .i64 W, .slice A n c], .slice B q cb, .slice D q cd] w (RetO2 w (puzV W rows P hint)) := by
  have hq5 := (pcs_small hpc).1
  rw [hp.flen] at hq5
  have htc := (pcs_small hpc).2
  have hsh := (pcs_atS hpc).2
  have hpa : paV P = ((totC P : Nat) : Int) := by unfold paV; rw [if_pos hpc]
  have HPA := Lib.hid hpa
  have HSH := Lib.hid hsh
  have HPC := Lib.hid hpc
  have HL := Lib.hid hl
  have HLL := Lib.hid hll
  have HV := Lib.hid hv
  have HPF := Lib.hid hp.flen
  have HR := Lib.hid (hr.alloc (.cells #[.int .i64 W, .slice A n c] 26))
  have HP := Lib.hid (hp.alloc (.cells #[.int .i64 W, .slice A n c] 26))
  have HRD := Lib.hid (hrd.alloc (.cells #[.int .i64 W, .slice A n c] 26))
  have HB1 := Lib.hid (Blk.new w 26 #[.int .i64 W, .slice A n c])
  have hbw1 : Below w.heap.size w (w.alloc (.cells #[.int .i64 W, .slice A n c] 26)) := bel_alloc (Below.refl _ _) _
  have hq1m : q ≤ 1048576 := by omega
  have htm : totC P ≤ 1048576 := by omega
  clear hl hr hv hp hsh hpc hpa hrd hll htc
  obtain ⟨ar, har⟩ : ∃ ar, areaV W rows = ar := ⟨_, rfl⟩
  obtain ⟨pa, hpa⟩ : ∃ pa, paV P = pa := ⟨_, rfl⟩
  have HAR := Lib.hid har
  have HPV := Lib.hid hpa
  have hdec : (pa != ar) = true ∧ puzV W rows P hint = [] ∨ (pa != ar) = false ∧ puzV W rows P hint = (solA (restP hint (placesV W rows P) 0) (maskV W rows)).take 300 := by
    unfold puzV restP
    rw [List.drop_zero, har, ← HPA.out, hpa]
    by_cases h : pa = ar
    · right; exact ⟨by simp [h], by rw [if_pos h]⟩
    · left; exact ⟨by simpa using h, by rw [if_neg h]⟩
  have hareg : ∀ w', Below (w.alloc (.cells #[.int .i64 W, .slice A n c] 26)).heap.size (w.alloc (.cells #[.int .i64 W, .slice A n c] 26)) w' → Calls Tryz.prog 50 #[.agg #[.int .i64 W, .slice A n c]] w' (Ret w' (.int .i64 ar)) := fun w' hb => HAR.out ▸ AreaOf_s W A n c rows w' (HR.out.below hb) HL.out
  have hpreg : ∀ w', Below (w.alloc (.cells #[.int .i64 W, .slice A n c] 26)).heap.size (w.alloc (.cells #[.int .i64 W, .slice A n c] 26)) w' → Calls Tryz.prog 23 #[.slice B q cb] w' (Ret w' (.int .i64 pa)) := fun w' hb => HPV.out ▸ PiecesArea_s B q cb hs P w' (HP.out.below hb) hq1m htm
  have HAC := Lib.hid hareg
  have HPCC := Lib.hid hpreg
  have hgw0 := HB1.out.lt
  have b00 : (w.alloc (.cells #[.int .i64 W, .slice A n c] 26)).cell? ⟨w.heap.size, 0, none⟩ = some (.int .i64 W) := by simp
  have b10 : (w.alloc (.cells #[.int .i64 W, .slice A n c] 26)).cell? ⟨w.heap.size, 1, none⟩ = some (.slice A n c) := by simp
  have HDEC := Lib.hid hdec
  clear hdec hareg hpreg har hpa
  obtain ⟨w0, hw0⟩ : ∃ w0, w.alloc (.cells #[.int .i64 W, .slice A n c] 26) = w0 := ⟨_, rfl⟩
  have HW0 := Lib.hid hw0
  rw [hw0] at HR HP HRD HB1 hbw1 HAC HPCC hgw0 b00 b10
  clear hw0
  go_enter Tryz.func29, Tryz.ntmps29
  go_wp2_with fail
  rw [HW0.out]
  (refine wp_region_below (by kernel_rfl) (by kernel_rfl) ?_; (repeat (first | go_big_quiet_skip | (refine quietV (v := ?_) (by rfl) rfl (fun w' hbw => ?_) ?_; rotate_left; ((try dsimp only at hbw); have hbc := (bcell hbw).1; have hbf := (bcell hbw).2; go_simp; first | done | with_reducible rfl | first | (with_reducible exact callsB (v := .int .i64 pa) (HPCC.out _ (by with_reducible assumption)) hbw) | (with_reducible exact callsB (v := .int .i64 ar) (HAC.out _ (by with_reducible assumption)) hbw)); simp only [List.setIfInBounds_toArray, List.set_cons_zero, List.set_cons_succ]))); refine wpQuiet_nil ?_; intro w1 hb1)
  have hb01 := bel_trans hbw1 hb1
  have HBX := Lib.hid (HB1.out.below hb1)
  have HR1 := Lib.hid (HR.out.below hb1)
  have HP1 := Lib.hid (HP.out.below hb1)
  have HRD1 := Lib.hid (HRD.out.below hb1)
  clear b00 b10 hgw0 hb1 hbw1 HB1 HR HP HRD HAC HPCC HW0
  rcases HDEC.out with ⟨hne, hv⟩ | ⟨hne, hv⟩
  · have HV2 := Lib.hid hv
    rw [hne]
    clear hv HDEC hne
    go_wp2_with fail
    go_ret
    exact ⟨_, _, _, [], rfl, by rw [HV2.out]; exact (Own2.none_ (own_new w1 24 1 0 #[] rfl (by simp [maxLen]) (base := w.heap.size) hb01.size)), bel_alloc hb01 _⟩
  · have HV2 := Lib.hid hv
    have HI0 : Hid (Own2 w1.heap.size (w1.alloc (.cells #[] 24)) (some ⟨w1.heap.size, 0, none⟩) 0 0 [] []) := Own2.none_ (own_new w1 24 1 0 #[] rfl (by simp [maxLen]) (Nat.le_refl _))
    have hgbx : w.heap.size < w1.heap.size := HBX.out.lt
    rw [hne]
    clear hv HDEC hne
    go_wp2_with fail
    go_loopw [8, 7] (fun e8 e7 wr => ∃ (i ci : Nat) (D1 : Option Addr) (h1 : List H), i ≤ q ∧ e8 = .int .i64 i ∧ e7 = .slice D1 i ci ∧ Own2 w1.heap.size wr D1 i ci h1 ((placesV W rows P).take i) ∧ Below w.heap.size w wr ∧ Below w1.heap.size w1 wr) (fun e8 _ _ => q - (intOf e8).toNat)
    case atStart => exact ⟨0, 0, _, [], Nat.zero_le _, rfl, rfl, by simpa using HI0.out, bel_alloc hb01 _, bel_alloc (Below.refl _ _) _⟩
    case round =>
      clear HI0
      obtain ⟨i, ci, D1, h1, hi, rfl, rfl, hO, hbw, hb1⟩ := hrel
      have HO := Lib.hid hO
      have hB := HBX.out.below hb1
      have b0 : wr.cell? ⟨w.heap.size, 0, none⟩ = some (.int .i64 W) := by simpa using hB.cell 0
      have b1 : wr.cell? ⟨w.heap.size, 1, none⟩ = some (.slice A n c) := by simpa using hB.cell 1
      have hgw := hB.lt
      clear hB hO
      by_cases hlt : i < q
      · have hi0 : (0 : Int) ≤ (i : Int) := by omega
        have hi1 : (i : Int) < (q : Int) := by omega
        obtain ⟨x, f, g, off, _, hfx, hBe, hg0, d0, l1, r1⟩ := (HP1.out.below hb1).at_ hlt
        have hfs := HSH.out f (List.mem_of_getElem? hfx)
        have hst := placesV_take (W := W) (rows := rows) hfx
        obtain ⟨C1, m1, k1⟩ := x
        have HFS := Lib.hid hfs
        have HRF := Lib.hid r1
        have HL1 := Lib.hid l1
        have HST := Lib.hid hst
        dsimp only at d0
        subst hBe
        have hg1 : g < w1.heap.size := by
          obtain ⟨x2, f2, g2, off2, _, _, hBe2, hg2, _⟩ := HP1.out.at_ hlt
          simp only [Option.some.injEq, Addr.mk.injEq, and_true] at hBe2
          obtain ⟨rfl, rfl⟩ := hBe2
          exact hg2
        have hgDb : ¬ (some g = ob D1) := fun e => by have h2 := (own_lt HO.out.own g e.symm).1; omega
        have hgDx : ¬ (some w.heap.size = ob D1) := fun e => by have h2 := (own_lt HO.out.own _ e.symm).1; omega
        clear hfx hst r1 l1 hfs
        go_wp2_with fail
        (refine wp_region_tailN (C := Gr wr D1) 6 (by kernel_rfl) (by kernel_rfl) (Gr.drawn _ _) (fun _ _ h k => h.ext k) ?_; simp only [List.take_succ_cons, List.take_zero, List.drop_succ_cons, List.drop_zero]; (repeat (first | (refine headSkip (by rfl) rfl ?_; simp only [List.setIfInBounds_toArray, List.set_cons_zero, List.set_cons_succ]) | (refine headV (v := ?_) (by rfl) rfl (fun w' hcw => ?_) ?_; rotate_left; ((try dsimp only at hcw); have hbc := hcw.cells; go_simp; first | done | with_reducible rfl | fail); simp only [List.setIfInBounds_toArray, List.set_cons_zero, List.set_cons_succ]))); unfold wpHead)
        refine tailK (by rfl) (fun u1 hc1 he1 K hK => ?_)
        go_simp
        refine (PlacementsOf_s W A C1 n c m1 k1 rows f _ (HR1.out.below (bel_trans hb1 he1)) HL.out HV.out (HRF.out.below he1) HL1.out HFS.out).mono ?_
        rintro e u2 ⟨gE, q2, c2, rfl, hOE, hbE⟩
        refine hK _ _ (hc1.ext hbE) ?_
        clear hK K
        (refine tailK (by rfl) (fun u3 hc3 he3 K hK => ?_); go_simp; refine hK _ _ (hc3.ext (by (repeat (first | with_reducible exact Below.refl _ _ | with_reducible assumption | with_reducible apply bel_alloc | with_reducible apply bel_drew | with_reducible apply bel_drewN | ((with_reducible refine bel_set ?_ ?_); rotate_left; (simp <;> omega)) | (with_reducible refine bel_trans ?_ (by with_reducible assumption)))))) ?_; clear hK K)
        refine tailK (by rfl) (fun u4 hc4 he4 K hK => ?_)
        have hw4 : Below wr.heap.size wr u4 := bel_trans (bel_alloc (bel_trans (bel_trans he1 hbE) he3) _) he4
        have hgE : wr.heap.size ≤ gE := by have h2 := (own_lt hOE gE rfl).1; have h3 := he1.size; omega
        have hE4 : u4.ownsRow w1.heap.size 3 1 (.slice (some ⟨gE, 0, none⟩) q2 c2) q2 (vI (plV W rows f)) := own_keep ((own_keep (own_mono2 hOE (by have h3 := he1.size; have h4 := hb1.size; omega)) he3).alloc _) he4
        refine wpS _ _ _ rfl w1.heap.size D1 i ci h1 rfl (own_keep HO.out.own hw4) _ 1 1 [(some ⟨gE, 0, none⟩, q2, c2)] rfl (Rd.below (rd_newS _ _ _) he4) rfl (by omega) (by have h3 := hw4.size; have h4 := hb1.size; omega) ?_
        intro A5 c5 u5 ho5 hg5 ha5
        have hP := Own2.push HO.out hE4 hgE hw4 ho5 hg5 ha5
        refine hK _ _ (Gr.trans hc4 hg5) ?_
        clear hK K
        simp only [Act.put, List.setIfInBounds_toArray, List.set_cons_zero, List.set_cons_succ]
        (refine tailK (by rfl) (fun u6 hc6 he6 K hK => ?_); go_simp; refine hK _ _ (hc6) ?_; clear hK K)
        (refine fun u7 hc7 he7 => NoPanic.normal ?_)
        have HP7 := Lib.hid ((hP.below he6).below he7)
        have hown := fun g (e : ob D1 = some g) => (own_lt HO.out.own g e).1
        have HB57 := Lib.hid (bel_trans (bel_trans (bel_app (bel_trans hb1 hw4) hg5 hown) he6) he7)
        have HB57w := Lib.hid (bel_trans (bel_trans (bel_app (bel_trans hbw hw4) hg5 (fun g e => by have h2 := hown g e; omega)) he6) he7)
        clear hP hown hE4 hgE hOE ho5 hg5 ha5 hw4 hc1 he1 hbE hc3 he3 hc4 he4 hc6 he6 hc7 he7 hbw hb1 d0 b0 b1 hgDb hgDx
        go_wp2_with fail
        exact ⟨⟨i + 1, c5, A5, _, by omega, by go_num, rfl, by rw [HST.out]; exact HP7.out, HB57w.out, HB57.out⟩, by simp [intOf]; omega⟩
      · obtain rfl : i = q := by omega
        have hi1 : ¬ (i : Int) < (i : Int) := by omega
        have hpl : (placesV W rows P).take i = placesV W rows P := List.take_of_length_le (by unfold placesV; rw [List.length_map, HPF.out]; exact Nat.le_refl _)
        have hM := mask62 W rows
        have HRO := Lib.hid (Rd2I.of_own (hpl ▸ HO.out))
        have HBW := Lib.hid hbw
        have HB1 := Lib.hid hb1
        have HMX := Lib.hid hM
        clear hpl hM
        go_wp2_with fail
        refine (MaskOf_s W A n c rows _ (HR1.out.below HB1.out) HL.out).mono ?_
        rintro e w3 ⟨rfl, hb3⟩
        have HB3 := Lib.hid hb3
        clear b0 b1 hb1 hbw hb3
        go_wp2_with fail
        have hS := l22Search_s hint (placesV W rows P) D1 D i ci cd h1 HLL.out (by omega) puz_most i 0 (by omega) (maskV W rows) 300 w3 (HRO.out.below HB3.out) ((HRD1.out.below HB1.out).below HB3.out) HMX.out (by omega) (by omega)
        refine Calls.mono hS ?_
        rintro e w4 ⟨E, u, cu, hE, rfl, hOE, hb4⟩
        have HOE := Lib.hid hOE
        have HB4 := Lib.hid hb4
        clear hS hOE hb4
        go_wp2_with fail
        go_ret
        exact ⟨_, _, _, _, rfl, by rw [HV2.out]; exact HOE.out.mono (by have h3 := HBW.out.size; have h4 := HB3.out.size; omega), bel_trans (bel_trans HBW.out HB3.out) HB4.out⟩
end Go.Proofs.YtcgjnonlndaoeaaGreat

/- Puzzles: the solutions of the program. -/
namespace Go.Proofs.YtcgjnonlndaoeaaGreat
open Go.RowKit
set_option linter.unusedVariables false
attribute [local go_sem ↓] Go.wp_at_zero Go.wp_at_succ
/-- One row more, in a block or in none. -/
theorem Own2.pushA {base : Nat} {w w3 : World} {B B' A1 : Option Addr} {n c c' nf cf : Nat} {hs : List H} {F : List (List Int)} {f : List Int}
    (h : Own2 base w B n c hs F) (hf : w.ownsRow base 3 1 (.slice A1 nf cf) nf (vI f)) (h1 : ∀ g, ob A1 = some g → ob B ≠ some g ∧ away hs g)
    (ho : w3.ownsRow base 24 1 (.slice B' (n + 1) c') (n + 1) (vS (hs ++ [(A1, nf, cf)]))) (hg : w.grownBy w3 (ob B)) (ha : ∀ g, ob B' = some g → ob B = some g ∨ w.heap.size ≤ g) :
    Own2 base w3 B' (n + 1) c' (hs ++ [(A1, nf, cf)]) (F ++ [f]) := by
  have hold : ∀ k (a : k < hs.length) g, ob hs[k].1 = some g → g < w.heap.size := fun k a g e => (own_lt (h.row k a (h.len ▸ a)) g e).2
  have hf1 := fun g e => (own_lt hf g e).2
  refine ⟨ho, by simp [h.len], fun k a b => ?_, fun g e => ?_, ?_⟩
  · by_cases hk : k < hs.length
    · have hk2 : k < F.length := h.len ▸ hk
      simp only [List.getElem_append_left hk, List.getElem_append_left hk2]
      exact own_kept (h.row k hk hk2) hg fun g e r => h.off g r _ (List.getElem_mem hk) e
    · have e : k = hs.length := by simp at a; omega
      subst e
      have e3 : (hs ++ [((A1, nf, cf) : H)])[hs.length]'a = (A1, nf, cf) := by simp
      have e4 : (F ++ [f])[hs.length]'b = f := by rw [List.getElem_append_right (Nat.le_of_eq h.len.symm)]; simp
      rw [e3, e4]
      exact own_kept hf hg fun g e r => (h1 g e).1 r
  · intro x hx
    rcases List.mem_append.1 hx with hx | hx
    · rcases ha g e with k1 | k1
      · exact h.off g k1 x hx
      · intro r
        obtain ⟨k, hk, rfl⟩ := List.mem_iff_getElem.1 hx
        have := hold k hk g r
        omega
    · simp only [List.mem_singleton] at hx
      subst hx
      intro r
      rcases ha _ e with k1 | k1
      · exact (h1 g r).1 k1
      · have := hf1 g r; omega
  · have hn1 : ∀ i (a : i < hs.length) g, ob hs[i].1 = some g → ob A1 ≠ some g := fun i a g e r => (h1 g r).2 _ (List.getElem_mem a) e
    intro i j a b hij g e
    by_cases hi : i < hs.length
    · by_cases hj : j < hs.length
      · simp only [List.getElem_append_left hi] at e
        simp only [List.getElem_append_left hj]
        exact h.sep i j hi hj hij g e
      · have ej : j = hs.length := by simp at b; omega
        subst ej
        simp only [List.getElem_append_left hi] at e
        simp only [List.getElem_append_right (Nat.le_refl _), Nat.sub_self, List.getElem_cons_zero]
        exact hn1 i hi g e
    · have ei : i = hs.length := by simp at a; omega
      subst ei
      have hj : j < hs.length := by simp at b; omega
      simp only [List.getElem_append_right (Nat.le_refl _), Nat.sub_self, List.getElem_cons_zero] at e
      simp only [List.getElem_append_left hj]
      exact fun r => hn1 j hj g r e
theorem zipP_take {hint : List Int} {W : Int} {rows : List Int} {P : List (List C)} {i : Nat} {f : List C} {h : Int} (hf : P[i]? = some f) (hh : hint[i]? = some h) : (List.zipWith hintP hint (placesV W rows P)).take (i + 1) = (List.zipWith hintP hint (placesV W rows P)).take i ++ [hintP h (plV W rows f)] := by
  obtain ⟨hi, hf⟩ := List.getElem?_eq_some_iff.1 hf
  obtain ⟨hj, hh⟩ := List.getElem?_eq_some_iff.1 hh
  rw [List.take_succ_eq_append_getElem (by simp [placesV]; omega)]
  congr 2
  simp [placesV, hf, hh]
theorem zipP_nil {hint : List Int} {W : Int} {rows : List Int} {P : List (List C)} {i : Nat} {f : List C} {h : Int} {free : Nat} (hf : P[i]? = some f) (hh : hint[i]? = some h) (he : hintP h (plV W rows f) = []) : solA (List.zipWith hintP hint (placesV W rows P)) free = [] := by
  refine sol_nil _ _ ?_
  have h2 := zipP_take (W := W) (rows := rows) hf hh
  rw [he] at h2
  exact List.mem_of_mem_take (h2 ▸ List.mem_append_right _ (List.mem_cons_self ..))
theorem mask36 (W : Int) (rows : List Int) : maskV W rows < 2 ^ 36 := by
  unfold maskV
  split
  · next hv =>
    obtain ⟨m, rfl, hm1, hm6, hn1, hn6, hrow⟩ := isReg_yes hv
    have h1 := mkTo_lt hrow rows.length (Nat.le_refl _)
    have h2 : rows.length * m ≤ 6 * 6 := Nat.mul_le_mul (by omega) hm6
    rw [Int.toNat_natCast]
    exact Nat.lt_of_lt_of_le h1 (Nat.pow_le_pow_right (by decide) (by omega))
  · decide
set_option maxRecDepth 100000 in
set_option maxHeartbeats 3200000 in
theorem solutions_i (W : Int) (A B D : Option Addr) (n c q cb kh cd : Nat) (rows hint : List Int) (hs : List H) (P : List (List C)) (w : World) (hr : Rd w A (vI rows)) (hl : rows.length = n) (hv : isReg W rows = true) (hp : RdP w B q hs P) (hpc : pcs P = true) (hrd : Rd w D (vI hint)) (hll : hint.length = kh) (hkh : kh = 0 ∨ kh = q) :
    Calls Tryz.prog 26 #[.agg #[.int .i64 W, .slice A n c], .slice B q cb, .slice D kh cd] w (RetO2 w (puzV W rows P (hint ++ List.replicate (q - kh) (-1)))) := by
  obtain ⟨hf, hhf⟩ : ∃ hf, hint ++ List.replicate (q - kh) (-1) = hf := ⟨_, rfl⟩
  have hfl : hf.length = q := by rw [← hhf]; simp; omega
  have hq5 := (pcs_small hpc).1
  rw [hp.flen] at hq5
  have htc := (pcs_small hpc).2
  have hsh := (pcs_at hpc).2
  have hq1 : 1 ≤ q := by
    have := hpc
    unfold pcs at this
    simp only [Bool.and_eq_true, decide_eq_true_eq] at this
    have h2 := hp.flen
    omega
  have hpa : paV P = ((totC P : Nat) : Int) := by unfold paV; rw [if_pos hpc]
  have HPA := Lib.hid hpa
  have HSH := Lib.hid hsh
  have HL := Lib.hid hl
  have HLL := Lib.hid hll
  have HHF := Lib.hid hhf
  have HFL := Lib.hid hfl
  have HV := Lib.hid hv
  have HPF := Lib.hid hp.flen
  have HR := Lib.hid hr
  have HP := Lib.hid hp
  have HRD := Lib.hid hrd
  have HKH := Lib.hid hkh
  rw [hhf]
  clear hl hr hv hp hsh hpc hpa hrd hll hhf hkh
  obtain ⟨ar, har⟩ : ∃ ar, areaV W rows = ar := ⟨_, rfl⟩
  obtain ⟨pa, hpa⟩ : ∃ pa, ((totC P : Nat) : Int) = pa := ⟨_, rfl⟩
  have HAR := Lib.hid har
  have HPV := Lib.hid hpa
  have hdec : (pa != ar) = true ∧ puzV W rows P hf = [] ∨ (pa != ar) = false ∧ puzV W rows P hf = (solA (List.zipWith hintP hf (placesV W rows P)) (maskV W rows)).take 300 := by
    unfold puzV
    rw [har, hpa]
    by_cases h : pa = ar
    · right; exact ⟨by simp [h], by rw [if_pos h]⟩
    · left; exact ⟨by simpa using h, by rw [if_neg h]⟩
  have hareg : ∀ w', Below w.heap.size w w' → Calls Tryz.prog 45 #[.agg #[.int .i64 W, .slice A n c]] w' (Ret w' (.int .i64 ar)) := fun w' hb => HAR.out ▸ AreaOf_i W A n c rows w' (HR.out.below hb) HL.out
  have hpreg : ∀ w', Below w.heap.size w w' → Calls Tryz.prog 42 #[.slice B q cb] w' (Ret w' (.int .i64 pa)) := fun w' hb => HPV.out ▸ area_i B q cb hs P w' (HP.out.below hb) hq5 htc
  have HAC := Lib.hid hareg
  have HPCC := Lib.hid hpreg
  have HDEC := Lib.hid hdec
  clear hdec hareg hpreg har hpa
  have hb0 := Blk.new w 26 #[.int .i64 W, .slice A n c]
  have hb1 := Blk.new (w.alloc (.cells #[.int .i64 W, .slice A n c] 26)) 30 #[.slice none 0 0]
  rw [show (w.alloc (.cells #[.int .i64 W, .slice A n c] 26)).heap.size = w.heap.size + 1 from by simp] at hb1
  have hb0' := hb0.alloc (.cells #[.slice none 0 0] 30)
  have hbw := bel_alloc (bel_alloc (Below.refl w.heap.size w) (.cells #[.int .i64 W, .slice A n c] 26)) (.cells #[.slice none 0 0] 30)
  obtain ⟨w0, hw0⟩ : ∃ w0, (w.alloc (.cells #[.int .i64 W, .slice A n c] 26)).alloc (.cells #[.slice none 0 0] 30) = w0 := ⟨_, rfl⟩
  have HW0 := Lib.hid hw0
  have hs0 : w.heap.size + 2 = w0.heap.size := by rw [← hw0]; simp
  rw [hw0] at hb1 hb0' hbw
  have b00 : w0.cell? ⟨w.heap.size, 0, none⟩ = some (.int .i64 W) := by simpa using hb0'.cell 0
  have b10 : w0.cell? ⟨w.heap.size, 1, none⟩ = some (.slice A n c) := by simpa using hb0'.cell 1
  have hgw0 := hb0'.lt
  have HB0 := Lib.hid hb0'
  have HB1 := Lib.hid hb1
  have HS0 := Lib.hid hs0
  clear hw0 hb0 hb0' hb1 hs0 hfl
  go_enter Tryz.func26, Tryz.ntmps26
  go_wp2_with fail
  rw [HW0.out]
  have HBW := Lib.hid hbw
  clear HW0 hbw
  (refine wp_region_below (by kernel_rfl) (by kernel_rfl) ?_; (repeat (first | go_big_quiet_skip | (refine quietV (v := ?_) (by rfl) rfl (fun w' hbw => ?_) ?_; rotate_left; ((try dsimp only at hbw); have hbc := (bcell hbw).1; have hbf := (bcell hbw).2; go_simp; first | done | with_reducible rfl | first | (with_reducible exact callsB (v := .int .i64 pa) (HPCC.out _ (bel_trans HBW.out (by with_reducible assumption))) hbw) | (with_reducible exact callsB (v := .int .i64 ar) (HAC.out _ (bel_trans HBW.out (by with_reducible assumption))) hbw)); simp only [List.setIfInBounds_toArray, List.set_cons_zero, List.set_cons_succ]))); refine wpQuiet_nil ?_; intro w1 hb1)
  have HBX := Lib.hid (HB1.out.below hb1)
  have HBR := Lib.hid (HB0.out.below hb1)
  have HBW1 := Lib.hid (bel_trans HBW.out hb1)
  clear b00 b10 hgw0 HB0 HB1 HBW HAC HPCC
  rcases HDEC.out with ⟨hne, hv⟩ | ⟨hne, hv⟩
  · have HV2 := Lib.hid hv
    rw [hne]
    clear hv HDEC hne hb1
    go_wp2_with fail
    go_ret
    exact ⟨none, 0, 0, [], rfl, by rw [HV2.out]; exact Own2.nil _ _, HBW1.out⟩
  · have HV2 := Lib.hid hv
    rw [hne]
    clear hv HDEC hne
    go_wp2_with fail
    obtain ⟨Z, hZ⟩ : ∃ Z, List.zipWith hintP hf (placesV W rows P) = Z := ⟨_, rfl⟩
    have HZ := Lib.hid hZ
    have hZl : Z.length = q := by rw [← hZ]; simp [placesV, HFL.out, HPF.out]
    have HZL := Lib.hid hZl
    have hgp := Blk.new w1 63 #[.slice none 0 0, .func (.func 46) #[] #[.pointer (some ⟨w.heap.size + 1, 0, none⟩)]]
    have hx2 := HBX.out.alloc (.cells #[.slice none 0 0, .func (.func 46) #[] #[.pointer (some ⟨w.heap.size + 1, 0, none⟩)]] 63)
    have hr2 := HBR.out.alloc (.cells #[.slice none 0 0, .func (.func 46) #[] #[.pointer (some ⟨w.heap.size + 1, 0, none⟩)]] 63)
    have hw2 := bel_alloc HBW1.out (.cells #[.slice none 0 0, .func (.func 46) #[] #[.pointer (some ⟨w.heap.size + 1, 0, none⟩)]] 63)
    obtain ⟨gp, hgpe⟩ : ∃ gp, w1.heap.size = gp := ⟨_, rfl⟩
    have hgp1 : w.heap.size + 1 < gp := by rw [← hgpe]; exact HBX.out.lt
    rw [hgpe] at hgp ⊢
    obtain ⟨w2, hw2e⟩ : ∃ w2, w1.alloc (.cells #[.slice none 0 0, .func (.func 46) #[] #[.pointer (some ⟨w.heap.size + 1, 0, none⟩)]] 63) = w2 := ⟨_, rfl⟩
    have hgb : gp < w2.heap.size := by rw [← hw2e, ← hgpe]; simp
    rw [hw2e] at hgp hx2 hr2 hw2 ⊢
    have HGB := Lib.hid hgb
    have HGP := Lib.hid hgp
    have HX2 := Lib.hid hx2
    have HR2 := Lib.hid hr2
    have HW2 := Lib.hid hw2
    clear hw2e hgpe hgp hx2 hr2 hw2 hZ hZl hb1 HBX HBR HBW1 hgb
    go_loopw [21] (fun e21 wr => ∃ (i ci : Nat) (D1 : Option Addr) (h1 : List H), i ≤ q ∧ e21 = .int .i64 i ∧ Blk wr gp 63 #[.slice D1 i ci, .func (.func 46) #[] #[.pointer (some ⟨w.heap.size + 1, 0, none⟩)]] ∧ Own2 w2.heap.size wr D1 i ci h1 (Z.take i) ∧ Blk wr (w.heap.size + 1) 30 #[.slice none 0 0] ∧ Blk wr w.heap.size 26 #[.int .i64 W, .slice A n c] ∧ Below w.heap.size w wr ∧ w2.heap.size ≤ wr.heap.size) (fun e21 _ => q - (intOf e21).toNat)
    case atStart => exact ⟨0, 0, none, [], Nat.zero_le _, rfl, HGP.out, Own2.nil _ _, HX2.out, HR2.out, HW2.out, Nat.le_refl _⟩
    case round =>
      clear HGP HX2 HR2 HW2
      obtain ⟨i, ci, D1, h1, hi, rfl, hgp, hO, hbx, hbr, hbw, hsz⟩ := hrel
      have hDG : ∀ g, ob D1 = some g → ¬ g < w2.heap.size := fun g hg hl => by have h3 := (own_lt hO.own g hg).1; omega
      have HDG := Lib.hid hDG
      have HGP := Lib.hid hgp
      have HO := Lib.hid hO
      have HBX := Lib.hid hbx
      have HBR := Lib.hid hbr
      have HBW1 := Lib.hid hbw
      have HSZ := Lib.hid hsz
      have b0 : wr.cell? ⟨w.heap.size, 0, none⟩ = some (.int .i64 W) := by simpa using hbr.cell 0
      have b1 : wr.cell? ⟨w.heap.size, 1, none⟩ = some (.slice A n c) := by simpa using hbr.cell 1
      have hgw := hbr.lt
      clear hgp hO hbx hbr hbw hsz hDG
      by_cases hlt : i < q
      · have hi0 : (0 : Int) ≤ (i : Int) := by omega
        have hi1 : (i : Int) < (q : Int) := by omega
        obtain ⟨x, f, g, off, _, hfx, hBe, hg0, d0, l1, r1⟩ := (HP.out.below HBW1.out).at_ hlt
        have hfs := HSH.out f (List.mem_of_getElem? hfx)
        have hif : i < hf.length := by rw [HFL.out]; exact hlt
        obtain ⟨h, hh⟩ : ∃ h, hf[i]? = some h := ⟨hf[i], List.getElem?_eq_getElem hif⟩
        have hst : Z.take (i + 1) = Z.take i ++ [hintP h (plV W rows f)] := by rw [← HZ.out]; exact zipP_take hfx hh
        have hnil : hintP h (plV W rows f) = [] → puzV W rows P hf = [] := fun e => by
          rw [HV2.out, zipP_nil hfx hh e]
          rfl
        obtain ⟨C1, m1, k1⟩ := x
        have HFS := Lib.hid hfs
        have HRF := Lib.hid r1
        have HL1 := Lib.hid l1
        have HST := Lib.hid hst
        have HNI := Lib.hid hnil
        dsimp only at d0
        subst hBe
        clear hfx hst hnil r1 l1 hfs hif
        go_wp2_with fail
        refine (placements_i W A C1 n c m1 k1 rows f _ (HR.out.below HBW1.out) HL.out HV.out HRF.out HL1.out HFS.out).mono ?_
        rintro e u2 ⟨E, q2, c2, rfl, hOE, hbE⟩
        have hq2 : (plV W rows f).length = q2 := by have h3 := own_len hOE; rw [vI_length] at h3; omega
        have HQ2 := Lib.hid hq2
        have HEG : Hid (∀ g, ob E = some g → wr.heap.size ≤ g) := fun g hg => (own_lt hOE g hg).1
        have HOE : Hid (u2.ownsRow w2.heap.size 3 1 (.slice E q2 c2) q2 (vI (plV W rows f))) := own_mono2 hOE HSZ.out
        have HWU := Lib.hid hbE
        have hpl := plV_len W rows f
        have hq3 : q2 ≤ 288 := by omega
        clear hOE hbE hq2 hpl d0 hg0
        by_cases hik : i < kh
        · have hik1 : (i : Int) < (kh : Int) := by omega
          have hkq : kh = q := by rcases HKH.out with e | e <;> omega
          have hhi : hint[i]? = some h := by
            have h3 := HHF.out
            rw [← h3, List.getElem?_append_left (by rw [HLL.out]; exact hik)] at hh
            exact hh
          obtain ⟨hil, hhe⟩ := List.getElem?_eq_some_iff.1 hhi
          obtain ⟨gH, oH, hDe, hgH, dH⟩ := RdI.at_ ((HRD.out.below HBW1.out).below HWU.out) hil
          rw [hhe] at dH
          have HHH := Lib.hid hh
          subst hDe
          clear hkq hhi hil hhe hh
          by_cases h0 : h ≥ 0
          · cases hany : (plV W rows f).any (· == h) with
            | false =>
              have HN := Lib.hid (HNI.out (hintP_none h0 hany))
              have HANY := Lib.hid hany
              clear hany
              go_wp2_with fail
              refine (hasInt_i E q2 c2 (plV W rows f) h _ (Rd.of_own HOE.out) HQ2.out (by omega)).mono ?_
              rw [HANY.out]
              rintro e u4 ⟨rfl, hb4⟩
              go_wp2_with fail
              go_ret
              exact ⟨none, 0, 0, [], rfl, by rw [HN.out]; exact Own2.nil _ _, bel_trans (bel_trans HBW1.out HWU.out) hb4⟩
            | true =>
              have hone := hintP_one h0 (plV_inc W rows f) hany
              rw [hone] at HST
              have HANY := Lib.hid hany
              clear hany hone HNI
              go_wp2_with fail
              refine (hasInt_i E q2 c2 (plV W rows f) h _ (Rd.of_own HOE.out) HQ2.out (by omega)).mono ?_
              rw [HANY.out]
              rintro e u4 ⟨rfl, hb4⟩
              have hlit := own_new u4 3 1 1 #[.int .i64 h] rfl (by simp [maxLen]) (base := w2.heap.size) (by have h3 := hb4.size; have h4 := HWU.out.size; have h5 := HSZ.out; omega)
              have hsz4 : wr.heap.size ≤ u4.heap.size := by have h3 := hb4.size; have h4 := HWU.out.size; omega
              have hwu4 := bel_alloc (bel_trans HWU.out hb4) (.cells #[.int .i64 h] 3)
              have dH4 := keep_below hb4 dH
              have hgH4 : gH < u4.heap.size := Nat.lt_of_lt_of_le hgH hb4.size
              obtain ⟨u5, hu5⟩ : ∃ u5, u4.alloc (.cells #[.int .i64 h] 3) = u5 := ⟨_, rfl⟩
              rw [hu5] at hlit hwu4
              obtain ⟨g4, hg4⟩ : ∃ g4, u4.heap.size = g4 := ⟨_, rfl⟩
              rw [hg4] at hlit hsz4
              have HU5 := Lib.hid hu5
              have HG4 := Lib.hid hg4
              clear HOE HEG HWU dH hgH
              have HWU := Lib.hid hwu4
              have HOE : Hid (u5.ownsRow w2.heap.size 3 1 (.slice (some ⟨g4, 0, none⟩) 1 1) 1 (vI [h])) := hlit
              have HEG : Hid (∀ g, ob (some (⟨g4, 0, none⟩ : Addr)) = some g → wr.heap.size ≤ g) := fun g hg => by
                simp only [ob, Option.map_some, Option.some.injEq] at hg
                omega
              clear hlit hwu4 hsz4 hu5 hg4 hb4
              go_upto_region 13 with fail
              rw [HU5.out, HG4.out]
              clear dH4 hgH4 HU5 HG4
              have HB5 := Lib.hid (HGP.out.below HWU.out)
              have d5 : u5.cell? ⟨gp, 0, none⟩ = some (.slice D1 i ci) := by simpa using HB5.out.cell 0
              have l5 : gp < u5.heap.size := HB5.out.lt
              have f5 : u5.frozen? ⟨gp, 0, none⟩ = false := HB5.out.frozen 0
              clear b0 b1 hgw
              go_wp2_with (at_builtin; go_must (refine app_S _ rfl _ _ rfl w2.heap.size _ _ _ h1 rfl ((HO.out.below HWU.out).own.alloc _) _ _ _ [((some ⟨g4, 0, none⟩), 1, 1)] rfl (rd_newS _ _ _) rfl (by omega) (by have h3 := HWU.out.size; have h4 := HSZ.out; simp; omega) ?_); intro D6 c6 w6 ho6 hg6 hat6; have HO6 := Lib.hid ho6; have HG6 := Lib.hid hg6; have HAT6 := Lib.hid hat6; clear ho6 hg6 hat6; have HB6 := Lib.hid ((HB5.out.alloc (.cells #[.slice (some ⟨g4, 0, none⟩) 1 1] 24)).grown HG6.out (fun e => HDG.out gp e.symm HGB.out)); have d6 : w6.cell? ⟨gp, 0, none⟩ = some (.slice D1 i ci) := (by simpa using HB6.out.cell 0); have f6 : w6.frozen? ⟨gp, 0, none⟩ = false := HB6.out.frozen 0; have l6 : gp < w6.heap.size := HB6.out.lt)
              have hg2 : u5.grownBy w6 (ob D1) := ⟨HG6.out.os, HG6.out.tape, HG6.out.output, by have h3 := HG6.out.size; simp at h3; omega, fun k hk hn => (HG6.out.block k (by simp; omega) hn).trans (Below.heap_alloc u5 _ k hk)⟩
              have hP := Own2.pushA (HO.out.below HWU.out) HOE.out (fun g hg => ⟨fun r => by have h3 := (own_lt HO.out.own g r).2; have h4 := HEG.out g hg; omega, fun x hx r => by
                obtain ⟨t, ht, rfl⟩ := List.mem_iff_getElem.1 hx
                have h3 := (own_lt (HO.out.row t ht (HO.out.len ▸ ht)) _ r).2
                have h4 := HEG.out g hg
                omega⟩) HO6.out hg2 (fun g hg => by
                  rcases HAT6.out with e | e
                  · exact .inl (e ▸ hg)
                  · rw [e] at hg
                    injection hg with hg
                    rw [World.size_alloc] at hg
                    exact .inr (by omega))
              have hP2 := hP.set_far (b := gp) (.slice D6 (i + 1) c6) HGB.out
              rw [← HST.out] at hP2
              have hC6 : Blk (w6.setCell ⟨gp, 0, none⟩ (.slice D6 (i + 1) c6)) gp 63 #[.slice D6 (i + 1) c6, .func (.func 46) #[] #[.pointer (some ⟨w.heap.size + 1, 0, none⟩)]] := HB6.out.set_ 0 _
              have hX6 := (((HBX.out.below HWU.out).grown hg2 (fun e => HDG.out _ e.symm (by have h9 := HGB.out; omega))).far (p := ⟨gp, 0, none⟩) (by show w.heap.size + 1 ≠ gp; omega) (.slice D6 (i + 1) c6))
              have hR6 := (((HBR.out.below HWU.out).grown hg2 (fun e => HDG.out _ e.symm (by have h9 := HGB.out; omega))).far (p := ⟨gp, 0, none⟩) (by show w.heap.size ≠ gp; omega) (.slice D6 (i + 1) c6))
              have hW6 : Below w.heap.size w (w6.setCell ⟨gp, 0, none⟩ (.slice D6 (i + 1) c6)) := bel_set (bel_grown (bel_trans HBW1.out HWU.out) hg2 (fun g hg => by have h3 := (own_lt HO.out.own g hg).1; have h9 := HGB.out; omega)) (by show w.heap.size ≤ gp; omega)
              exact ⟨⟨i + 1, c6, D6, _, by omega, by go_num, hC6, hP2, hX6, hR6, hW6, by have h3 := HSZ.out; have h4 := HWU.out.size; have h5 := hg2.size; simp; omega⟩, by simp [intOf]; omega⟩
          · have hfree := hintP_free (h := h) (p := plV W rows f) (by omega)
            rw [hfree] at HST
            clear hfree HNI
            have HB5 := Lib.hid (HGP.out.below HWU.out)
            have d5 : u2.cell? ⟨gp, 0, none⟩ = some (.slice D1 i ci) := by simpa using HB5.out.cell 0
            have l5 : gp < u2.heap.size := HB5.out.lt
            have f5 : u2.frozen? ⟨gp, 0, none⟩ = false := HB5.out.frozen 0
            clear b0 b1 hgw
            go_wp2_with (at_builtin; go_must (refine app_S _ rfl _ _ rfl w2.heap.size _ _ _ h1 rfl ((HO.out.below HWU.out).own.alloc _) _ _ _ [(E, q2, c2)] rfl (rd_newS _ _ _) rfl (by omega) (by have h3 := HWU.out.size; have h4 := HSZ.out; simp; omega) ?_); intro D6 c6 w6 ho6 hg6 hat6; have HO6 := Lib.hid ho6; have HG6 := Lib.hid hg6; have HAT6 := Lib.hid hat6; clear ho6 hg6 hat6; have HB6 := Lib.hid ((HB5.out.alloc (.cells #[.slice E q2 c2] 24)).grown HG6.out (fun e => HDG.out gp e.symm HGB.out)); have d6 : w6.cell? ⟨gp, 0, none⟩ = some (.slice D1 i ci) := (by simpa using HB6.out.cell 0); have f6 : w6.frozen? ⟨gp, 0, none⟩ = false := HB6.out.frozen 0; have l6 : gp < w6.heap.size := HB6.out.lt)
            have hg2 : u2.grownBy w6 (ob D1) := ⟨HG6.out.os, HG6.out.tape, HG6.out.output, by have h3 := HG6.out.size; simp at h3; omega, fun k hk hn => (HG6.out.block k (by simp; omega) hn).trans (Below.heap_alloc u2 _ k hk)⟩
            have hP := Own2.pushA (HO.out.below HWU.out) HOE.out (fun g hg => ⟨fun r => by have h3 := (own_lt HO.out.own g r).2; have h4 := HEG.out g hg; omega, fun x hx r => by
              obtain ⟨t, ht, rfl⟩ := List.mem_iff_getElem.1 hx
              have h3 := (own_lt (HO.out.row t ht (HO.out.len ▸ ht)) _ r).2
              have h4 := HEG.out g hg
              omega⟩) HO6.out hg2 (fun g hg => by
                rcases HAT6.out with e | e
                · exact .inl (e ▸ hg)
                · rw [e] at hg
                  injection hg with hg
                  rw [World.size_alloc] at hg
                  exact .inr (by omega))
            have hP2 := hP.set_far (b := gp) (.slice D6 (i + 1) c6) HGB.out
            rw [← HST.out] at hP2
            have hC6 : Blk (w6.setCell ⟨gp, 0, none⟩ (.slice D6 (i + 1) c6)) gp 63 #[.slice D6 (i + 1) c6, .func (.func 46) #[] #[.pointer (some ⟨w.heap.size + 1, 0, none⟩)]] := HB6.out.set_ 0 _
            have hX6 := (((HBX.out.below HWU.out).grown hg2 (fun e => HDG.out _ e.symm (by have h9 := HGB.out; omega))).far (p := ⟨gp, 0, none⟩) (by show w.heap.size + 1 ≠ gp; omega) (.slice D6 (i + 1) c6))
            have hR6 := (((HBR.out.below HWU.out).grown hg2 (fun e => HDG.out _ e.symm (by have h9 := HGB.out; omega))).far (p := ⟨gp, 0, none⟩) (by show w.heap.size ≠ gp; omega) (.slice D6 (i + 1) c6))
            have hW6 : Below w.heap.size w (w6.setCell ⟨gp, 0, none⟩ (.slice D6 (i + 1) c6)) := bel_set (bel_grown (bel_trans HBW1.out HWU.out) hg2 (fun g hg => by have h3 := (own_lt HO.out.own g hg).1; have h9 := HGB.out; omega)) (by show w.heap.size ≤ gp; omega)
            exact ⟨⟨i + 1, c6, D6, _, by omega, by go_num, hC6, hP2, hX6, hR6, hW6, by have h3 := HSZ.out; have h4 := HWU.out.size; have h5 := hg2.size; simp; omega⟩, by simp [intOf]; omega⟩
        · have hik1 : ¬ (i : Int) < (kh : Int) := by omega
          have hfree : hintP h (plV W rows f) = plV W rows f := by
            refine hintP_free ?_
            have h3 := HHF.out
            rw [← h3, List.getElem?_append_right (by rw [HLL.out]; omega)] at hh
            obtain ⟨hj, hje⟩ := List.getElem?_eq_some_iff.1 hh
            rw [List.getElem_replicate] at hje
            omega
          rw [hfree] at HST
          clear hfree HNI hh
          have HB5 := Lib.hid (HGP.out.below HWU.out)
          have d5 : u2.cell? ⟨gp, 0, none⟩ = some (.slice D1 i ci) := by simpa using HB5.out.cell 0
          have l5 : gp < u2.heap.size := HB5.out.lt
          have f5 : u2.frozen? ⟨gp, 0, none⟩ = false := HB5.out.frozen 0
          clear b0 b1 hgw
          go_wp2_with (at_builtin; go_must (refine app_S _ rfl _ _ rfl w2.heap.size _ _ _ h1 rfl ((HO.out.below HWU.out).own.alloc _) _ _ _ [(E, q2, c2)] rfl (rd_newS _ _ _) rfl (by omega) (by have h3 := HWU.out.size; have h4 := HSZ.out; simp; omega) ?_); intro D6 c6 w6 ho6 hg6 hat6; have HO6 := Lib.hid ho6; have HG6 := Lib.hid hg6; have HAT6 := Lib.hid hat6; clear ho6 hg6 hat6; have HB6 := Lib.hid ((HB5.out.alloc (.cells #[.slice E q2 c2] 24)).grown HG6.out (fun e => HDG.out gp e.symm HGB.out)); have d6 : w6.cell? ⟨gp, 0, none⟩ = some (.slice D1 i ci) := (by simpa using HB6.out.cell 0); have f6 : w6.frozen? ⟨gp, 0, none⟩ = false := HB6.out.frozen 0; have l6 : gp < w6.heap.size := HB6.out.lt)
          have hg2 : u2.grownBy w6 (ob D1) := ⟨HG6.out.os, HG6.out.tape, HG6.out.output, by have h3 := HG6.out.size; simp at h3; omega, fun k hk hn => (HG6.out.block k (by simp; omega) hn).trans (Below.heap_alloc u2 _ k hk)⟩
          have hP := Own2.pushA (HO.out.below HWU.out) HOE.out (fun g hg => ⟨fun r => by have h3 := (own_lt HO.out.own g r).2; have h4 := HEG.out g hg; omega, fun x hx r => by
            obtain ⟨t, ht, rfl⟩ := List.mem_iff_getElem.1 hx
            have h3 := (own_lt (HO.out.row t ht (HO.out.len ▸ ht)) _ r).2
            have h4 := HEG.out g hg
            omega⟩) HO6.out hg2 (fun g hg => by
              rcases HAT6.out with e | e
              · exact .inl (e ▸ hg)
              · rw [e] at hg
                injection hg with hg
                rw [World.size_alloc] at hg
                exact .inr (by omega))
          have hP2 := hP.set_far (b := gp) (.slice D6 (i + 1) c6) HGB.out
          rw [← HST.out] at hP2
          have hC6 : Blk (w6.setCell ⟨gp, 0, none⟩ (.slice D6 (i + 1) c6)) gp 63 #[.slice D6 (i + 1) c6, .func (.func 46) #[] #[.pointer (some ⟨w.heap.size + 1, 0, none⟩)]] := HB6.out.set_ 0 _
          have hX6 := (((HBX.out.below HWU.out).grown hg2 (fun e => HDG.out _ e.symm (by have h9 := HGB.out; omega))).far (p := ⟨gp, 0, none⟩) (by show w.heap.size + 1 ≠ gp; omega) (.slice D6 (i + 1) c6))
          have hR6 := (((HBR.out.below HWU.out).grown hg2 (fun e => HDG.out _ e.symm (by have h9 := HGB.out; omega))).far (p := ⟨gp, 0, none⟩) (by show w.heap.size ≠ gp; omega) (.slice D6 (i + 1) c6))
          have hW6 : Below w.heap.size w (w6.setCell ⟨gp, 0, none⟩ (.slice D6 (i + 1) c6)) := bel_set (bel_grown (bel_trans HBW1.out HWU.out) hg2 (fun g hg => by have h3 := (own_lt HO.out.own g hg).1; have h9 := HGB.out; omega)) (by show w.heap.size ≤ gp; omega)
          exact ⟨⟨i + 1, c6, D6, _, by omega, by go_num, hC6, hP2, hX6, hR6, hW6, by have h3 := HSZ.out; have h4 := HWU.out.size; have h5 := hg2.size; simp; omega⟩, by simp [intOf]; omega⟩
      · obtain rfl : i = q := by omega
        have hi1 : ¬ (i : Int) < (i : Int) := by omega
        have hZt : Z.take i = Z := List.take_of_length_le (by rw [HZL.out]; exact Nat.le_refl _)
        rw [hZt] at HO
        have hcap : i ≤ ci := by
          rcases HO.out.own.2 with ⟨_, h3⟩ | ⟨g, cap, cur, hv3, _, _, h3, _⟩
          · omega
          · injection hv3 with _ _ h4
            omega
        have hF : ∀ p ∈ Z, Msk 36 p ∧ p.length ≤ 1048576 := fun p hp => by
          rw [← HZ.out] at hp
          obtain ⟨t, ht, rfl⟩ := List.mem_iff_getElem.1 hp
          rw [List.getElem_zipWith]
          obtain ⟨h4, h5⟩ := puz_most (W := W) (rows := rows) (P := P) _ (List.getElem_mem (show t < (placesV W rows P).length by rw [List.length_zipWith] at ht; omega))
          exact ⟨hintP_msk h4, Nat.le_trans hintP_len h5⟩
        go_wp2_with fail
        refine (mask_i W A n c rows _ (HR.out.below HBW1.out) HL.out HV.out).mono ?_
        rintro e w5 ⟨rfl, hb5⟩
        have hsz5 := hb5.size
        have hok : PzOk w5.heap.size (w.heap.size + 1) gp i ci D1 h1 Z w5 := by
          have h9 := HGB.out
          have h8 := HSZ.out
          refine ⟨HGP.out.below hb5, (Rd2I.of_own HO.out).below hb5, ⟨by omega, by omega⟩, by omega, fun g hg => ?_, fun x hx g hg => ?_⟩
          · have h3 := own_lt HO.out.own g hg
            omega
          · obtain ⟨t, ht, rfl⟩ := List.mem_iff_getElem.1 hx
            have h3 := own_lt (HO.out.row t ht (HO.out.len ▸ ht)) g hg
            omega
        have hS := solve_i w5.heap.size (w.heap.size + 1) gp i ci D1 h1 Z hq1 hq5 hcap hF i 0 (by omega) (maskV W rows) none 0 [] none 0 0 [] [] w5 (mask36 W rows) (own_nil _ _ _ _) (fun g hg => by simp [ob] at hg) hok (HBX.out.below hb5) (Own2.nil _ _) (by omega) (Nat.le_refl _)
        rw [List.drop_zero, show ([] : List (List Int)) ++ preM [] (solA Z (maskV W rows)) = solA Z (maskV W rows) from by simp [preM], ← HZ.out, ← HV2.out] at hS
        obtain ⟨G, hG⟩ : ∃ G, puzV W rows P hf = G := ⟨_, rfl⟩
        have hbw5 := bel_trans HBW1.out hb5
        have HB5 := Lib.hid hbw5
        rw [hG] at hS
        have HS := Lib.hid hS
        have HG := Lib.hid hG
        clear hS hok hbw5 hb5 b0 b1 hgw hF hcap hZt hG hsz5
        go_wp2_with fail
        refine Calls.mono HS.out ?_
        rintro e w6 ⟨rfl, o6, co6, ho6, hbx6, hO6, hfr6⟩
        have c6 : w6.cell? ⟨w.heap.size + 1, 0, none⟩ = some (.slice o6 G.length co6) := by simpa using hbx6.cell 0
        have l6 := hbx6.lt
        have HO6 := Lib.hid hO6
        have HFR6 := Lib.hid hfr6
        clear hbx6 hO6 hfr6 HS
        go_wp2_with fail
        go_ret
        exact ⟨_, _, _, _, rfl, by rw [HG.out]; exact HO6.out.mono HB5.out.size, ⟨HFR6.out.os.trans HB5.out.os, HFR6.out.tape.trans HB5.out.tape, HFR6.out.output.trans HB5.out.output, Nat.le_trans HB5.out.size HFR6.out.size, fun k hk => (HFR6.out.block k (Nat.lt_of_lt_of_le hk HB5.out.size) (by omega) (by simp [ob])).trans (HB5.out.block k hk)⟩⟩
end Go.Proofs.YtcgjnonlndaoeaaGreat

/- Puzzles: solutions, how many, with a hint: both sides. -/
namespace Go.Proofs.YtcgjnonlndaoeaaGreat
open Go.RowKit
set_option linter.unusedVariables false
attribute [local go_sem ↓] Go.wp_at_zero Go.wp_at_succ
theorem puz_reg {W : Int} {rows : List Int} {P : List (List C)} (h : (isReg W rows && pcs P) = true) : isReg W rows = true ∧ pcs P = true := by rwa [Bool.and_eq_true] at h
/-- How many solutions agree with a hint. -/
def cwhV (W : Int) (rows : List Int) (P : List (List C)) (hint : List Int) : Int := if ((isReg W rows && pcs P) && hint.length == P.length) = true then ((puzV W rows P hint).length : Nat) else -1
/-- The solutions of a puzzle. -/
def psV (W : Int) (rows : List Int) (P : List (List C)) : List (List Int) := if (isReg W rows && pcs P) = true then puzV W rows P (List.replicate P.length (-1)) else []
def csV (W : Int) (rows : List Int) (P : List (List C)) : Int := if (isReg W rows && pcs P) = true then ((psV W rows P).length : Nat) else -1
theorem psV_len (W : Int) (rows : List Int) (P : List (List C)) : (psV W rows P).length ≤ 300 := by
  unfold psV
  split
  · exact puzV_len _ _ _ _
  · simp
theorem total_bound {m : Nat} : ∀ F : List (List Int), (∀ f ∈ F, f.length ≤ m) → total F ≤ F.length * m
  | [], _ => by simp [total]
  | f :: t, h => by
    have h1 := total_bound t fun g hg => h g (List.mem_cons_of_mem _ hg)
    have h2 := h f (List.mem_cons_self ..)
    rw [show total (f :: t) = f.length + total t from by simp [total], List.length_cons, Nat.succ_mul]
    omega
theorem psV_tot (W : Int) (rows : List Int) (P : List (List C)) : total (psV W rows P) ≤ 1500 := by
  by_cases h : (isReg W rows && pcs P) = true
  · have hq := (pcs_small (puz_reg h).2).1
    have hl := psV_len W rows P
    have h1 := total_bound (m := 5) (psV W rows P) (fun f hf => by
      unfold psV at hf
      rw [if_pos h] at hf
      unfold puzV at hf
      split at hf
      · rw [sol_len _ _ f (List.mem_of_mem_take hf), List.length_zipWith, List.length_replicate]
        omega
      · simp at hf)
    have h2 : (psV W rows P).length * 5 ≤ 300 * 5 := Nat.mul_le_mul_right 5 hl
    omega
  · unfold psV
    rw [if_neg h]
    simp [total]
/-- Slices of slices of the call's own, beside a Bool. -/
def RetO2b (w : World) (F : List (List Int)) (bb : Bool) (e : Ending) (w' : World) : Prop :=
  ∃ A n c hs, e = .returned (.tuple #[.slice A n c, .bool bb]) ∧ Own2 w.heap.size w' A n c hs F ∧ Below w.heap.size w w'
set_option maxRecDepth 100000 in
set_option maxHeartbeats 1600000 in
theorem CountWithHint_i (W : Int) (A B D : Option Addr) (n c q cb k cd : Nat) (rows hint : List Int) (hs : List H) (P : List (List C)) (w : World) (hr : Rd w A (vI rows)) (hl : rows.length = n) (hp : RdP w B q hs P) (hq : q ≤ 1048576) (hm : totC P ≤ 1048576) (hrd : Rd w D (vI hint)) (hll : hint.length = k) (hk : k ≤ 1048576) :
    Calls Tryz.prog 13 #[.agg #[.int .i64 W, .slice A n c], .slice B q cb, .slice D k cd] w (Ret w (.int .i64 (cwhV W rows P hint))) := by
  have HL := Lib.hid hl
  have HR := Lib.hid (hr.alloc (.cells #[.int .i64 W, .slice A n c] 26))
  have HP := Lib.hid (hp.alloc (.cells #[.int .i64 W, .slice A n c] 26))
  have HLL := Lib.hid hll
  have HRD := Lib.hid (hrd.alloc (.cells #[.int .i64 W, .slice A n c] 26))
  have HB1 := Lib.hid (Blk.new w 26 #[.int .i64 W, .slice A n c])
  have hbw1 : Below w.heap.size w (w.alloc (.cells #[.int .i64 W, .slice A n c] 26)) := bel_alloc (Below.refl _ _) _
  have HM := Lib.hid hm
  have HPF := Lib.hid hp.flen
  clear hl hr hp hm hll hrd
  cases hpv : (isReg W rows && pcs P) with
  | false =>
    have HV : Hid (cwhV W rows P hint = -1) := by show _ = _; unfold cwhV; rw [hpv]; rfl
    have HPV := Lib.hid hpv
    clear hpv
    go_enter Tryz.func13, Tryz.ntmps13
    go_wp2_with fail
    refine (isProblem_i W A B n c q cb rows hs P _ HR.out HL.out HP.out hq HM.out).mono ?_
    rw [HPV.out]
    rintro e w1 ⟨rfl, hb1⟩
    go_wp2_with fail
    go_ret
    exact ⟨by rw [HV.out]; rfl, bel_trans hbw1 hb1⟩
  | true =>
    obtain ⟨hvr, hpc⟩ := puz_reg hpv
    have HVR := Lib.hid hvr
    have HPC := Lib.hid hpc
    have HPV := Lib.hid hpv
    by_cases hkq : k = q
    · subst hkq
      have HV : Hid (cwhV W rows P hint = ((puzV W rows P hint).length : Nat)) := by show _ = _; unfold cwhV; rw [hpv, HLL.out, HPF.out]; simp
      have hkk : ((k : Int) != (k : Int)) = false := by simp
      clear hpv hvr hpc
      go_enter Tryz.func13, Tryz.ntmps13
      go_wp2_with fail
      refine (isProblem_i W A B n c k cb rows hs P _ HR.out HL.out HP.out hq HM.out).mono ?_
      rw [HPV.out]
      rintro e w1 ⟨rfl, hb1⟩
      have HB := Lib.hid hb1
      clear hb1
      have hB := HB1.out.below HB.out
      have b0 : w1.cell? ⟨w.heap.size, 0, none⟩ = some (.int .i64 W) := by simpa using hB.cell 0
      have b1 : w1.cell? ⟨w.heap.size, 1, none⟩ = some (.slice A n c) := by simpa using hB.cell 1
      have hgw := hB.lt
      clear hB
      go_wp2_with fail
      have hS := solutions_i W A B D n c k cb k cd rows hint hs P w1 (HR.out.below HB.out) HL.out HVR.out (HP.out.below HB.out) HPC.out (HRD.out.below HB.out) HLL.out (.inr rfl)
      rw [Nat.sub_self, List.replicate_zero, List.append_nil] at hS
      refine Calls.mono hS ?_
      rintro e w2 ⟨E, u, cu, hE, rfl, hOE, hb2⟩
      have hu := hOE.flen
      have HU := Lib.hid hu
      have HB2 := Lib.hid hb2
      clear hS hOE hu hb2 b0 b1 hgw
      go_wp2_with fail
      go_ret
      exact ⟨by rw [HV.out, HU.out]; rfl, bel_trans (bel_trans hbw1 HB.out) HB2.out⟩
    · have HV : Hid (cwhV W rows P hint = -1) := by show _ = _; unfold cwhV; rw [if_neg]; rw [HLL.out, HPF.out]; simp [hkq]
      have hkk : ((k : Int) != (q : Int)) = true := by simp; omega
      clear hpv hvr hpc hkq
      go_enter Tryz.func13, Tryz.ntmps13
      go_wp2_with fail
      refine (isProblem_i W A B n c q cb rows hs P _ HR.out HL.out HP.out hq HM.out).mono ?_
      rw [HPV.out]
      rintro e w1 ⟨rfl, hb1⟩
      go_wp2_with fail
      go_ret
      exact ⟨by rw [HV.out]; rfl, bel_trans hbw1 hb1⟩
set_option maxRecDepth 100000 in
set_option maxHeartbeats 1600000 in
theorem CountWithHint_s (W : Int) (A B D : Option Addr) (n c q cb k cd : Nat) (rows hint : List Int) (hs : List H) (P : List (List C)) (w : World) (hr : Rd w A (vI rows)) (hl : rows.length = n) (hp : RdP w B q hs P) (hq : q ≤ 1048576) (hm : totC P ≤ 1048576) (hrd : Rd w D (vI hint)) (hll : hint.length = k) (hk : k ≤ 1048576) :
    Calls Tryz.prog 14 #[.agg #[.int .i64 W, .slice A n c], .slice B q cb, .slice D k cd] w (Ret w (.int .i64 (cwhV W rows P hint))) := by
  have HL := Lib.hid hl
  have HR := Lib.hid (hr.alloc (.cells #[.int .i64 W, .slice A n c] 26))
  have HP := Lib.hid (hp.alloc (.cells #[.int .i64 W, .slice A n c] 26))
  have HLL := Lib.hid hll
  have HRD := Lib.hid (hrd.alloc (.cells #[.int .i64 W, .slice A n c] 26))
  have HB1 := Lib.hid (Blk.new w 26 #[.int .i64 W, .slice A n c])
  have hbw1 : Below w.heap.size w (w.alloc (.cells #[.int .i64 W, .slice A n c] 26)) := bel_alloc (Below.refl _ _) _
  have HM := Lib.hid hm
  have HPF := Lib.hid hp.flen
  clear hl hr hp hm hll hrd
  cases hv : isReg W rows with
  | false =>
    have HV : Hid (cwhV W rows P hint = -1) := by show _ = _; unfold cwhV; rw [hv]; rfl
    have HVR := Lib.hid hv
    clear hv
    go_enter Tryz.func14, Tryz.ntmps14
    go_wp2_with fail
    refine (IsRegion_s _ _ _ _ rows _ HR.out HL.out).mono ?_
    rw [HVR.out]
    rintro e w1 ⟨rfl, hb1⟩
    go_wp2_with fail
    go_ret
    exact ⟨by rw [HV.out]; rfl, bel_trans hbw1 hb1⟩
  | true =>
    have HVR := Lib.hid hv
    cases hpc : pcs P with
    | false =>
      have HV : Hid (cwhV W rows P hint = -1) := by show _ = _; unfold cwhV; rw [hv, hpc]; rfl
      have HPC := Lib.hid hpc
      clear hv hpc
      go_enter Tryz.func14, Tryz.ntmps14
      go_wp2_with fail
      refine (IsRegion_s _ _ _ _ rows _ HR.out HL.out).mono ?_
      rw [HVR.out]
      rintro e w1 ⟨rfl, hb1⟩
      go_wp2_with fail
      refine (ArePieces_s B q cb hs P _ (HP.out.below hb1) hq HM.out).mono ?_
      rw [HPC.out]
      rintro e w2 ⟨rfl, hb2⟩
      go_wp2_with fail
      go_ret
      exact ⟨by rw [HV.out]; rfl, bel_trans hbw1 (bel_trans hb1 hb2)⟩
    | true =>
      have HPC := Lib.hid hpc
      by_cases hkq : k = q
      · subst hkq
        have HV : Hid (cwhV W rows P hint = ((puzV W rows P hint).length : Nat)) := by show _ = _; unfold cwhV; rw [hv, hpc, HLL.out, HPF.out]; simp
        have hkk : ((k : Int) != (k : Int)) = false := by simp
        clear hv hpc
        go_enter Tryz.func14, Tryz.ntmps14
        go_wp2_with fail
        refine (IsRegion_s _ _ _ _ rows _ HR.out HL.out).mono ?_
        rw [HVR.out]
        rintro e w1 ⟨rfl, hb1⟩
        go_wp2_with fail
        refine (ArePieces_s B k cb hs P _ (HP.out.below hb1) hq HM.out).mono ?_
        rw [HPC.out]
        rintro e w2 ⟨rfl, hb2⟩
        have HB := Lib.hid (bel_trans hb1 hb2)
        clear hb1 hb2
        have hB := HB1.out.below HB.out
        have b0 : w2.cell? ⟨w.heap.size, 0, none⟩ = some (.int .i64 W) := by simpa using hB.cell 0
        have b1 : w2.cell? ⟨w.heap.size, 1, none⟩ = some (.slice A n c) := by simpa using hB.cell 1
        have hgw := hB.lt
        clear hB
        go_wp2_with fail
        have hS := l22All_s W A B D n c k cb cd rows hint hs P w2 (HR.out.below HB.out) HL.out HVR.out (HP.out.below HB.out) HPC.out (HRD.out.below HB.out) HLL.out
        refine Calls.mono hS ?_
        rintro e w3 ⟨E, u, cu, hE, rfl, hOE, hb3⟩
        have hu := hOE.flen
        have HU := Lib.hid hu
        have HB3 := Lib.hid hb3
        clear hS hOE hu hb3 b0 b1 hgw
        go_wp2_with fail
        go_ret
        exact ⟨by rw [HV.out, HU.out]; rfl, bel_trans (bel_trans hbw1 HB.out) HB3.out⟩
      · have HV : Hid (cwhV W rows P hint = -1) := by show _ = _; unfold cwhV; rw [if_neg]; rw [HLL.out, HPF.out]; simp [hkq]
        have hkk : ((k : Int) != (q : Int)) = true := by simp; omega
        clear hv hpc hkq
        go_enter Tryz.func14, Tryz.ntmps14
        go_wp2_with fail
        refine (IsRegion_s _ _ _ _ rows _ HR.out HL.out).mono ?_
        rw [HVR.out]
        rintro e w1 ⟨rfl, hb1⟩
        go_wp2_with fail
        refine (ArePieces_s B q cb hs P _ (HP.out.below hb1) hq HM.out).mono ?_
        rw [HPC.out]
        rintro e w2 ⟨rfl, hb2⟩
        go_wp2_with fail
        go_ret
        exact ⟨by rw [HV.out]; rfl, bel_trans hbw1 (bel_trans hb1 hb2)⟩
set_option maxRecDepth 100000 in
set_option maxHeartbeats 1600000 in
theorem PuzzleSolutions_i (W : Int) (A B : Option Addr) (n c q cb : Nat) (rows : List Int) (hs : List H) (P : List (List C)) (w : World) (hr : Rd w A (vI rows)) (hl : rows.length = n) (hp : RdP w B q hs P) (hq : q ≤ 1048576) (hm : totC P ≤ 1048576) :
    Calls Tryz.prog 6 #[.agg #[.int .i64 W, .slice A n c], .slice B q cb] w (RetO2b w (psV W rows P) (isReg W rows && pcs P)) := by
  have HL := Lib.hid hl
  have HR := Lib.hid (hr.alloc (.cells #[.int .i64 W, .slice A n c] 26))
  have HP := Lib.hid (hp.alloc (.cells #[.int .i64 W, .slice A n c] 26))
  have HB1 := Lib.hid (Blk.new w 26 #[.int .i64 W, .slice A n c])
  have hbw1 : Below w.heap.size w (w.alloc (.cells #[.int .i64 W, .slice A n c] 26)) := bel_alloc (Below.refl _ _) _
  have HM := Lib.hid hm
  have HPF := Lib.hid hp.flen
  clear hl hr hp hm 
  cases hpv : (isReg W rows && pcs P) with
  | false =>
    have HV : Hid (psV W rows P = []) := by show _ = _; unfold psV; rw [hpv]; rfl
    have HPV := Lib.hid hpv
    clear hpv
    go_enter Tryz.func6, Tryz.ntmps6
    go_wp2_with fail
    refine (isProblem_i W A B n c q cb rows hs P _ HR.out HL.out HP.out hq HM.out).mono ?_
    rw [HPV.out]
    rintro e w1 ⟨rfl, hb1⟩
    go_wp2_with fail
    go_ret2
    exact ⟨none, 0, 0, [], rfl, by rw [HV.out]; exact Own2.nil _ _, bel_trans hbw1 hb1⟩
  | true =>
    obtain ⟨hvr, hpc⟩ := puz_reg hpv
    have HVR := Lib.hid hvr
    have HPC := Lib.hid hpc
    have HPV := Lib.hid hpv
    have HV : Hid (psV W rows P = puzV W rows P (List.replicate q (-1))) := by show _ = _; unfold psV; rw [hpv, HPF.out]; rfl
    clear hpv hvr hpc
    go_enter Tryz.func6, Tryz.ntmps6
    go_wp2_with fail
    refine (isProblem_i W A B n c q cb rows hs P _ HR.out HL.out HP.out hq HM.out).mono ?_
    rw [HPV.out]
    rintro e w1 ⟨rfl, hb1⟩
    have HB := Lib.hid hb1
    clear hb1
    have hB := HB1.out.below HB.out
    have b0 : w1.cell? ⟨w.heap.size, 0, none⟩ = some (.int .i64 W) := by simpa using hB.cell 0
    have b1 : w1.cell? ⟨w.heap.size, 1, none⟩ = some (.slice A n c) := by simpa using hB.cell 1
    have hgw := hB.lt
    clear hB
    go_wp2_with fail
    have hS := solutions_i W A B none n c q cb 0 0 rows [] hs P w1 (HR.out.below HB.out) HL.out HVR.out (HP.out.below HB.out) HPC.out Rd.none_ rfl (.inl rfl)
    rw [Nat.sub_zero, List.nil_append, ← HV.out] at hS
    refine Calls.mono hS ?_
    rintro e w2 ⟨E, u, cu, hE, rfl, hOE, hb2⟩
    have HOE := Lib.hid hOE
    have HB2 := Lib.hid hb2
    clear hS hOE hb2 b0 b1 hgw
    go_wp2_with fail
    go_ret2
    exact ⟨_, _, _, _, rfl, HOE.out.mono (by have h1 := hbw1.size; have h2 := HB.out.size; omega), bel_trans (bel_trans hbw1 HB.out) HB2.out⟩
set_option maxRecDepth 100000 in
set_option maxHeartbeats 1600000 in
theorem PuzzleSolutions_s (W : Int) (A B : Option Addr) (n c q cb : Nat) (rows : List Int) (hs : List H) (P : List (List C)) (w : World) (hr : Rd w A (vI rows)) (hl : rows.length = n) (hp : RdP w B q hs P) (hq : q ≤ 1048576) (hm : totC P ≤ 1048576) :
    Calls Tryz.prog 7 #[.agg #[.int .i64 W, .slice A n c], .slice B q cb] w (RetO2b w (psV W rows P) (isReg W rows && pcs P)) := by
  have HL := Lib.hid hl
  have HR := Lib.hid (hr.alloc (.cells #[.int .i64 W, .slice A n c] 26))
  have HP := Lib.hid (hp.alloc (.cells #[.int .i64 W, .slice A n c] 26))
  have HB1 := Lib.hid (Blk.new w 26 #[.int .i64 W, .slice A n c])
  have hbw1 : Below w.heap.size w (w.alloc (.cells #[.int .i64 W, .slice A n c] 26)) := bel_alloc (Below.refl _ _) _
  have HM := Lib.hid hm
  have HPF := Lib.hid hp.flen
  clear hl hr hp hm 
  cases hv : isReg W rows with
  | false =>
    have HV : Hid (psV W rows P = []) := by show _ = _; unfold psV; rw [hv]; rfl
    have HVR := Lib.hid hv
    clear hv
    go_enter Tryz.func7, Tryz.ntmps7
    go_wp2_with fail
    refine (IsRegion_s _ _ _ _ rows _ HR.out HL.out).mono ?_
    rw [HVR.out]
    rintro e w1 ⟨rfl, hb1⟩
    go_wp2_with fail
    go_ret2
    exact ⟨_, _, _, [], rfl, by rw [HV.out]; exact (Own2.none_ (own_new w1 24 1 0 #[] rfl (by simp [maxLen]) (base := w.heap.size) (bel_trans hbw1 hb1).size)), bel_alloc (bel_trans hbw1 hb1) _⟩
  | true =>
    have HVR := Lib.hid hv
    cases hpc : pcs P with
    | false =>
      have HV : Hid (psV W rows P = []) := by show _ = _; unfold psV; rw [hv, hpc]; rfl
      have HPC := Lib.hid hpc
      clear hv hpc
      go_enter Tryz.func7, Tryz.ntmps7
      go_wp2_with fail
      refine (IsRegion_s _ _ _ _ rows _ HR.out HL.out).mono ?_
      rw [HVR.out]
      rintro e w1 ⟨rfl, hb1⟩
      go_wp2_with fail
      refine (ArePieces_s B q cb hs P _ (HP.out.below hb1) hq HM.out).mono ?_
      rw [HPC.out]
      rintro e w2 ⟨rfl, hb2⟩
      go_wp2_with fail
      go_ret2
      exact ⟨_, _, _, [], rfl, by rw [HV.out]; exact (Own2.none_ (own_new w2 24 1 0 #[] rfl (by simp [maxLen]) (base := w.heap.size) (bel_trans hbw1 (bel_trans hb1 hb2)).size)), bel_alloc (bel_trans hbw1 (bel_trans hb1 hb2)) _⟩
    | true =>
      have HPC := Lib.hid hpc
      have HV : Hid (psV W rows P = puzV W rows P (List.replicate q (-1))) := by show _ = _; unfold psV; rw [hv, hpc, HPF.out]; rfl
      clear hv hpc
      go_enter Tryz.func7, Tryz.ntmps7
      go_wp2_with fail
      refine (IsRegion_s _ _ _ _ rows _ HR.out HL.out).mono ?_
      rw [HVR.out]
      rintro e w1 ⟨rfl, hb1⟩
      go_wp2_with fail
      refine (ArePieces_s B q cb hs P _ (HP.out.below hb1) hq HM.out).mono ?_
      rw [HPC.out]
      rintro e w2 ⟨rfl, hb2⟩
      have HB := Lib.hid (bel_trans hb1 hb2)
      clear hb1 hb2
      have hB := HB1.out.below HB.out
      have b0 : w2.cell? ⟨w.heap.size, 0, none⟩ = some (.int .i64 W) := by simpa using hB.cell 0
      have b1 : w2.cell? ⟨w.heap.size, 1, none⟩ = some (.slice A n c) := by simpa using hB.cell 1
      have hgw := hB.lt
      clear hB
      go_wp2_with fail
      (refine wp_region_tailN (C := ExC w2) 4 (by kernel_rfl) (by kernel_rfl) (ExC.drawn _) (fun _ _ h k => ExC.ext h k) ?_; simp only [List.take_succ_cons, List.take_zero, List.drop_succ_cons, List.drop_zero]; (repeat (first | (refine headSkip (by rfl) rfl ?_; simp only [List.setIfInBounds_toArray, List.set_cons_zero, List.set_cons_succ]) | (refine headV (v := ?_) (by rfl) rfl (fun w' hcw => ?_) ?_; rotate_left; ((try dsimp only at hcw); have hbc := hcw.cells; go_simp; first | done | with_reducible rfl | fail); simp only [List.setIfInBounds_toArray, List.set_cons_zero, List.set_cons_succ]))); unfold wpHead)
      refine tailK (by rfl) (fun u1 hc1 he1 K hK => ?_)
      go_simp
      refine (l22None_s q u1 hq).mono ?_
      rintro e u2 ⟨E, q2, c2, rfl, hOE, hbE⟩
      obtain rfl : q2 = q := by have h3 := own_len hOE; rw [vI_length, List.length_replicate] at h3; omega
      refine hK _ _ (bel_trans hc1 hbE) ?_
      clear hK K
      refine tailK (by rfl) (fun u3 hc3 he3 K hK => ?_)
      go_simp
      have hS := l22All_s W A B E n c q2 cb c2 rows (List.replicate q2 (-1)) hs P u3 ((HR.out.below HB.out).below hc3) HL.out HVR.out ((HP.out.below HB.out).below hc3) HPC.out ((Rd.of_own hOE).below he3) (List.length_replicate ..)
      rw [← HV.out] at hS
      refine Calls.mono hS ?_
      rintro e u4 ⟨E4, q4, c4, h4, rfl, hO4, hb4⟩
      refine hK _ _ (bel_trans hc3 hb4) ?_
      clear hK K
      (refine tailK (by rfl) (fun u5 hc5 he5 K hK => ?_); go_simp; refine hK _ _ (hc5) ?_; clear hK K)
      (refine tailK (by rfl) (fun u6 hc6 he6 K hK => ?_); go_simp; refine hK _ _ (hc6) ?_; clear hK K)
      (refine fun u7 hc7 he7 => NoPanic.normal ?_)
      have HO7 := Lib.hid (((hO4.below he5).below he6).below he7)
      have hsz : w.heap.size ≤ u3.heap.size := by have h1 := hbw1.size; have h2 := HB.out.size; have h3 := hc3.size; omega
      have HC7 := Lib.hid hc7
      clear hS hO4 hOE hc1 he1 hbE hc3 he3 hb4 hc5 he5 hc6 he6 hc7 he7 b0 b1 hgw
      go_wp2_with fail
      go_ret2
      exact ⟨_, _, _, _, rfl, HO7.out.mono hsz, bel_trans (bel_trans hbw1 HB.out) HC7.out⟩
set_option maxRecDepth 100000 in
set_option maxHeartbeats 1600000 in
theorem CountSolutions_i (W : Int) (A B : Option Addr) (n c q cb : Nat) (rows : List Int) (hs : List H) (P : List (List C)) (w : World) (hr : Rd w A (vI rows)) (hl : rows.length = n) (hp : RdP w B q hs P) (hq : q ≤ 1048576) (hm : totC P ≤ 1048576) :
    Calls Tryz.prog 9 #[.agg #[.int .i64 W, .slice A n c], .slice B q cb] w (Ret w (.int .i64 (csV W rows P))) := by
  have HL := Lib.hid hl
  have HR := Lib.hid (hr.alloc (.cells #[.int .i64 W, .slice A n c] 26))
  have HP := Lib.hid (hp.alloc (.cells #[.int .i64 W, .slice A n c] 26))
  have HB1 := Lib.hid (Blk.new w 26 #[.int .i64 W, .slice A n c])
  have hbw1 : Below w.heap.size w (w.alloc (.cells #[.int .i64 W, .slice A n c] 26)) := bel_alloc (Below.refl _ _) _
  have HM := Lib.hid hm
  have HPF := Lib.hid hp.flen
  clear hl hr hp hm 
  have hb0 : (w.alloc (.cells #[.int .i64 W, .slice A n c] 26)).cell? ⟨w.heap.size, 0, none⟩ = some (.int .i64 W) := by simp
  cases hpv : (isReg W rows && pcs P) with
  | false =>
    have HV : Hid (csV W rows P = -1) := by show _ = _; unfold csV; rw [hpv]; rfl
    have HPV := Lib.hid hpv
    clear hpv
    go_enter Tryz.func9, Tryz.ntmps9
    go_wp2_with fail
    refine (PuzzleSolutions_i W A B n c q cb rows hs P _ HR.out HL.out HP.out hq HM.out).mono ?_
    rw [HPV.out]
    rintro e w1 ⟨E, u, cu, hE, rfl, hOE, hb1⟩
    have HB2 := Lib.hid hb1
    clear hOE hb1 hb0
    go_wp2_with fail
    go_ret
    exact ⟨by rw [HV.out]; rfl, bel_trans hbw1 HB2.out⟩
  | true =>
    have HV : Hid (csV W rows P = ((psV W rows P).length : Nat)) := by show _ = _; unfold csV; rw [hpv]; rfl
    have HPV := Lib.hid hpv
    clear hpv
    go_enter Tryz.func9, Tryz.ntmps9
    go_wp2_with fail
    refine (PuzzleSolutions_i W A B n c q cb rows hs P _ HR.out HL.out HP.out hq HM.out).mono ?_
    rw [HPV.out]
    rintro e w1 ⟨E, u, cu, hE, rfl, hOE, hb1⟩
    have HU := Lib.hid hOE.flen
    have HB2 := Lib.hid hb1
    clear hOE hb1 hb0
    go_wp2_with fail
    go_ret
    exact ⟨by rw [HV.out, HU.out]; rfl, bel_trans hbw1 HB2.out⟩
set_option maxRecDepth 100000 in
set_option maxHeartbeats 1600000 in
theorem CountSolutions_s (W : Int) (A B : Option Addr) (n c q cb : Nat) (rows : List Int) (hs : List H) (P : List (List C)) (w : World) (hr : Rd w A (vI rows)) (hl : rows.length = n) (hp : RdP w B q hs P) (hq : q ≤ 1048576) (hm : totC P ≤ 1048576) :
    Calls Tryz.prog 10 #[.agg #[.int .i64 W, .slice A n c], .slice B q cb] w (Ret w (.int .i64 (csV W rows P))) := by
  have HL := Lib.hid hl
  have HR := Lib.hid (hr.alloc (.cells #[.int .i64 W, .slice A n c] 26))
  have HP := Lib.hid (hp.alloc (.cells #[.int .i64 W, .slice A n c] 26))
  have HB1 := Lib.hid (Blk.new w 26 #[.int .i64 W, .slice A n c])
  have hbw1 : Below w.heap.size w (w.alloc (.cells #[.int .i64 W, .slice A n c] 26)) := bel_alloc (Below.refl _ _) _
  have HM := Lib.hid hm
  have HPF := Lib.hid hp.flen
  clear hl hr hp hm 
  have hb0 : (w.alloc (.cells #[.int .i64 W, .slice A n c] 26)).cell? ⟨w.heap.size, 0, none⟩ = some (.int .i64 W) := by simp
  cases hpv : (isReg W rows && pcs P) with
  | false =>
    have HV : Hid (csV W rows P = -1) := by show _ = _; unfold csV; rw [hpv]; rfl
    have HPV := Lib.hid hpv
    clear hpv
    go_enter Tryz.func10, Tryz.ntmps10
    go_wp2_with fail
    refine (PuzzleSolutions_s W A B n c q cb rows hs P _ HR.out HL.out HP.out hq HM.out).mono ?_
    rw [HPV.out]
    rintro e w1 ⟨E, u, cu, hE, rfl, hOE, hb1⟩
    have HB2 := Lib.hid hb1
    clear hOE hb1 hb0
    go_wp2_with fail
    go_ret
    exact ⟨by rw [HV.out]; rfl, bel_trans hbw1 HB2.out⟩
  | true =>
    have HV : Hid (csV W rows P = ((psV W rows P).length : Nat)) := by show _ = _; unfold csV; rw [hpv]; rfl
    have HPV := Lib.hid hpv
    clear hpv
    go_enter Tryz.func10, Tryz.ntmps10
    go_wp2_with fail
    refine (PuzzleSolutions_s W A B n c q cb rows hs P _ HR.out HL.out HP.out hq HM.out).mono ?_
    rw [HPV.out]
    rintro e w1 ⟨E, u, cu, hE, rfl, hOE, hb1⟩
    have HU := Lib.hid hOE.flen
    have HB2 := Lib.hid hb1
    clear hOE hb1 hb0
    go_wp2_with fail
    go_ret
    exact ⟨by rw [HV.out, HU.out]; rfl, bel_trans hbw1 HB2.out⟩
end Go.Proofs.YtcgjnonlndaoeaaGreat

/- Puzzles: the fewest hints, the reference. -/
namespace Go.Proofs.YtcgjnonlndaoeaaGreat
open Go.RowKit
set_option linter.unusedVariables false
attribute [local go_sem ↓] Go.wp_at_zero Go.wp_at_succ
theorem popN_snocF (n x : Nat) : popN (n + 1) x = popN n x + (if x.testBit n then 1 else 0) := by
  unfold popN
  rw [List.range_succ, List.countP_append, List.countP_singleton]
theorem hint_put (l : List Int) (s n i : Nat) (v : Int) (hi : i < n) (hv : v = if s.testBit i then l.getD i 0 else -1) : (hintS l s i ++ List.replicate (n - i) (-1)).set i v = hintS l s (i + 1) ++ List.replicate (n - (i + 1)) (-1) := by
  rw [List.set_append_right _ _ (by rw [hintS_len]; omega), hintS_len, Nat.sub_self, show n - i = (n - (i + 1)) + 1 by omega, List.replicate_succ, List.set_cons_zero]
  show _ = (hintS l s i ++ [_]) ++ _
  rw [← hv, List.append_assoc]
  rfl
theorem hint_stay (l : List Int) (s n i : Nat) (hi : i < n) (hv : s.testBit i = false) : hintS l s i ++ List.replicate (n - i) (-1) = hintS l s (i + 1) ++ List.replicate (n - (i + 1)) (-1) := by
  show _ = (hintS l s i ++ [_]) ++ _
  rw [hv, show n - i = (n - (i + 1)) + 1 by omega, List.replicate_succ, List.append_assoc]
  rfl
noncomputable def fhIn : Code := ((Tryz.f17.body.map loopsIn).getD []).getD 1 .skip
set_option maxRecDepth 100000 in
set_option maxHeartbeats 1600000 in
theorem fhInner {Q : Exit → Act → World → Prop} {s0 s1 s3 s4 s5 s6 s7 s8 s9 s14 s15 s16 s17 s18 s19 s20 s21 s22 s23 s24 s25 s26 s27 s28 s29 s30 s31 s32 s33 s34 s35 s36 s37 s38 s39 s40 s41 s42 s43 s44 s45 s46 s47 s48 s49 s50 s51 s52 s53 s54 s55 s56 s57 s58 s59 s60 s61 s62 s63 s64 s65 s66 s67 s68 : Value} {s n base gH cH cd : Nat} {D : Option Addr} {l : List Int} {w : World}
    (hs : s < 2 ^ 36) (hn : n ≤ 36) (hl : l.length = n) (hD : Rd w D (vI l)) (hDg : ∀ g, ob D = some g → g ≠ gH) (hO : w.ownsRow base 3 1 (.slice (some ⟨gH, 0, none⟩) n cH) n (vI (List.replicate n (-1))))
    (hexit : ∀ (v35 v36 v37 v38 v39 v40 v41 v42 v43 v44 v45 v46 v47 v48 v49 v50 v51 v52 v53 v54 : Value) (w3 : World), w3.ownsRow base 3 1 (.slice (some ⟨gH, 0, none⟩) n cH) n (vI (hintS l s n)) → w.grownBy w3 (some gH) → Q (.exit 2) ⟨List.toArray (s0 :: s1 :: (.slice D n cd) :: s3 :: s4 :: s5 :: s6 :: s7 :: s8 :: s9 :: (.int .i64 (s : Int)) :: (.slice (some ⟨gH, 0, none⟩) n cH) :: (.int .i64 (popN n s : Nat)) :: (.int .i64 (n : Int)) :: s14 :: s15 :: s16 :: s17 :: s18 :: s19 :: s20 :: s21 :: s22 :: s23 :: s24 :: s25 :: s26 :: s27 :: s28 :: s29 :: s30 :: s31 :: s32 :: s33 :: s34 :: v35 :: v36 :: v37 :: v38 :: v39 :: v40 :: v41 :: v42 :: v43 :: v44 :: v45 :: v46 :: v47 :: v48 :: v49 :: v50 :: v51 :: v52 :: v53 :: v54 :: s55 :: s56 :: s57 :: s58 :: s59 :: s60 :: s61 :: s62 :: s63 :: s64 :: s65 :: s66 :: s67 :: s68 :: []), []⟩ w3) :
    Code.wp Tryz.prog (Code.loop fhIn) Q ⟨List.toArray (s0 :: s1 :: (.slice D n cd) :: s3 :: s4 :: s5 :: s6 :: s7 :: s8 :: s9 :: (.int .i64 (s : Int)) :: (.slice (some ⟨gH, 0, none⟩) n cH) :: (.int .i64 0) :: (.int .i64 0) :: s14 :: s15 :: s16 :: s17 :: s18 :: s19 :: s20 :: s21 :: s22 :: s23 :: s24 :: s25 :: s26 :: s27 :: s28 :: s29 :: s30 :: s31 :: s32 :: s33 :: s34 :: s35 :: s36 :: s37 :: s38 :: s39 :: s40 :: s41 :: s42 :: s43 :: s44 :: s45 :: s46 :: s47 :: s48 :: s49 :: s50 :: s51 :: s52 :: s53 :: s54 :: s55 :: s56 :: s57 :: s58 :: s59 :: s60 :: s61 :: s62 :: s63 :: s64 :: s65 :: s66 :: s67 :: s68 :: []), []⟩ w := by
  have HD := Lib.hid hD
  have HDG := Lib.hid hDg
  have HL := Lib.hid hl
  have HO0 := Lib.hid hO
  have HX := Lib.hid @hexit
  clear hD hDg hl hO hexit
  conv => arg 2; arg 1; whnf
  go_loopw [13, 12] (fun e13 e12 wr => ∃ (i z : Nat), i ≤ n ∧ e13 = .int .i64 i ∧ e12 = .int .i64 (z : Int) ∧ z = popN i s ∧ z ≤ i ∧ wr.ownsRow base 3 1 (.slice (some ⟨gH, 0, none⟩) n cH) n (vI (hintS l s i ++ List.replicate (n - i) (-1))) ∧ w.grownBy wr (some gH)) (fun e13 _ _ => n - (intOf e13).toNat)
  case atStart => exact ⟨0, 0, Nat.zero_le _, rfl, rfl, rfl, Nat.le_refl _, by simpa [hintS] using HO0.out, World.grownBy.refl _ _⟩
  case round =>
    clear HO0
    obtain ⟨i, z, hi, rfl, rfl, hz, hzi, hO, hg⟩ := hrel
    have HZ := Lib.hid hz
    have HG := Lib.hid hg
    clear hz hg
    by_cases hlt : i < n
    · have hi0 : (0 : Int) ≤ (i : Int) := by omega
      have hi1 : (i : Int) < (n : Int) := by omega
      have hi64 : (i : Int) ≤ 64 := by omega
      have ei : IntKind.i64.wrap (i : Int) = (i : Int) := Go.IntWalk.i64_in _ (by omega)
      have hil : i < l.length := by rw [HL.out]; exact hlt
      have hbit := bit_testP s i (by omega)
      obtain ⟨d, hd⟩ : ∃ d, s / 2 ^ i = d := ⟨_, rfl⟩
      have hdI : (s : Int) / 2 ^ i = (d : Int) := by rw [← hd]; simp
      rw [hdI] at hbit
      have hsn := popN_snocF i s
      rw [← HZ.out] at hsn
      clear hd
      cases hbt : s.testBit i with
      | false =>
        rw [hbt] at hbit hsn
        simp only [Bool.false_eq_true, if_false, Nat.add_zero] at hsn
        have hst := hint_stay l s n i hlt hbt
        rw [hst] at hO
        have HO := Lib.hid hO
        have HSN := Lib.hid hsn
        clear hst hsn hbt hO
        go_wp2_with fail
        exact ⟨⟨i + 1, z, by omega, by go_num, rfl, HSN.out.symm, by omega, HO.out, HG.out⟩, by simp [intOf]; omega⟩
      | true =>
        rw [hbt] at hbit hsn
        simp only [if_true] at hsn
        obtain ⟨g, off, hDe, hg1, d1⟩ := RdI.at_ (HD.out.grown HG.out (fun g e r => by injection r with r; exact HDG.out g e r)) hil
        have hjl : i < (hintS l s i ++ List.replicate (n - i) (-1)).length := by rw [List.length_append, hintS_len, List.length_replicate]; omega
        have c1 := hO.cellAt i (by omega)
        rw [show (vI (hintS l s i ++ List.replicate (n - i) (-1)))[i]? = some (.int .i64 (hintS l s i ++ List.replicate (n - i) (-1))[i]) from by simp only [vI, List.getElem?_map, List.getElem?_eq_getElem hjl, Option.map_some]] at c1
        generalize (hintS l s i ++ List.replicate (n - i) (-1))[i] = zz at c1
        have f1 := hO.frozenAt i
        have hgw : gH < wr.heap.size := (own_lt hO gH rfl).2
        have hst := (hO.stored i (.int .i64 l[i])).1
        rw [show (vI (hintS l s i ++ List.replicate (n - i) (-1))).set i (.int .i64 l[i]) = vI (hintS l s (i + 1) ++ List.replicate (n - (i + 1)) (-1)) from by
          rw [← hint_put l s n i l[i] hlt (by rw [hbt, if_pos rfl, List.getD_eq_getElem?_getD, List.getElem?_eq_getElem hil]; rfl)]
          simp [vI, List.map_set]] at hst
        obtain ⟨v, hv⟩ : ∃ v, l[i] = v := ⟨_, rfl⟩
        rw [hv] at hst d1
        have HST := Lib.hid hst
        have HSN := Lib.hid hsn
        have HG2 := Lib.hid (grown_set (p := ⟨gH, i, none⟩) HG.out rfl (.int .i64 v))
        subst hDe
        clear hst hsn hbt hO hv hjl
        go_wp2_with fail
        exact ⟨⟨i + 1, z + 1, by omega, by go_num, by go_num, HSN.out.symm, by omega, HST.out, HG2.out⟩, by simp [intOf]; omega⟩
    · obtain rfl : i = n := by omega
      have hi1 : ¬ (i : Int) < (i : Int) := by omega
      rw [Nat.sub_self, List.replicate_zero, List.append_nil] at hO
      have HO := Lib.hid hO
      have hz := HZ.out
      subst hz
      clear hO HZ
      go_wp2_with fail
      exact HX.out _ _ _ _ _ _ _ _ _ _ _ _ _ _ _ _ _ _ _ _ _ HO.out HG.out
theorem hb3g {w w1 w2 : World} {g : Nat} (h : Below w.heap.size w w1) (k : w1.grownBy w2 (some g)) (hg : w.heap.size ≤ g) : Below w.heap.size w w2 :=
  h.grown k h.size (fun g' e => by injection e with e; omega)
set_option maxRecDepth 100000 in
set_option maxHeartbeats 3200000 in
theorem FewestHints_s (W : Int) (A B D : Option Addr) (n c q cb k cd : Nat) (rows l : List Int) (hs : List H) (P : List (List C)) (w : World) (hr : Rd w A (vI rows)) (hl : rows.length = n) (hp : RdP w B q hs P) (hq : q ≤ 1048576) (hm : totC P ≤ 1048576) (hrd : Rd w D (vI l)) (hll : l.length = k) (hk : k ≤ 1048576) :
    Calls Tryz.prog 17 #[.agg #[.int .i64 W, .slice A n c], .slice B q cb, .slice D k cd] w (RetS2 w 3 1 (vI (fewV W rows P l)) (.bool (solV W rows P l))) := by
  have HL := Lib.hid hl
  have HR := Lib.hid (hr.alloc (.cells #[.int .i64 W, .slice A n c] 26))
  have HP := Lib.hid (hp.alloc (.cells #[.int .i64 W, .slice A n c] 26))
  have HLL := Lib.hid hll
  have HRD := Lib.hid (hrd.alloc (.cells #[.int .i64 W, .slice A n c] 26))
  have HB1 := Lib.hid (Blk.new w 26 #[.int .i64 W, .slice A n c])
  have hbw1 : Below w.heap.size w (w.alloc (.cells #[.int .i64 W, .slice A n c] 26)) := bel_alloc (Below.refl _ _) _
  have HM := Lib.hid hm
  have HPF := Lib.hid hp.flen
  have hb0 : (w.alloc (.cells #[.int .i64 W, .slice A n c] 26)).cell? ⟨w.heap.size, 0, none⟩ = some (.int .i64 W) := by simp
  clear hl hr hp hm hll hrd
  cases hsv : solV W rows P l with
  | false =>
    have HV : Hid (fewV W rows P l = []) := by show _ = _; unfold fewV; rw [hsv]; rfl
    have HSV := Lib.hid hsv
    clear hsv
    go_enter Tryz.func17, Tryz.ntmps17
    go_wp2_with fail
    refine (IsSolution_s W A B D n c q cb k cd rows l hs P _ HR.out HL.out HP.out hq HM.out HRD.out HLL.out hk).mono ?_
    rw [HSV.out]
    rintro e w1 ⟨rfl, hb1⟩
    have HB := Lib.hid hb1
    clear hb1 hb0
    go_wp2_with fail
    go_ret2
    exact ⟨_, _, _, rfl, by rw [HV.out]; exact own_new w1 3 1 0 #[] rfl (by simp [maxLen]) (bel_trans hbw1 HB.out).size, bel_alloc (bel_trans hbw1 HB.out) _⟩
  | true =>
    have hreg := hsv
    unfold solV at hreg
    simp only [Bool.and_eq_true, beq_iff_eq] at hreg
    obtain ⟨⟨hvr, hpc⟩, hlen, _⟩ := hreg
    have hkq : k = q := by have h1 := HLL.out; have h2 := HPF.out; omega
    have hq5 := (pcs_small hpc).1
    rw [HPF.out] at hq5
    have hq1 : 1 ≤ q := by
      have h3 := hpc
      unfold pcs at h3
      simp only [Bool.and_eq_true, decide_eq_true_eq] at h3
      have h2 := HPF.out
      omega
    subst hkq
    obtain ⟨one, hone⟩ : ∃ one, oneV W rows P l = one := ⟨_, rfl⟩
    obtain ⟨T, hT⟩ : ∃ T : Nat, 2 ^ k = T := ⟨_, rfl⟩
    have hTI : (2 : Int) ^ k = (T : Int) := by rw [← hT]; simp
    have hT5 : T ≤ 2 ^ 5 := by rw [← hT]; exact Nat.pow_le_pow_right (by decide) hq5
    have HV : Hid (fewV W rows P l = (bestR one l k T).1) := by show _ = _; unfold fewV; rw [hsv, if_pos rfl, HLL.out, hone, hT]
    have HON : Hid (∀ s, one s = ((puzV W rows P (hintS l s k)).length == 1)) := fun s => by rw [← hone]; unfold oneV; rw [HLL.out]
    have HSV := Lib.hid hsv
    have HVR := Lib.hid hvr
    have HPC := Lib.hid hpc
    have hk0 : (0 : Int) ≤ (k : Int) := by omega
    have hk64 : (k : Int) ≤ 64 := by omega
    have ek : IntKind.i64.wrap (k : Int) = (k : Int) := Go.IntWalk.i64_in _ (by omega)
    have eT : IntKind.i64.wrap (T : Int) = (T : Int) := Go.IntWalk.i64_in _ (by omega)
    clear hsv hvr hpc hlen hone hT
    go_enter Tryz.func17, Tryz.ntmps17
    go_wp2_with fail
    refine (IsSolution_s W A B D n c k cb k cd rows l hs P _ HR.out HL.out HP.out hq HM.out HRD.out HLL.out hk).mono ?_
    rw [HSV.out]
    rintro e w1 ⟨rfl, hb1⟩
    have HB := Lib.hid hb1
    have HBX := Lib.hid (HB1.out.below hb1)
    have HBW := Lib.hid (bel_trans hbw1 hb1)
    have HR1 := Lib.hid (HR.out.below hb1)
    have HP1 := Lib.hid (HP.out.below hb1)
    have HRD1 := Lib.hid (HRD.out.below hb1)
    clear hb1 hb0 hbw1 HR HP HRD HB1
    go_wp2_with (at_builtin; go_must (refine app_I _ rfl _ _ rfl w1.heap.size _ _ _ ([] : List Int) rfl (own_new w1 3 1 0 #[] rfl (by simp [maxLen]) (Nat.le_refl _)) _ _ _ l rfl (HRD1.out.alloc _) HLL.out (by omega) (by simp) ?_); intro A5 c5 w5 ho5 hg5 hat5; rw [Nat.zero_add] at ho5 ⊢; have HO5 := Lib.hid ho5; have HG5 := Lib.hid hg5; clear ho5 hg5 hat5)
    have hb5 : Below w1.heap.size w1 w5 := bel_app (bel_alloc (Below.refl _ _) _) HG5.out (fun g e => by simp only [ob, Option.map_some, Option.some.injEq] at e; omega)
    have HB5 := Lib.hid hb5
    clear hb5
    go_loopw [10, 8, 9] (fun e10 e8 e9 wr => ∃ (s z c8 : Nat) (D8 : Option Addr) (Bs : List Int), s ≤ T ∧ e10 = .int .i64 s ∧ e8 = .slice D8 k c8 ∧ e9 = .int .i64 (z : Int) ∧ bestR one l k s = (Bs, z) ∧ z ≤ k ∧ wr.ownsRow w.heap.size 3 1 (.slice D8 k c8) k (vI Bs) ∧ Below w1.heap.size w1 wr) (fun e10 _ _ _ => T - (intOf e10).toNat)
    case atStart => exact ⟨0, k, c5, A5, l, Nat.zero_le _, rfl, rfl, rfl, rfl, Nat.le_refl _, own_mono2 (by simpa using HO5.out) HBW.out.size, HB5.out⟩
    case round =>
      clear HO5 HG5 HB5
      obtain ⟨s, z, c8, D8, Bs, hsT, rfl, rfl, rfl, hbs, hzk, hO8, hb⟩ := hrel
      have HBS := Lib.hid hbs
      have HO8 := Lib.hid hO8
      have HBR := Lib.hid hb
      clear hbs hO8 hb
      by_cases hlt : s < T
      · have hi0 : (0 : Int) ≤ (s : Int) := by omega
        have hi1 : (s : Int) < (T : Int) := by omega
        have hst : bestR one l k (s + 1) = if popN k s < z ∧ one s = true then (hintS l s k, popN k s) else (Bs, z) := by
          show (if popN k s < (bestR one l k s).2 ∧ one s = true then (hintS l s k, popN k s) else bestR one l k s) = _
          rw [HBS.out]
        have HST := Lib.hid hst
        have hs36 : s < 2 ^ 36 := by omega
        clear hst
        go_wp2_with fail
        refine (l22None_s k wr hk).mono ?_
        rintro e w3 ⟨E, q3, cE, rfl, hOE, hb3⟩
        obtain rfl : q3 = k := by have h3 := own_len hOE; rw [vI_length, List.length_replicate] at h3; omega
        obtain ⟨gE, rfl, hqE⟩ := ownQ_of hOE (by omega)
        have hgE := (own_lt hOE gE rfl).1
        have HOE := Lib.hid hOE
        have HB3 := Lib.hid hb3
        have HDG : Hid (∀ g, ob D = some g → g ≠ gE) := fun g hg e => by
          obtain ⟨g2, hg2, h2⟩ := Rd.blk (HRD1.out.below HBR.out) (by rw [HLL.out]; omega)
          rw [hg] at hg2
          injection hg2 with hg2
          omega
        clear hOE hb3 hqE
        go_wp2_with fail
        refine fhInner hs36 (by omega) HLL.out ((HRD1.out.below HBR.out).below HB3.out) HDG.out HOE.out ?_
        intro _ _ _ _ _ _ _ _ _ _ _ _ _ _ _ _ _ _ _ _ w4 hO4 hg4
        obtain ⟨z2, hz2⟩ : ∃ z2, popN q3 s = z2 := ⟨_, rfl⟩
        have hz2k : z2 ≤ q3 := by rw [← hz2]; unfold popN; have h := List.countP_le_length (p := fun i => s.testBit i) (l := List.range q3); simpa using h
        have hb4 : Below wr.heap.size wr w4 := hb3g HB3.out hg4 hgE
        have HO4 := Lib.hid hO4
        have HB4 := Lib.hid (bel_trans HBR.out hb4)
        have HO8b := Lib.hid (own_keep HO8.out hb4)
        rw [hz2] at HST ⊢
        have hB := HBX.out.below HB4.out
        have b0 : w4.cell? ⟨w.heap.size, 0, none⟩ = some (.int .i64 W) := by simpa using hB.cell 0
        have b1 : w4.cell? ⟨w.heap.size, 1, none⟩ = some (.slice A n c) := by simpa using hB.cell 1
        have hgw := hB.lt
        have hwE : w.heap.size ≤ wr.heap.size := by have h1 := HBW.out.size; have h2 := HBR.out.size; omega
        clear hO4 hg4 hb4 hB hz2 HOE HO8
        by_cases hz : z2 < z
        · have hzl : (z2 : Int) < (z : Int) := by omega
          go_wp2_with fail
          have hS := l22All_s W A B (some ⟨gE, 0, none⟩) n c q3 cb cE rows (hintS l s q3) hs P w4 (HR1.out.below HB4.out) HL.out HVR.out (HP1.out.below HB4.out) HPC.out (Rd.of_own HO4.out) (hintS_len _ _ _)
          refine Calls.mono hS ?_
          rintro e w6 ⟨E6, u, cu, hE, rfl, hOE6, hb6⟩
          have hu := hOE6.flen
          have HB6 := Lib.hid (bel_trans HB4.out hb6)
          have hon := HON.out s
          rw [hu] at hon
          by_cases hu1 : u = 1
          · have hue : ((u : Int) == 1) = true := by simp [hu1]
            have hst2 : bestR one l q3 (s + 1) = (hintS l s q3, z2) := by rw [HST.out, if_pos ⟨hz, by rw [hon, hu1]; rfl⟩]
            have HST2 := Lib.hid hst2
            have HO6 := Lib.hid (own_mono2 (own_keep HO4.out hb6) hwE)
            clear hS hOE6 hu hb6 hon hu1 hst2 b0 b1 hgw
            go_wp2_with fail
            exact ⟨⟨s + 1, z2, cE, some ⟨gE, 0, none⟩, _, by omega, by go_num, rfl, rfl, HST2.out, hz2k, HO6.out, HB6.out⟩, by simp [intOf]; omega⟩
          · have hue : ((u : Int) == 1) = false := by simp; omega
            have hst2 : bestR one l q3 (s + 1) = (Bs, z) := by
              rw [HST.out, if_neg]
              rintro ⟨_, h2⟩
              rw [hon] at h2
              exact hu1 (by simpa using h2)
            have HST2 := Lib.hid hst2
            have HO6 := Lib.hid (own_keep HO8b.out hb6)
            clear hS hOE6 hu hb6 hon hu1 hst2 b0 b1 hgw
            go_wp2_with fail
            exact ⟨⟨s + 1, z, c8, D8, _, by omega, by go_num, rfl, rfl, HST2.out, hzk, HO6.out, HB6.out⟩, by simp [intOf]; omega⟩
        · have hzl : ¬ (z2 : Int) < (z : Int) := by omega
          have hst2 : bestR one l q3 (s + 1) = (Bs, z) := by rw [HST.out, if_neg (fun h => hz h.1)]
          have HST2 := Lib.hid hst2
          clear hst2
          go_wp2_with fail
          exact ⟨⟨s + 1, z, c8, D8, _, by omega, by go_num, rfl, rfl, HST2.out, hzk, HO8b.out, HB4.out⟩, by simp [intOf]; omega⟩
      · obtain rfl : s = T := by omega
        have hi1 : ¬ (s : Int) < (s : Int) := by omega
        go_wp2_with fail
        go_ret2
        exact ⟨_, _, _, rfl, by rw [HV.out, HBS.out]; exact HO8.out, bel_trans HBW.out HBR.out⟩
end Go.Proofs.YtcgjnonlndaoeaaGreat

/- Puzzles: the fewest hints, the program. -/
namespace Go.Proofs.YtcgjnonlndaoeaaGreat
open Go.RowKit
set_option linter.unusedVariables false
attribute [local go_sem ↓] Go.wp_at_zero Go.wp_at_succ
theorem bit_testZ (m k : Nat) (hm : m < 2 ^ 62) : (bits .and .i64 ((m : Int) / 2 ^ k) 1 == 0) = !m.testBit k := by
  have e : ((m : Int) / 2 ^ k) = ((m / 2 ^ k : Nat) : Int) := by simp
  have hle := Nat.div_le_self m (2 ^ k)
  have h1 := i64_and (m / 2 ^ k) 1 (by omega) (by decide)
  rw [e, show (1 : Int) = ((1 : Nat) : Int) from rfl, h1, Nat.and_one_is_mod, bit_and]
  cases m.testBit k <;> rfl
noncomputable def fhInP : Code := ((Tryz.f16.body.map loopsIn).getD []).getD 1 .skip
set_option maxRecDepth 100000 in
set_option maxHeartbeats 1600000 in
theorem fhInnerP {Q : Exit → Act → World → Prop} {s0 s1 s3 s4 s5 s6 s7 s8 s9 s12 s13 s14 s15 s16 s17 s18 s19 s20 s21 s22 s23 s24 s25 s26 s27 s28 s29 s30 s31 s32 s33 s34 s35 s39 s40 s41 s42 s43 s44 s45 s46 s47 s48 s49 s50 s51 s52 s53 s54 s55 s56 s57 s58 s59 s60 s61 s62 s63 : Value} {s n cd : Nat} {D : Option Addr} {l : List Int} {w : World}
    (hs : s < 2 ^ 36) (hn : n ≤ 36) (hl : l.length = n) (hD : Rd w D (vI l))
    (hexit : ∀ (v12 v13 v39 v40 v41 v42 v43 v44 v45 v46 v47 v48 v49 v50 v51 v52 : Value) (E : Option Addr) (cE : Nat) (w3 : World), w3.ownsRow w.heap.size 3 1 (.slice E n cE) n (vI (hintS l s n)) → Below w.heap.size w w3 → Q (.exit 2) ⟨List.toArray (s0 :: s1 :: (.slice D n cd) :: s3 :: s4 :: s5 :: s6 :: s7 :: s8 :: s9 :: (.int .i64 (s : Int)) :: (.slice E n cE) :: v12 :: v13 :: s14 :: s15 :: s16 :: s17 :: s18 :: s19 :: s20 :: s21 :: s22 :: s23 :: s24 :: s25 :: s26 :: s27 :: s28 :: s29 :: s30 :: s31 :: s32 :: s33 :: s34 :: s35 :: (.slice D n cd) :: (.int .i64 (n : Int)) :: (.int .i64 (n : Int)) :: v39 :: v40 :: v41 :: v42 :: v43 :: v44 :: v45 :: v46 :: v47 :: v48 :: v49 :: v50 :: v51 :: v52 :: s53 :: s54 :: s55 :: s56 :: s57 :: s58 :: s59 :: s60 :: s61 :: s62 :: s63 :: []), []⟩ w3) :
    Code.wp Tryz.prog (Code.loop fhInP) Q ⟨List.toArray (s0 :: s1 :: (.slice D n cd) :: s3 :: s4 :: s5 :: s6 :: s7 :: s8 :: s9 :: (.int .i64 (s : Int)) :: (.slice none 0 0) :: s12 :: s13 :: s14 :: s15 :: s16 :: s17 :: s18 :: s19 :: s20 :: s21 :: s22 :: s23 :: s24 :: s25 :: s26 :: s27 :: s28 :: s29 :: s30 :: s31 :: s32 :: s33 :: s34 :: s35 :: (.slice D n cd) :: (.int .i64 (n : Int)) :: (.int .i64 0) :: s39 :: s40 :: s41 :: s42 :: s43 :: s44 :: s45 :: s46 :: s47 :: s48 :: s49 :: s50 :: s51 :: s52 :: s53 :: s54 :: s55 :: s56 :: s57 :: s58 :: s59 :: s60 :: s61 :: s62 :: s63 :: []), []⟩ w := by
  have HD := Lib.hid hD
  have HL := Lib.hid hl
  have HX := Lib.hid @hexit
  clear hD hl hexit
  conv => arg 2; arg 1; whnf
  go_loopw [38, 11] (fun e38 e11 wr => ∃ (i cE : Nat) (E : Option Addr), i ≤ n ∧ e38 = .int .i64 i ∧ e11 = .slice E i cE ∧ wr.ownsRow w.heap.size 3 1 (.slice E i cE) i (vI (hintS l s i)) ∧ Below w.heap.size w wr) (fun e38 _ _ => n - (intOf e38).toNat)
  case atStart => exact ⟨0, 0, none, Nat.zero_le _, rfl, rfl, own_nil _ _ _ _, Below.refl _ _⟩
  case round =>
    obtain ⟨i, cE, E, hi, rfl, rfl, hO, hb⟩ := hrel
    have HO := Lib.hid hO
    have HB := Lib.hid hb
    clear hO hb
    by_cases hlt : i < n
    · have hi0 : (0 : Int) ≤ (i : Int) := by omega
      have hi1 : (i : Int) < (n : Int) := by omega
      have hi64 : (i : Int) ≤ 64 := by omega
      have ei : IntKind.i64.wrap (i : Int) = (i : Int) := Go.IntWalk.i64_in _ (by omega)
      have hil : i < l.length := by rw [HL.out]; exact hlt
      have hbit := bit_testZ s i (by omega)
      obtain ⟨d, hd⟩ : ∃ d, s / 2 ^ i = d := ⟨_, rfl⟩
      have hdI : (s : Int) / 2 ^ i = (d : Int) := by rw [← hd]; simp
      rw [hdI] at hbit
      obtain ⟨g, off, hDe, hg1, d1⟩ := RdI.at_ (HD.out.below HB.out) hil
      have hst : hintS l s (i + 1) = hintS l s i ++ [if s.testBit i then l[i] else -1] := by
        show hintS l s i ++ [if s.testBit i then l.getD i 0 else -1] = _
        rw [List.getD_eq_getElem?_getD, List.getElem?_eq_getElem hil]
        rfl
      obtain ⟨v, hv⟩ : ∃ v, l[i] = v := ⟨_, rfl⟩
      rw [hv] at hst d1
      subst hDe
      clear hd hv
      cases hbt : s.testBit i with
      | false =>
        rw [hbt] at hbit hst
        simp only [Bool.false_eq_true, if_false, Bool.not_false] at hbit hst
        have HST := Lib.hid hst
        clear hst hbt
        go_wp2_with (at_builtin; go_must (refine app_I _ rfl _ _ rfl w.heap.size _ _ _ (hintS l s i) rfl (HO.out.alloc _) _ _ _ [(-1 : Int)] rfl (rd_newI _ _ _) rfl (by omega) (by have := HB.out.size; simp; omega) ?_); intro A5 c5 w5 ho5 hg5 hat5; have HO5 := Lib.hid ho5; have HG5 := Lib.hid hg5; clear ho5 hg5 hat5)
        exact ⟨⟨i + 1, c5, A5, by omega, by go_num, rfl, by rw [HST.out]; exact HO5.out, bel_app (bel_alloc HB.out _) HG5.out (fun g e => (own_lt HO.out g e).1)⟩, by simp [intOf]; omega⟩
      | true =>
        rw [hbt] at hbit hst
        simp only [if_true, Bool.not_true] at hbit hst
        have HST := Lib.hid hst
        clear hst hbt
        go_wp2_with (at_builtin; go_must (refine app_I _ rfl _ _ rfl w.heap.size _ _ _ (hintS l s i) rfl (HO.out.alloc _) _ _ _ [v] rfl (rd_newI _ _ _) rfl (by omega) (by have := HB.out.size; simp; omega) ?_); intro A5 c5 w5 ho5 hg5 hat5; have HO5 := Lib.hid ho5; have HG5 := Lib.hid hg5; clear ho5 hg5 hat5)
        exact ⟨⟨i + 1, c5, A5, by omega, by go_num, rfl, by rw [HST.out]; exact HO5.out, bel_app (bel_alloc HB.out _) HG5.out (fun g e => (own_lt HO.out g e).1)⟩, by simp [intOf]; omega⟩
    · obtain rfl : i = n := by omega
      have hi1 : ¬ (i : Int) < (i : Int) := by omega
      go_wp2_with fail
      exact HX.out _ _ _ _ _ _ _ _ _ _ _ _ _ _ _ _ _ _ _ HO.out HB.out
theorem bestP_none {one : Nat → Bool} {s : Nat} (h : bestP one s = none) : bestP one (s + 1) = if one s = true then some s else none := by
  show (match bestP one s with
    | some b => if pop s < pop b ∧ one s = true then some s else some b
    | none => if one s = true then some s else none) = _
  rw [h]
theorem bestP_some {one : Nat → Bool} {s b : Nat} (h : bestP one s = some b) : bestP one (s + 1) = if pop s < pop b ∧ one s = true then some s else some b := by
  show (match bestP one s with
    | some b => if pop s < pop b ∧ one s = true then some s else some b
    | none => if one s = true then some s else none) = _
  rw [h]
theorem fewV_len (W : Int) (rows : List Int) (P : List (List C)) (l : List Int) : (fewV W rows P l).length ≤ 5 := by
  unfold fewV
  split
  · next h =>
    have hreg := h
    unfold solV at hreg
    simp only [Bool.and_eq_true, beq_iff_eq] at hreg
    obtain ⟨⟨hvr, hpc⟩, hlen, _⟩ := hreg
    have h5 := (pcs_small hpc).1
    obtain ⟨b, _, _, e⟩ := best_end (oneV W rows P l) l l.length (by omega) rfl (oneV_full h)
    rw [e, hintS_len]
    omega
  · simp
/-- The program's choice, as it lies in the frame. -/
def bestN : Option Nat → Int
  | none => -1
  | some b => (b : Int)
def bestL (l : List Int) (k : Nat) : Option Nat → List Int
  | none => []
  | some b => hintS l b k
set_option maxRecDepth 100000 in
set_option maxHeartbeats 3200000 in
theorem FewestHints_i (W : Int) (A B D : Option Addr) (n c q cb k cd : Nat) (rows l : List Int) (hs : List H) (P : List (List C)) (w : World) (hr : Rd w A (vI rows)) (hl : rows.length = n) (hp : RdP w B q hs P) (hq : q ≤ 1048576) (hm : totC P ≤ 1048576) (hrd : Rd w D (vI l)) (hll : l.length = k) (hk : k ≤ 1048576) :
    Calls Tryz.prog 16 #[.agg #[.int .i64 W, .slice A n c], .slice B q cb, .slice D k cd] w (RetS2 w 3 1 (vI (fewV W rows P l)) (.bool (solV W rows P l))) := by
  have HL := Lib.hid hl
  have HR := Lib.hid (hr.alloc (.cells #[.int .i64 W, .slice A n c] 26))
  have HP := Lib.hid (hp.alloc (.cells #[.int .i64 W, .slice A n c] 26))
  have HLL := Lib.hid hll
  have HRD := Lib.hid (hrd.alloc (.cells #[.int .i64 W, .slice A n c] 26))
  have HB1 := Lib.hid (Blk.new w 26 #[.int .i64 W, .slice A n c])
  have hbw1 : Below w.heap.size w (w.alloc (.cells #[.int .i64 W, .slice A n c] 26)) := bel_alloc (Below.refl _ _) _
  have HM := Lib.hid hm
  have HPF := Lib.hid hp.flen
  have hb0 : (w.alloc (.cells #[.int .i64 W, .slice A n c] 26)).cell? ⟨w.heap.size, 0, none⟩ = some (.int .i64 W) := by simp
  clear hl hr hp hm hll hrd
  cases hsv : solV W rows P l with
  | false =>
    have HV : Hid (fewV W rows P l = []) := by show _ = _; unfold fewV; rw [hsv]; rfl
    have HSV := Lib.hid hsv
    clear hsv
    go_enter Tryz.func16, Tryz.ntmps16
    go_wp2_with fail
    refine (IsSolution_i W A B D n c q cb k cd rows l hs P _ HR.out HL.out HP.out hq HM.out HRD.out HLL.out hk).mono ?_
    rw [HSV.out]
    rintro e w1 ⟨rfl, hb1⟩
    have HB := Lib.hid hb1
    clear hb1 hb0
    go_wp2_with fail
    go_ret2
    exact ⟨none, 0, 0, rfl, by rw [HV.out]; exact own_nil _ _ _ _, bel_trans hbw1 HB.out⟩
  | true =>
    have hreg := hsv
    unfold solV at hreg
    simp only [Bool.and_eq_true, beq_iff_eq] at hreg
    obtain ⟨⟨hvr, hpc⟩, hlen, _⟩ := hreg
    have hkq : k = q := by have h1 := HLL.out; have h2 := HPF.out; omega
    have hq5 := (pcs_small hpc).1
    rw [HPF.out] at hq5
    subst hkq
    obtain ⟨one, hone⟩ : ∃ one, oneV W rows P l = one := ⟨_, rfl⟩
    have hfull := oneV_full hsv
    rw [hone, HLL.out] at hfull
    obtain ⟨bE, hbE, hbE2, hbE3⟩ := best_end one l k (by omega) HLL.out hfull
    obtain ⟨T, hT⟩ : ∃ T : Nat, 2 ^ k = T := ⟨_, rfl⟩
    rw [hT] at hbE hbE2 hbE3
    have hTI : (2 : Int) ^ k = (T : Int) := by rw [← hT]; simp
    have hT5 : T ≤ 2 ^ 5 := by rw [← hT]; exact Nat.pow_le_pow_right (by decide) hq5
    have HV : Hid (fewV W rows P l = hintS l bE k) := by show _ = _; unfold fewV; rw [hsv, if_pos rfl, HLL.out, hone, hT, hbE3]
    have HON : Hid (∀ s, one s = true ↔ cwhV W rows P (hintS l s k) = 1) := fun s => by
      rw [← hone]
      unfold oneV cwhV
      rw [HLL.out, hvr, hpc, hintS_len, HPF.out]
      simp
      omega
    have HEND := Lib.hid hbE2
    have HSV := Lib.hid hsv
    have hk0 : (0 : Int) ≤ (k : Int) := by omega
    have hk64 : (k : Int) ≤ 64 := by omega
    have ek : IntKind.i64.wrap (k : Int) = (k : Int) := Go.IntWalk.i64_in _ (by omega)
    have eT : IntKind.i64.wrap (T : Int) = (T : Int) := Go.IntWalk.i64_in _ (by omega)
    clear hsv hvr hpc hlen hone hT hfull hbE hbE2 hbE3
    go_enter Tryz.func16, Tryz.ntmps16
    go_wp2_with fail
    refine (IsSolution_i W A B D n c k cb k cd rows l hs P _ HR.out HL.out HP.out hq HM.out HRD.out HLL.out hk).mono ?_
    rw [HSV.out]
    rintro e w1 ⟨rfl, hb1⟩
    have HBX := Lib.hid (HB1.out.below hb1)
    have HBW := Lib.hid (bel_trans hbw1 hb1)
    have HR1 := Lib.hid (HR.out.below hb1)
    have HP1 := Lib.hid (HP.out.below hb1)
    have HRD1 := Lib.hid (HRD.out.below hb1)
    clear hb1 hb0 hbw1 HR HP HRD HB1
    go_wp2_with fail
    go_loopw [22, 8, 9] (fun e22 e8 e9 wr => ∃ (s n8 c8 : Nat) (D8 : Option Addr) (bo : Option Nat), s ≤ T ∧ e22 = .int .i64 s ∧ e8 = .slice D8 n8 c8 ∧ e9 = .int .i64 (bestN bo) ∧ bestP one s = bo ∧ (∀ b, bo = some b → b < T) ∧ wr.ownsRow w.heap.size 3 1 (.slice D8 n8 c8) n8 (vI (bestL l k bo)) ∧ Below w1.heap.size w1 wr) (fun e22 _ _ _ => T - (intOf e22).toNat)
    case atStart => exact ⟨0, 0, 0, none, none, Nat.zero_le _, rfl, rfl, rfl, rfl, (fun b h => by cases h), own_nil _ _ _ _, Below.refl _ _⟩
    case round =>
      obtain ⟨s, n8, c8, D8, bo, hsT, rfl, rfl, rfl, hbs, hbT, hO8, hb⟩ := hrel
      have HBS := Lib.hid hbs
      have HO8 := Lib.hid hO8
      have HBR := Lib.hid hb
      clear hbs hO8 hb
      by_cases hlt : s < T
      · have hi0 : (0 : Int) ≤ (s : Int) := by omega
        have hi1 : (s : Int) < (T : Int) := by omega
        have hs36 : s < 2 ^ 36 := by omega
        cases bo with
        | none =>
          have hst2 := bestP_none HBS.out
          have HST := Lib.hid hst2
          have hm1 : bestN none = -1 := rfl
          rw [hm1]
          have hge : ¬ ((-1 : Int) ≥ 0) := by omega
          clear hst2 hbT hm1
          go_wp2_with fail
          have HRR : Hid (Below wr.heap.size wr wr) := Below.refl _ _
          refine fhInnerP hs36 (by omega) HLL.out (HRD1.out.below HBR.out) ?_
          intro _ _ _ _ _ _ _ _ _ _ _ _ _ _ _ _ E cE w4 hO4 hb4
          have HO4 := Lib.hid hO4
          have HB4 := Lib.hid (bel_trans HBR.out hb4)
          have HO8b := Lib.hid (own_keep HO8.out (bel_trans HRR.out hb4))
          have hB := HBX.out.below HB4.out
          have b0 : w4.cell? ⟨w.heap.size, 0, none⟩ = some (.int .i64 W) := by simpa using hB.cell 0
          have b1 : w4.cell? ⟨w.heap.size, 1, none⟩ = some (.slice A n c) := by simpa using hB.cell 1
          have hgw := hB.lt
          have hwE : w.heap.size ≤ wr.heap.size := by have h1 := HBW.out.size; have h2 := HBR.out.size; omega
          clear hO4 hb4 hB
          go_wp2_with fail
          refine (CountWithHint_i W A B E n c k cb k cE rows (hintS l s k) hs P w4 (HR1.out.below HB4.out) HL.out (HP1.out.below HB4.out) hq HM.out (Rd.of_own HO4.out) (hintS_len _ _ _) hk).mono ?_
          have hon := HON.out s
          obtain ⟨cw, hcw⟩ : ∃ cw, cwhV W rows P (hintS l s k) = cw := ⟨_, rfl⟩
          rw [hcw] at hon ⊢
          rintro e w6 ⟨rfl, hb6⟩
          have HB6 := Lib.hid (bel_trans HB4.out hb6)
          cases ho : one s with
          | true =>
            have hcw1 : cw = 1 := hon.1 ho
            have hue : (cw == 1) = true := by simp [hcw1]
            have hst2 : bestP one (s + 1) = some s := by rw [HST.out, if_pos ho]
            have HST2 := Lib.hid hst2
            have HO6 := Lib.hid (own_mono2 (own_keep HO4.out hb6) hwE)
            clear hst2 hon hcw ho hcw1 hb6 b0 b1 hgw
            go_wp2_with fail
            exact ⟨⟨s + 1, k, cE, E, some s, by omega, by go_num, rfl, rfl, HST2.out, fun b h => by injection h with h; omega, HO6.out, HB6.out⟩, by simp [intOf]; omega⟩
          | false =>
            have hcw1 : ¬ cw = 1 := fun e => by rw [hon.2 e] at ho; cases ho
            have hue : (cw == 1) = false := by simpa using hcw1
            have hst2 : bestP one (s + 1) = none := by rw [HST.out, if_neg (by rw [ho]; simp)]
            have HST2 := Lib.hid hst2
            have HO6 := Lib.hid (own_keep HO8b.out hb6)
            clear hst2 hon hcw ho hcw1 hb6 b0 b1 hgw
            go_wp2_with fail
            exact ⟨⟨s + 1, n8, c8, D8, none, by omega, by go_num, rfl, rfl, HST2.out, (fun b h => by cases h), HO6.out, HB6.out⟩, by simp [intOf]; omega⟩
        | some b =>
          have hst2 := bestP_some HBS.out
          have HST := Lib.hid hst2
          have hb36 := hbT b rfl
          have hm1 : bestN (some b) = (b : Int) := rfl
          rw [hm1]
          have hge : (b : Int) ≥ 0 := by omega
          have hus : IntKind.u64.wrap (s : Int) = (s : Int) := wraps_u64 _ (by omega) (by omega)
          have hub : IntKind.u64.wrap (b : Int) = (b : Int) := wraps_u64 _ (by omega) (by omega)
          clear hst2 hm1
          go_wp2_with fail
          refine (OnesCount_l s _ (by omega)).mono ?_
          rintro e wA ⟨rfl, hbA⟩
          go_wp2_with fail
          refine (OnesCount_l b _ (by omega)).mono ?_
          rintro e wB ⟨rfl, hbB⟩
          have HAB := Lib.hid (bel_trans hbA hbB)
          have HBB := Lib.hid (bel_trans HBR.out HAB.out)
          obtain ⟨ps, hps⟩ : ∃ ps, pop s = ps := ⟨_, rfl⟩
          obtain ⟨pb, hpb⟩ : ∃ pb, pop b = pb := ⟨_, rfl⟩
          rw [hps, hpb] at HST ⊢
          clear hbA hbB hus hub hge hps hpb
          by_cases hpp : ps < pb
          · have hpp2 : ¬ ((ps : Int) ≥ (pb : Int)) := by omega
            go_wp2_with fail
            refine fhInnerP hs36 (by omega) HLL.out (HRD1.out.below HBB.out) ?_
            intro _ _ _ _ _ _ _ _ _ _ _ _ _ _ _ _ E cE w4 hO4 hb4
            have HO4 := Lib.hid hO4
            have HB4 := Lib.hid (bel_trans HBB.out hb4)
            have HO8b := Lib.hid (own_keep HO8.out (bel_trans HAB.out hb4))
            have hB := HBX.out.below HB4.out
            have b0 : w4.cell? ⟨w.heap.size, 0, none⟩ = some (.int .i64 W) := by simpa using hB.cell 0
            have b1 : w4.cell? ⟨w.heap.size, 1, none⟩ = some (.slice A n c) := by simpa using hB.cell 1
            have hgw := hB.lt
            have hwE : w.heap.size ≤ wB.heap.size := by have h1 := HBW.out.size; have h2 := HBB.out.size; omega
            clear hO4 hb4 hB
            go_wp2_with fail
            refine (CountWithHint_i W A B E n c k cb k cE rows (hintS l s k) hs P w4 (HR1.out.below HB4.out) HL.out (HP1.out.below HB4.out) hq HM.out (Rd.of_own HO4.out) (hintS_len _ _ _) hk).mono ?_
            have hon := HON.out s
            obtain ⟨cw, hcw⟩ : ∃ cw, cwhV W rows P (hintS l s k) = cw := ⟨_, rfl⟩
            rw [hcw] at hon ⊢
            rintro e w6 ⟨rfl, hb6⟩
            have HB6 := Lib.hid (bel_trans HB4.out hb6)
            cases ho : one s with
            | true =>
              have hcw1 : cw = 1 := hon.1 ho
              have hue : (cw == 1) = true := by simp [hcw1]
              have hst2 : bestP one (s + 1) = some s := by rw [HST.out, if_pos ⟨hpp, ho⟩]
              have HST2 := Lib.hid hst2
              have HO6 := Lib.hid (own_mono2 (own_keep HO4.out hb6) hwE)
              clear hst2 hon hcw ho hcw1 hb6 b0 b1 hgw
              go_wp2_with fail
              exact ⟨⟨s + 1, k, cE, E, some s, by omega, by go_num, rfl, rfl, HST2.out, fun b h => by injection h with h; omega, HO6.out, HB6.out⟩, by simp [intOf]; omega⟩
            | false =>
              have hcw1 : ¬ cw = 1 := fun e => by rw [hon.2 e] at ho; cases ho
              have hue : (cw == 1) = false := by simpa using hcw1
              have hst2 : bestP one (s + 1) = (some b) := by rw [HST.out, if_neg (fun h => by rw [ho] at h; cases h.2)]
              have HST2 := Lib.hid hst2
              have HO6 := Lib.hid (own_keep HO8b.out hb6)
              clear hst2 hon hcw ho hcw1 hb6 b0 b1 hgw
              go_wp2_with fail
              exact ⟨⟨s + 1, n8, c8, D8, (some b), by omega, by go_num, rfl, rfl, HST2.out, fun b' h => by injection h with h; omega, HO6.out, HB6.out⟩, by simp [intOf]; omega⟩
          · have hpp2 : (ps : Int) ≥ (pb : Int) := by omega
            have hst2 : bestP one (s + 1) = some b := by rw [HST.out, if_neg (fun h => hpp h.1)]
            have HST2 := Lib.hid hst2
            clear hst2
            go_wp2_with fail
            exact ⟨⟨s + 1, n8, c8, D8, some b, by omega, by go_num, rfl, rfl, HST2.out, fun b' h => by injection h with h; omega, own_keep HO8.out HAB.out, HBB.out⟩, by simp [intOf]; omega⟩
      · obtain rfl : s = T := by omega
        have hi1 : ¬ (s : Int) < (s : Int) := by omega
        have hbo : bo = some bE := by rw [← HBS.out]; exact HEND.out
        subst hbo
        have hm1 : bestN (some bE) = (bE : Int) := rfl
        rw [hm1]
        have hge : (bE : Int) ≥ 0 := by omega
        clear hm1
        go_wp2_with fail
        go_ret2
        exact ⟨_, _, _, rfl, by rw [HV.out]; exact HO8.out, bel_trans HBW.out HBR.out⟩
end Go.Proofs.YtcgjnonlndaoeaaGreat

/- What the law on puzzles says of solutions and hints: plain. No program is in sight. -/
namespace Go.Proofs.YtcgjnonlndaoeaaGreat
open Go.RowKit
set_option linter.unusedVariables false
theorem mem_solG {ps : List (List Int)} {free : Nat} {m : Int} {x : List Int} (h : x ∈ solG ps free m) : inM m.toNat free = true ∧ ∃ y ∈ solA ps (free - m.toNat), x = m :: y := by
  unfold solG at h
  split at h
  · next hi =>
    obtain ⟨y, hy, rfl⟩ := List.mem_map.1 h
    exact ⟨hi, y, hy, rfl⟩
  · cases h
theorem inM_bit {m free b : Nat} (h : inM m free = true) (hb : m.testBit b = true) : free.testBit b = true := by
  unfold inM at h
  rw [beq_iff_eq] at h
  rw [← h, Nat.testBit_and, Bool.and_eq_true] at hb
  exact hb.2
theorem disj_of {u m : Nat} (h : ∀ b, u.testBit b = true → m.testBit b = false) : u &&& m = 0 := by
  apply Nat.eq_of_testBit_eq
  intro b
  rw [Nat.testBit_and, Nat.zero_testBit]
  cases hu : u.testBit b with
  | false => rfl
  | true => rw [h b hu]; rfl
theorem high_bit {m b : Nat} (h : m < 2 ^ 62) (hb : 62 ≤ b) : m.testBit b = false := Nat.testBit_lt_two_pow (Nat.lt_of_lt_of_le h (Nat.pow_le_pow_right (by decide) hb))
/-- On the way through a solution: what is covered and what is left. -/
theorem sol_way {W : Int} {rows : List Int} {P : List (List C)} {x : List Int} (hx : x ∈ solA (placesV W rows P) (maskV W rows)) : ∀ k, k ≤ P.length → ∃ u rest : Nat, solTo W rows P x k = some u ∧ rest < 2 ^ 62 ∧ u < 2 ^ 62 ∧ (∀ b, (maskV W rows).testBit b = (u.testBit b || rest.testBit b)) ∧ (∀ b, u.testBit b = true → rest.testBit b = false) ∧ x.drop k ∈ solA ((placesV W rows P).drop k) rest
  | 0, _ => ⟨0, maskV W rows, rfl, mask62 _ _, by decide, fun b => by simp, fun b h => by simp at h, by simpa using hx⟩
  | k + 1, hk => by
    obtain ⟨u, rest, hs, hr62, hu62, hbits, hdis, hin⟩ := sol_way hx k (by omega)
    have hkP : k < P.length := by omega
    have hkp : k < (placesV W rows P).length := by unfold placesV; rw [List.length_map]; exact hkP
    have hxl : x.length = P.length := by rw [sol_len _ _ x hx]; unfold placesV; rw [List.length_map]
    have hkx : k < x.length := by omega
    rw [List.drop_eq_getElem_cons hkp, solA_cons, List.mem_flatMap] at hin
    obtain ⟨m, hm, hg⟩ := hin
    obtain ⟨hi, y, hy, he⟩ := mem_solG hg
    rw [List.drop_eq_getElem_cons hkx] at he
    injection he with he1 he2
    have hpk : (placesV W rows P)[k] = plV W rows P[k] := by simp [placesV]
    rw [hpk] at hm
    obtain ⟨t, ht, ht36⟩ := plV_msk W rows P[k] m hm
    have htn : m.toNat = t := by rw [ht, Int.toNat_natCast]
    have ht62 : t < 2 ^ 62 := by omega
    rw [htn] at hi hy
    have e1 : P.getD k [] = P[k] := by rw [List.getD_eq_getElem?_getD, List.getElem?_eq_getElem hkP]; rfl
    have e2 : x.getD k 0 = m := by rw [List.getD_eq_getElem?_getD, List.getElem?_eq_getElem hkx, he1]; rfl
    have hd : u &&& t = 0 := disj_of fun b hb => by
      cases htb : t.testBit b with
      | false => rfl
      | true => have h9 := hdis b hb; rw [inM_bit hi htb] at h9; cases h9
    have hok : solOk W rows P x k u = true := by
      unfold solOk
      rw [e1, e2, htn, hd, Bool.and_eq_true]
      exact ⟨List.any_eq_true.2 ⟨m, hm, by simp⟩, rfl⟩
    refine ⟨u ||| t, rest - t, ?_, by omega, Nat.or_lt_two_pow hu62 ht62, fun b => ?_, fun b hb => ?_, ?_⟩
    · show optTo _ _ (k + 1) = _
      rw [optTo_succ hs, hok, e2, htn]
      rfl
    · rw [hbits b, Nat.testBit_or]
      by_cases h62 : b < 62
      · rw [sub_bit hi hr62 b h62]
        cases htb : t.testBit b with
        | false => simp
        | true => rw [inM_bit hi htb]; simp
      · rw [high_bit hr62 (by omega), high_bit ht62 (by omega), high_bit (show rest - t < 2 ^ 62 by omega) (by omega)]
        simp
    · by_cases h62 : b < 62
      · rw [sub_bit hi hr62 b h62]
        rw [Nat.testBit_or, Bool.or_eq_true] at hb
        rcases hb with hb | hb
        · rw [hdis b hb]; rfl
        · rw [hb]; simp
      · exact high_bit (by omega) (by omega)
    · rw [he2]
      exact hy
/-- Each solution that is listed is one. -/
theorem psV_sol {W : Int} {rows : List Int} {P : List (List C)} {x : List Int} (hx : x ∈ psV W rows P) : solV W rows P x = true := by
  unfold psV at hx
  split at hx
  · next hv =>
    unfold puzV at hx
    split at hx
    · have hx2 := List.mem_of_mem_take hx
      have hz := zip_free (placesV W rows P)
      rw [show (placesV W rows P).length = P.length by unfold placesV; rw [List.length_map]] at hz
      rw [hz] at hx2
      have hxl : x.length = P.length := by rw [sol_len _ _ x hx2]; unfold placesV; rw [List.length_map]
      obtain ⟨u, rest, hs, hr62, hu62, hbits, hdis, hin⟩ := sol_way hx2 P.length (Nat.le_refl _)
      rw [List.drop_eq_nil_of_le (show (placesV W rows P).length ≤ P.length by unfold placesV; rw [List.length_map]; exact Nat.le_refl _)] at hin
      have hr0 : rest = 0 := by
        by_cases h : rest = 0
        · exact h
        · have : solA [] rest = [] := by show (if rest = 0 then [[]] else []) = _; rw [if_neg h]
          rw [this] at hin
          cases hin
      have hu : u = maskV W rows := by
        apply Nat.eq_of_testBit_eq
        intro b
        rw [hbits b, hr0]
        simp
      unfold solV
      rw [hv, hxl, hs, hu]
      simp [optIs]
    · cases hx
  · cases hx
theorem flat_sub {α β : Type} {g' g : α → List β} (hg : ∀ x, (g' x).Sublist (g x)) : ∀ {p' p : List α}, p'.Sublist p → (p'.flatMap g').Sublist (p.flatMap g) := by
  intro p' p h
  induction h with
  | slnil => exact List.Sublist.slnil
  | cons a h ih => rw [List.flatMap_cons]; exact ih.trans (List.sublist_append_right _ _)
  | cons_cons a h ih => rw [List.flatMap_cons, List.flatMap_cons]; exact List.Sublist.append (hg a) ih
theorem hintP_sub (h : Int) (p : List Int) : (hintP h p).Sublist p := by
  unfold hintP
  split
  · exact List.filter_sublist
  · exact List.Sublist.refl _
theorem hint_sub : ∀ (hint : List Int) (L : List (List Int)) (free : Nat), hint.length = L.length → (solA (List.zipWith hintP hint L) free).Sublist (solA L free)
  | [], [], free, _ => List.Sublist.refl _
  | [], _ :: _, _, h => by simp at h
  | _ :: _, [], _, h => by simp at h
  | h :: hs, p :: ps, free, hl => by
    rw [List.zipWith_cons_cons, solA_cons, solA_cons]
    refine flat_sub (fun m => ?_) (hintP_sub h p)
    unfold solG
    split
    · exact List.Sublist.map _ (hint_sub hs ps _ (by simpa using hl))
    · exact List.Sublist.refl _
theorem cwh_le (W : Int) (rows : List Int) (P : List (List C)) (hint : List Int) : cwhV W rows P hint ≤ csV W rows P := by
  unfold cwhV csV psV
  by_cases hv : (isReg W rows && pcs P) = true
  · rw [if_pos hv, if_pos hv]
    split
    · next h =>
      simp only [Bool.and_eq_true, beq_iff_eq] at h
      have hpl : (placesV W rows P).length = P.length := by unfold placesV; rw [List.length_map]
      have hz := zip_free (placesV W rows P)
      rw [hpl] at hz
      unfold puzV
      split
      · rw [hz, List.length_take, List.length_take]
        have := (hint_sub hint (placesV W rows P) (maskV W rows) (by rw [hpl]; exact h.2)).length_le
        omega
      · simp
    · omega
  · rw [if_neg hv]
    split
    · next h =>
      simp only [Bool.and_eq_true] at h hv
      exact absurd h.1 hv
    · omega
theorem bestP_one {one : Nat → Bool} : ∀ {k b : Nat}, bestP one k = some b → one b = true
  | 0, b, h => by cases h
  | k + 1, b, h => by
    unfold bestP at h
    split at h
    · next b' hb' =>
      split at h
      · next hc => injection h with h; subst h; exact hc.2
      · injection h with h; subst h; exact bestP_one hb'
    · split at h
      · next hc => injection h with h; subst h; exact hc
      · cases h
theorem few_one {W : Int} {rows : List Int} {P : List (List C)} {l : List Int} (h : solV W rows P l = true) : cwhV W rows P (fewV W rows P l) = 1 := by
  have h2 := h
  unfold solV at h2
  simp only [Bool.and_eq_true, beq_iff_eq] at h2
  have hp5 := (pcs_small h2.1.2).1
  obtain ⟨b, hb, hbP, hbR⟩ := best_end (oneV W rows P l) l l.length (by omega) rfl (oneV_full h)
  have ho := bestP_one hbP
  unfold oneV at ho
  rw [beq_iff_eq] at ho
  have hf : fewV W rows P l = hintS l b l.length := by unfold fewV; rw [if_pos h, hbR]
  unfold cwhV
  rw [hf, hintS_len, ho, if_pos (by simp [h2.1.1, h2.1.2, h2.2.1])]
  rfl
end Go.Proofs.YtcgjnonlndaoeaaGreat

/- The reference's draws of puzzles for the law. -/
namespace Go.Proofs.YtcgjnonlndaoeaaGreat
open Go.RowKit
set_option linter.unusedVariables false
attribute [local go_sem ↓] Go.wp_at_zero Go.wp_at_succ

theorem totC_le70 {base : Nat} {w : World} {B : Option Addr} {q cB : Nat} {hs : List H} {P : List (List C)} (h : PcF base w B q cB hs P) (hq : q ≤ 5) : totC P ≤ 350 := by
  have h1 := totC_leP (m := 70) P (fun f hf => by
    obtain ⟨k, hk, rfl⟩ := List.getElem_of_mem hf
    exact (h.row k (by rw [h.len]; exact hk) hk).2.1)
  have h2 := h.qlen
  have h3 := h.len
  have : 70 * P.length ≤ 350 := by omega
  omega
/-- A region and pieces were drawn. -/
def RetBo (w : World) (e : Ending) (w' : World) : Prop :=
  ∃ (m k : Nat) (D : Option Addr) (cD : Nat) (rows : List Int) (B : Option Addr) (q cB : Nat) (hs : List H) (P : List (List C)), e = .returned (.tuple #[.agg #[.int .i64 (m : Int), .slice D k cD], .slice B q cB]) ∧ Rd w' D (vI rows) ∧ rows.length = k ∧ k ≤ 6 ∧ (∀ b, ob D = some b → w.heap.size < b) ∧ PcF (w.heap.size + 1) w' B q cB hs P ∧ q ≤ 5 ∧ Below w.heap.size w w'
set_option maxRecDepth 100000 in
set_option maxHeartbeats 3200000 in
theorem l22Both_s (A : Option Addr) (n c : Nat) (bs : List UInt8) (w : World) (hr : Rd w A (vB bs)) (hl : bs.length = n) (hn : n ≤ 1048576) :
    Calls Tryz.prog 24 #[.slice A n c] w (RetBo w) := by
  have hBZ := Blk.new w 26 #[.int .i64 0, .slice none 0 0]
  have hb0 := bel_alloc (Below.refl w.heap.size w) (.cells #[.int .i64 0, .slice none 0 0] 26)
  have hr0 := hr.below hb0
  obtain ⟨w1, hw1⟩ : ∃ w1, w.alloc (.cells #[.int .i64 0, .slice none 0 0] 26) = w1 := ⟨_, rfl⟩
  have hsz1 : w1.heap.size = w.heap.size + 1 := by rw [← hw1]; simp
  rw [hw1] at hBZ hb0 hr0
  have HW1 := Lib.hid hw1
  have HSZ1 := Lib.hid hsz1
  have HBZ := Lib.hid hBZ
  have HB0 := Lib.hid hb0
  have HR0 := Lib.hid hr0
  have HL := Lib.hid hl
  clear hBZ hb0 hw1 hsz1 hr hr0 hl
  go_enter Tryz.func24, Tryz.ntmps24
  go_wp2_with fail
  rw [HW1.out]
  clear HW1
  go_wp2_with fail
  refine (l1New_s A n c bs w1 HR0.out HL.out hn).mono ?_
  rintro e w2 ⟨g, rfl, hc, hg, hb2⟩
  have HC := Lib.hid hc
  have HB2 := Lib.hid hb2
  have hs2 := hb2.size
  clear hc hb2
  go_wp2_with fail
  refine (l22Puzzle_s A n c g bs w2 HC.out hn).mono ?_
  rintro e w3 ⟨m, k, D, cD, rows, B, q, cB, hs, P, rfl, hr3, hl3, hk6, hD, hP, hq, hc3, hg3⟩
  have HB3 := Lib.hid (grown_newD HB2.out hg hg3)
  have hs3 := HB3.out.size
  have H1 := Lib.hid hr3
  have H2 := Lib.hid hl3
  have H3 := Lib.hid hD
  have H4 := Lib.hid hP
  clear hr3 hl3 hD hP hc3 hg3 HC
  obtain ⟨W, hW⟩ : ∃ W : Int, (m : Int) = W := ⟨_, rfl⟩
  rw [hW]
  have HZ3 := Lib.hid (HBZ.out.below HB3.out)
  have z0 : w3.cell? ⟨w.heap.size, 0, none⟩ = some (.int .i64 0) := by simpa using HZ3.out.cell 0
  have z1 : w3.cell? ⟨w.heap.size, 1, none⟩ = some (.slice none 0 0) := by simpa using HZ3.out.cell 1
  have g0 := HZ3.out.frozen 0
  have g1 := HZ3.out.frozen 1
  have zl := HZ3.out.lt
  have hD4 := ((HZ3.out.set_ 0 (.int .i64 W)).set_ 1 (.slice D k cD)).alloc (.cells #[.int .i64 W, .slice D k cD] 26)
  have e0 : (((w3.setCell ⟨w.heap.size, 0, none⟩ (.int .i64 W)).setCell ⟨w.heap.size, 1, none⟩ (.slice D k cD)).alloc (.cells #[.int .i64 W, .slice D k cD] 26)).cell? ⟨w.heap.size, 0, none⟩ = some (.int .i64 W) := by simpa using hD4.cell 0
  have e1 : (((w3.setCell ⟨w.heap.size, 0, none⟩ (.int .i64 W)).setCell ⟨w.heap.size, 1, none⟩ (.slice D k cD)).alloc (.cells #[.int .i64 W, .slice D k cD] 26)).cell? ⟨w.heap.size, 1, none⟩ = some (.slice D k cD) := by simpa using hD4.cell 1
  have gz : w3.grownBy ((w3.setCell ⟨w.heap.size, 0, none⟩ (.int .i64 W)).setCell ⟨w.heap.size, 1, none⟩ (.slice D k cD)) (some w.heap.size) := grown_set (p := ⟨w.heap.size, 1, none⟩) (grown_set (p := ⟨w.heap.size, 0, none⟩) (World.grownBy.refl _ _) rfl _) rfl _
  have HE0 := Lib.hid e0
  have HE1 := Lib.hid e1
  have HGZ := Lib.hid gz
  have HB4 := Lib.hid (bel_alloc (Below.refl _ ((w3.setCell ⟨w.heap.size, 0, none⟩ (.int .i64 W)).setCell ⟨w.heap.size, 1, none⟩ (.slice D k cD))) (.cells #[.int .i64 W, .slice D k cD] 26))
  clear e0 e1 gz hD4
  go_wp2_with fail
  have e0 := HE0.out
  have e1 := HE1.out
  exact bodyPost_ret (v := .tuple #[.agg #[.int .i64 W, .slice D k cD], .slice B q cB]) (by simp [results, Tryz.results24, go_sem, e0, e1]) rfl
    ⟨m, k, D, cD, rows, B, q, cB, hs, P, by rw [hW], ((H1.out.grown HGZ.out (fun b e r => by injection r with r; have := H3.out b e; have := HSZ1.out; omega)).below HB4.out), H2.out, hk6, fun b e => by have := H3.out b e; have := HSZ1.out; omega, ((H4.out.draw HGZ.out (by have := HSZ1.out; omega)).below HB4.out).base (by have := HSZ1.out; omega), hq, bel_trans (bel_grown (bel_trans HB0.out HB3.out) HGZ.out (fun b e => by injection e with e; omega)) HB4.out⟩
set_option maxRecDepth 100000 in
set_option maxHeartbeats 3200000 in
theorem DrawPuzzleSolutions_s (A : Option Addr) (n c : Nat) (bs : List UInt8) (w : World) (hr : Rd w A (vB bs)) (hl : bs.length = n) (hn : n ≤ 1048576) :
    Calls Tryz.prog 5 #[.slice A n c] w (RetBo w) := by
  have hBZ := Blk.new w 26 #[.int .i64 0, .slice none 0 0]
  have hb0 := bel_alloc (Below.refl w.heap.size w) (.cells #[.int .i64 0, .slice none 0 0] 26)
  have hr0 := hr.below hb0
  obtain ⟨w1, hw1⟩ : ∃ w1, w.alloc (.cells #[.int .i64 0, .slice none 0 0] 26) = w1 := ⟨_, rfl⟩
  have hsz1 : w1.heap.size = w.heap.size + 1 := by rw [← hw1]; simp
  rw [hw1] at hBZ hb0 hr0
  have HW1 := Lib.hid hw1
  have HSZ1 := Lib.hid hsz1
  have HBZ := Lib.hid hBZ
  have HB0 := Lib.hid hb0
  have HR0 := Lib.hid hr0
  have HL := Lib.hid hl
  clear hBZ hb0 hw1 hsz1 hr hr0 hl
  go_enter Tryz.func5, Tryz.ntmps5
  go_wp2_with fail
  rw [HW1.out]
  clear HW1
  go_wp2_with fail
  refine (l22Both_s A n c bs w1 HR0.out HL.out hn).mono ?_
  rintro e w3 ⟨m, k, D, cD, rows, B, q, cB, hs, P, rfl, hr3, hl3, hk6, hD, hP, hq, hb3⟩
  have HB3 := Lib.hid hb3
  have hs3 := HB3.out.size
  have H1 := Lib.hid hr3
  have H2 := Lib.hid hl3
  have H3 := Lib.hid hD
  have H4 := Lib.hid hP
  clear hr3 hl3 hD hP hb3
  obtain ⟨W, hW⟩ : ∃ W : Int, (m : Int) = W := ⟨_, rfl⟩
  rw [hW]
  have HZ3 := Lib.hid (HBZ.out.below HB3.out)
  have z0 : w3.cell? ⟨w.heap.size, 0, none⟩ = some (.int .i64 0) := by simpa using HZ3.out.cell 0
  have z1 : w3.cell? ⟨w.heap.size, 1, none⟩ = some (.slice none 0 0) := by simpa using HZ3.out.cell 1
  have g0 := HZ3.out.frozen 0
  have g1 := HZ3.out.frozen 1
  have zl := HZ3.out.lt
  have hD4 := ((HZ3.out.set_ 0 (.int .i64 W)).set_ 1 (.slice D k cD)).alloc (.cells #[.int .i64 W, .slice D k cD] 26)
  have e0 : (((w3.setCell ⟨w.heap.size, 0, none⟩ (.int .i64 W)).setCell ⟨w.heap.size, 1, none⟩ (.slice D k cD)).alloc (.cells #[.int .i64 W, .slice D k cD] 26)).cell? ⟨w.heap.size, 0, none⟩ = some (.int .i64 W) := by simpa using hD4.cell 0
  have e1 : (((w3.setCell ⟨w.heap.size, 0, none⟩ (.int .i64 W)).setCell ⟨w.heap.size, 1, none⟩ (.slice D k cD)).alloc (.cells #[.int .i64 W, .slice D k cD] 26)).cell? ⟨w.heap.size, 1, none⟩ = some (.slice D k cD) := by simpa using hD4.cell 1
  have gz : w3.grownBy ((w3.setCell ⟨w.heap.size, 0, none⟩ (.int .i64 W)).setCell ⟨w.heap.size, 1, none⟩ (.slice D k cD)) (some w.heap.size) := grown_set (p := ⟨w.heap.size, 1, none⟩) (grown_set (p := ⟨w.heap.size, 0, none⟩) (World.grownBy.refl _ _) rfl _) rfl _
  have HE0 := Lib.hid e0
  have HE1 := Lib.hid e1
  have HGZ := Lib.hid gz
  have HB4 := Lib.hid (bel_alloc (Below.refl _ ((w3.setCell ⟨w.heap.size, 0, none⟩ (.int .i64 W)).setCell ⟨w.heap.size, 1, none⟩ (.slice D k cD))) (.cells #[.int .i64 W, .slice D k cD] 26))
  clear e0 e1 gz hD4
  go_wp2_with fail
  have e0 := HE0.out
  have e1 := HE1.out
  exact bodyPost_ret (v := .tuple #[.agg #[.int .i64 W, .slice D k cD], .slice B q cB]) (by simp [results, Tryz.results5, go_sem, e0, e1]) rfl
    ⟨m, k, D, cD, rows, B, q, cB, hs, P, by rw [hW], ((H1.out.grown HGZ.out (fun b e r => by injection r with r; have := H3.out b e; have := HSZ1.out; omega)).below HB4.out), H2.out, hk6, fun b e => by have := H3.out b e; have := HSZ1.out; omega, ((H4.out.draw HGZ.out (by have := HSZ1.out; omega)).below HB4.out).base (by have := HSZ1.out; omega), hq, bel_trans (bel_grown (bel_trans HB0.out HB3.out) HGZ.out (fun b e => by injection e with e; omega)) HB4.out⟩
set_option maxRecDepth 100000 in
set_option maxHeartbeats 1600000 in
theorem DrawPiecesArea_s (A : Option Addr) (n c : Nat) (bs : List UInt8) (w : World) (hr : Rd w A (vB bs)) (hl : bs.length = n) (hn : n ≤ 1048576) :
    Calls Tryz.prog 21 #[.slice A n c] w (fun e w' => ∃ B q cB hs P, e = .returned (.slice B q cB) ∧ PcF w.heap.size w' B q cB hs P ∧ q ≤ 5 ∧ Below w.heap.size w w') := by
  have HR := Lib.hid hr
  have HL := Lib.hid hl
  clear hr hl
  go_enter Tryz.func21, Tryz.ntmps21
  go_wp2_with fail
  refine (l1New_s A n c bs w HR.out HL.out hn).mono ?_
  rintro e w2 ⟨g, rfl, hc, hg, hb2⟩
  have HC := Lib.hid hc
  have HB2 := Lib.hid hb2
  have hs2 := hb2.size
  clear hc hb2
  go_wp2_with fail
  refine (l7Pieces_s A n c g bs w2 HC.out hn).mono ?_
  rintro e w3 ⟨B, q, cB, hs, P, rfl, hP, hq, hc3, hg3⟩
  have HB3 := Lib.hid (grown_newD HB2.out hg hg3)
  have HP := Lib.hid hP
  clear hP hc3 hg3
  go_wp2_with fail
  go_ret
  exact ⟨B, q, cB, hs, P, rfl, HP.out.base hs2, hq, HB3.out⟩
end Go.Proofs.YtcgjnonlndaoeaaGreat

/- The reference's draws below numbers above 256. -/
namespace Go.Proofs.YtcgjnonlndaoeaaGreat
open Go.RowKit
set_option linter.unusedVariables false
attribute [local go_sem ↓] Go.wp_at_zero Go.wp_at_succ

set_option maxRecDepth 100000 in
set_option maxHeartbeats 1600000 in
theorem l1BelowW_s (A : Option Addr) (n c g k : Nat) (bs : List UInt8) (w : World) (hc : Cur w g A n c bs) (hn : n ≤ 1048576) (hk1 : 1 ≤ k) (hk : k ≤ 1048576) :
    Calls Tryz.prog 57 #[.pointer (some ⟨g, 0, none⟩), .int .i64 (k : Int)] w (RetDraw w g A n c bs k) := by
  by_cases h2 : k ≤ 256
  · exact l1Below_s A n c g k bs w hc hn hk1 h2
  · have h0 : ¬ (k : Int) ≤ 0 := by omega
    have h3 : ¬ (k : Int) ≤ 256 := by omega
    have HC := Lib.hid hc
    clear hc
    go_enter Tryz.func57, Tryz.ntmps57
    go_wp2_with fail
    refine (l1Byte_s A n c g bs w HC.out hn).mono ?_
    rintro e w1 ⟨q1, rfl, hq1, hc1, hg1⟩
    have HC1 := Lib.hid hc1
    have HG1 := Lib.hid hg1
    clear hc1 hg1 HC
    go_wp2_with fail
    refine (l1Byte_s A n c g bs w1 HC1.out hn).mono ?_
    rintro e w2 ⟨q2, rfl, hq2, hc2, hg2⟩
    have HC2 := Lib.hid hc2
    have HG2 := Lib.hid (HG1.out.trans hg2)
    clear hc2 hg2 HC1 HG1
    go_wp2_with fail
    refine (l1Byte_s A n c g bs w2 HC2.out hn).mono ?_
    rintro e w3 ⟨q3, rfl, hq3, hc3, hg3⟩
    have HC3 := Lib.hid hc3
    have HG3 := Lib.hid (HG2.out.trans hg3)
    clear hc3 hg3 HC2 HG2
    go_wp2_with fail
    refine (l1Byte_s A n c g bs w3 HC3.out hn).mono ?_
    rintro e w4 ⟨q4, rfl, hq4, hc4, hg4⟩
    have HC4 := Lib.hid hc4
    have HG4 := Lib.hid (HG3.out.trans hg4)
    clear hc4 hg4 HC3 HG3
    obtain ⟨s, hs⟩ : ∃ s, q1 * 16777216 + q2 * 65536 + q3 * 256 + q4 = s := ⟨_, rfl⟩
    have hsI : (q1 : Int) * 16777216 + (q2 : Int) * 65536 + (q3 : Int) * 256 + (q4 : Int) = (s : Int) := by omega
    have x1 : IntKind.i64.wrap ((q1 : Int) * 16777216) = (q1 : Int) * 16777216 := Go.IntWalk.i64_in _ (by omega)
    have x2 : IntKind.i64.wrap ((q2 : Int) * 65536) = (q2 : Int) * 65536 := Go.IntWalk.i64_in _ (by omega)
    have x3 : IntKind.i64.wrap ((q3 : Int) * 256) = (q3 : Int) * 256 := Go.IntWalk.i64_in _ (by omega)
    have y1 : IntKind.i64.wrap ((q1 : Int) * 16777216 + (q2 : Int) * 65536) = (q1 : Int) * 16777216 + (q2 : Int) * 65536 := Go.IntWalk.i64_in _ (by omega)
    have y2 : IntKind.i64.wrap ((q1 : Int) * 16777216 + (q2 : Int) * 65536 + (q3 : Int) * 256) = (q1 : Int) * 16777216 + (q2 : Int) * 65536 + (q3 : Int) * 256 := Go.IntWalk.i64_in _ (by omega)
    have y3 : IntKind.i64.wrap (s : Int) = (s : Int) := Go.IntWalk.i64_in _ (by omega)
    obtain ⟨r, hr⟩ : ∃ r, s % k = r := ⟨_, rfl⟩
    have hrl : r < k := by rw [← hr]; exact Nat.mod_lt _ (by omega)
    have hrm : (s : Int) % (k : Int) = (r : Int) := by rw [← hr]; simp
    have hrm2 : (s : Int).tmod (k : Int) = (r : Int) := by rw [← hr]; simp [Int.tmod]
    have hkz : ((k : Int) == 0) = false := by simp; omega
    have er : IntKind.i64.wrap (r : Int) = (r : Int) := Go.IntWalk.i64_in _ (by omega)
    clear hr hs hq1 hq2 hq3 hq4
    go_wp2_with fail
    go_ret
    exact ⟨r, rfl, hrl, HC4.out, HG4.out⟩
end Go.Proofs.YtcgjnonlndaoeaaGreat

/- The reference's draws of puzzles with solutions. -/
namespace Go.Proofs.YtcgjnonlndaoeaaGreat
open Go.RowKit
set_option linter.unusedVariables false
attribute [local go_sem ↓] Go.wp_at_zero Go.wp_at_succ

/-- What a block at or beyond N cannot hurt. -/
structure SepN (N : Nat) (D : Option Addr) (rows : List Int) (B : Option Addr) (hs : List H) (P : List (List C)) : Prop where
  d : 0 < rows.length → ∀ b, ob D = some b → b < N
  b : ∀ b, ob B = some b → b < N
  r : ∀ j (a : j < hs.length) (b : j < P.length), 0 < P[j].length → ∀ g, ob hs[j].1 = some g → g < N
theorem sepN {base : Nat} {w : World} {D : Option Addr} {rows : List Int} {B : Option Addr} {q cB : Nat} {hs : List H} {P : List (List C)} (hr : Rd w D (vI rows)) (h : PcF base w B q cB hs P) : SepN w.heap.size D rows B hs P :=
  ⟨fun h0 b e => by
    obtain ⟨g, off, rfl, hg, _⟩ := RdI.at_ hr h0
    simp only [ob, Option.map_some, Option.some.injEq] at e
    omega, fun b e => (own_lt h.own b e).2, fun j a b h0 g e => rdC_len (h.row j a b).2.2 h0 g e⟩
theorem SepN.mono {N M : Nat} {D : Option Addr} {rows : List Int} {B : Option Addr} {hs : List H} {P : List (List C)} (h : SepN N D rows B hs P) (hm : N ≤ M) : SepN M D rows B hs P :=
  ⟨fun h0 b e => by have := h.d h0 b e; omega, fun b e => by have := h.b b e; omega, fun j a b h0 g e => by have := h.r j a b h0 g e; omega⟩
theorem rdI_far {N e : Nat} {w w' : World} {D : Option Addr} {rows : List Int} (hr : Rd w D (vI rows)) (h : 0 < rows.length → ∀ b, ob D = some b → b < N) (hg : w.grownBy w' (some e)) (he : N ≤ e) : Rd w' D (vI rows) := by
  by_cases h0 : 0 < rows.length
  · exact hr.grown hg (fun b e1 r => by injection r with r; have := h h0 b e1; omega)
  · left
    rw [List.eq_nil_of_length_eq_zero (by omega : rows.length = 0)]
    rfl
theorem PcF.far {N e base : Nat} {w w' : World} {D : Option Addr} {rows : List Int} {B : Option Addr} {q cB : Nat} {hs : List H} {P : List (List C)} (hp : PcF base w B q cB hs P) (h : SepN N D rows B hs P) (hg : w.grownBy w' (some e)) (he : N ≤ e) : PcF base w' B q cB hs P := by
  refine ⟨own_keptD hp.own hg (fun b e1 r => by injection r with r; have := h.b b e1; omega), hp.len, fun k a b => ⟨(hp.row k a b).1, (hp.row k a b).2.1, ?_⟩, hp.low, hp.off⟩
  by_cases h0 : 0 < P[k].length
  · exact (hp.row k a b).2.2.grown hg (fun g e1 r => by injection r with r; have := h.r k a b h0 g e1; omega)
  · left
    rw [List.eq_nil_of_length_eq_zero (by omega : P[k].length = 0)]
    rfl
/-- A puzzle and a list were drawn; the list stands apart. -/
def RetTh (w : World) (e : Ending) (w' : World) : Prop :=
  ∃ (m k : Nat) (D : Option Addr) (cD : Nat) (rows : List Int) (B : Option Addr) (q cB : Nat) (hs : List H) (P : List (List C)) (E : Option Addr) (kE cE : Nat) (ls : List Int) (N : Nat), e = .returned (.tuple #[.agg #[.int .i64 (m : Int), .slice D k cD], .slice B q cB, .slice E kE cE]) ∧ Rd w' D (vI rows) ∧ rows.length = k ∧ k ≤ 6 ∧ (∀ b, ob D = some b → w.heap.size < b) ∧ PcF (w.heap.size + 1) w' B q cB hs P ∧ q ≤ 5 ∧ w'.ownsRow N 3 1 (.slice E kE cE) kE (vI ls) ∧ kE ≤ 7 ∧ SepN N D rows B hs P ∧ w.heap.size < N ∧ Below w.heap.size w w'
set_option maxRecDepth 100000 in
set_option maxHeartbeats 3200000 in
theorem l22Three_s (A : Option Addr) (n c : Nat) (bs : List UInt8) (w : World) (hr : Rd w A (vB bs)) (hl : bs.length = n) (hn : n ≤ 1048576) :
    Calls Tryz.prog 34 #[.slice A n c] w (RetTh w) := by
  have hBZ := Blk.new w 26 #[.int .i64 0, .slice none 0 0]
  have hb0 := bel_alloc (Below.refl w.heap.size w) (.cells #[.int .i64 0, .slice none 0 0] 26)
  have hr0 := hr.below hb0
  obtain ⟨w1, hw1⟩ : ∃ w1, w.alloc (.cells #[.int .i64 0, .slice none 0 0] 26) = w1 := ⟨_, rfl⟩
  have hsz1 : w1.heap.size = w.heap.size + 1 := by rw [← hw1]; simp
  rw [hw1] at hBZ hb0 hr0
  have HW1 := Lib.hid hw1
  have HSZ1 := Lib.hid hsz1
  have HBZ := Lib.hid hBZ
  have HB0 := Lib.hid hb0
  have HR0 := Lib.hid hr0
  have HL := Lib.hid hl
  clear hBZ hb0 hw1 hsz1 hr hr0 hl
  go_enter Tryz.func34, Tryz.ntmps34
  go_wp2_with fail
  rw [HW1.out]
  clear HW1
  go_wp2_with fail
  refine (l1New_s A n c bs w1 HR0.out HL.out hn).mono ?_
  rintro e w2 ⟨g, rfl, hc, hg, hb2⟩
  have HC := Lib.hid hc
  have HB2 := Lib.hid (bel_trans HB0.out hb2)
  have HZ2 := Lib.hid (HBZ.out.below hb2)
  have HR2 := Lib.hid (HR0.out.below hb2)
  have hgl : g < w2.heap.size := by obtain ⟨i, x, hi, hB⟩ := hc.blk; exact hB.lt
  have hgz : w.heap.size < g := by have := HSZ1.out; omega
  have hs2 := HB2.out.size
  clear hc hb2 HR0 HBZ HB0 hg HSZ1
  go_wp2_with fail
  refine (l22Both_s A n c bs w2 HR2.out HL.out hn).mono ?_
  rintro e w3 ⟨m, k, D, cD, rows, B, q, cB, hs, P, rfl, hr3, hl3, hk6, hD, hP, hq, hb3⟩
  have HTOT := Lib.hid (totC_le70 hP hq)
  have H1 := Lib.hid hr3
  have H2 := Lib.hid hl3
  have H3 := Lib.hid hD
  have H4 := Lib.hid hP
  have HS := Lib.hid (sepN hr3 hP)
  have HB3 := Lib.hid (bel_trans HB2.out hb3)
  have HC3 := Lib.hid (HC.out.below hb3)
  have HZ3 := Lib.hid (HZ2.out.below hb3)
  have hs3 := hb3.size
  clear hr3 hl3 hD hP hb3 HC HZ2 HB2
  obtain ⟨W, hW⟩ : ∃ W : Int, (m : Int) = W := ⟨_, rfl⟩
  have HW := Lib.hid hW
  rw [hW]
  clear hW
  have ba := bel_alloc (Below.refl w3.heap.size w3) (.cells #[.int .i64 W, .slice D k cD] 26)
  have HN4 := Lib.hid (Blk.new w3 26 #[.int .i64 W, .slice D k cD])
  have H14 := Lib.hid (H1.out.below ba)
  have H44 := Lib.hid (H4.out.below ba)
  have HB4 := Lib.hid (bel_trans HB3.out ba)
  have HC4 := Lib.hid (HC3.out.below ba)
  have HZ4 := Lib.hid (HZ3.out.below ba)
  obtain ⟨w4, hw4⟩ : ∃ w4, w3.alloc (.cells #[.int .i64 W, .slice D k cD] 26) = w4 := ⟨_, rfl⟩
  have hs4 : w4.heap.size = w3.heap.size + 1 := by rw [← hw4]; simp
  rw [hw4] at HN4 H14 H44 HB4 HC4 HZ4
  have HW4 := Lib.hid hw4
  have HS4 := Lib.hid hs4
  have c0 : w4.cell? ⟨w3.heap.size, 0, none⟩ = some (.int .i64 W) := by simpa using HN4.out.cell 0
  have c1 : w4.cell? ⟨w3.heap.size, 1, none⟩ = some (.slice D k cD) := by simpa using HN4.out.cell 1
  clear ba hw4 hs4 H1 H4 HB3 HC3 HZ3
  go_wp2_with fail
  first | rw [HW4.out] | skip
  refine (PuzzleSolutions_s W D B k cD q cB rows hs P w4 H14.out H2.out H44.out.rdp (by omega) (by have := HTOT.out; omega)).mono ?_
  rintro e w5 ⟨A5, n5, c5, gs5, rfl, ho5, hb5⟩
  obtain ⟨F, hF⟩ : ∃ F, psV W rows P = F := ⟨_, rfl⟩
  rw [hF] at ho5
  have HFS : Hid (∀ x ∈ F, x.length = q) := fun x hx => by
    rw [← hF] at hx
    have h1 := psV_sol hx
    unfold solV at h1
    simp only [Bool.and_eq_true, beq_iff_eq] at h1
    have h2 := H44.out.qlen
    have h3 := H44.out.len
    omega
  have hn5 : n5 ≤ 300 := by have h1 := ho5.flen; have h2 := psV_len W rows P; rw [hF] at h2; omega
  obtain ⟨isb, hisb⟩ : ∃ b, (isReg W rows && pcs P) = b := ⟨_, rfl⟩
  rw [hisb]
  have HO5 := Lib.hid ho5
  have HB5 := Lib.hid (bel_trans HB4.out hb5)
  have HC5 := Lib.hid (HC4.out.below hb5)
  have HZ5 := Lib.hid (HZ4.out.below hb5)
  have HN5 := Lib.hid (HN4.out.below hb5)
  have H15 := Lib.hid (H14.out.below hb5)
  have H45 := Lib.hid (H44.out.below hb5)
  have hs5 := hb5.size
  have HS4 := Lib.hid (by have := HS4.out; omega : w3.heap.size < w4.heap.size)
  have HHS := Lib.hid (HS.out.mono (Nat.le_of_lt HS4.out))
  have hs34 := HS4.out
  clear ho5 hb5 HB4 HC4 HZ4 HN4 H14 H44 HW4 hF hisb c0 c1 HS HTOT HS4
  go_upto_region 4 with fail
  go_cut [33] (fun s wx => ∃ d, s = .bool d ∧ (d = true → 0 < n5) ∧ Cur wx g A n c bs ∧ w5.grownBy wx (some g))
  case first =>
    cases isb with
    | false =>
      go_wp2
      go_meet
      exact ⟨false, rfl, (fun h => by cases h), HC5.out, World.grownBy.refl _ _⟩
    | true =>
      by_cases h0 : 0 < n5
      · have h0I : (n5 : Int) > 0 := by omega
        go_wp2_with fail
        refine (l1Once_s A n c g 5 bs w5 HC5.out hn (by omega) (by omega)).mono ?_
        rintro e w6 ⟨o, rfl, hc6, hg6⟩
        have HC6 := Lib.hid hc6
        have HG6 := Lib.hid hg6
        clear hc6 hg6
        cases o with
        | false =>
          go_wp2
          go_meet
          exact ⟨true, rfl, fun _ => h0, HC6.out, HG6.out⟩
        | true =>
          go_wp2
          go_meet
          exact ⟨false, rfl, (fun h => by cases h), HC6.out, HG6.out⟩
      · have h0I : ¬ (n5 : Int) > 0 := by omega
        go_wp2
        go_meet
        exact ⟨false, rfl, (fun h => by cases h), HC5.out, World.grownBy.refl _ _⟩
  case rest =>
    obtain ⟨d, rfl, hd, hc, hgr⟩ := hcut
    obtain ⟨v, hv⟩ : ∃ v, v = wc := ⟨_, rfl⟩
    subst hv
    have HC := Lib.hid hc
    have HG := Lib.hid hgr
    have HZ := Lib.hid (HZ5.out.grown hgr (fun e => by injection e with e; omega))
    have HN := Lib.hid (HN5.out.grown hgr (fun e => by injection e with e; omega))
    have HO := Lib.hid (HO5.out.grown hgr (fun g2 e => by injection e with e; omega))
    have HD := Lib.hid (H15.out.grown hgr (fun b e r => by injection r with r; have := H3.out b e; omega))
    have HP := Lib.hid (H45.out.draw hgr (by omega))
    have HB := Lib.hid (bel_grown HB5.out hgr (fun b e => by injection e with e; omega))
    have hsv := hgr.size
    have hs4v : w4.heap.size ≤ v.heap.size := Nat.le_trans hs5 hsv
    clear hc hgr HC5 HZ5 HN5 HO5 H15 H45 HB5
    have c0 : v.cell? ⟨w3.heap.size, 0, none⟩ = some (.int .i64 W) := by simpa using HN.out.cell 0
    have c1 : v.cell? ⟨w3.heap.size, 1, none⟩ = some (.slice D k cD) := by simpa using HN.out.cell 1
    have cl := HN.out.lt
    cases d with
    | true =>
      have h0 := hd rfl
      have h0I : (n5 : Int) > 0 := by omega
      clear hd
      obtain ⟨gl, off, hA5, hgl5, hx0⟩ := HO.out.at_ (k := 0) (by rw [HO.out.hlen]; exact h0)
      subst hA5
      have hgn : gl ≠ w.heap.size := by have := (own_lt HO.out.own gl rfl).1; omega
      have hgn2 : w.heap.size ≠ gl := Ne.symm hgn
      clear hx0
      go_wp2_with fail
      go_region_with (go_at_call 57; refine (l1BelowW_s A n c g n5 bs _ (HC.out.below (bel_drew (Below.refl _ _))) hn (by omega) (by omega)).mono ?_; rintro e w7 ⟨j, rfl, hj, hc7, hg7⟩; have HG7 := Lib.hid (bel_row (w := v) (bel_drew (Below.refl _ _)) hg7); have HO7 := Lib.hid (HO.out.grown HG7.out (fun g2 e => by injection e with e; omega)); have HN7 := Lib.hid (HN.out.grown HG7.out (fun e => by injection e with e; omega)); have HZ7 := Lib.hid (HZ.out.grown HG7.out (fun e => by injection e with e; omega)); have HJ := Lib.hid (show j < gs5.length by rw [HO7.out.hlen]; exact hj); obtain ⟨gl2, off2, hA52, hgl52, hx7⟩ := HO7.out.at_ HJ.out; injection hA52 with hA52; injection hA52 with e1 e2; subst e1 e2; have hjF : j < F.length := (by have h1 := HO7.out.len; have h2 := HJ.out; omega); have HOR := Lib.hid (HO7.out.row j HJ.out hjF); have HKE := Lib.hid (HO7.out.rlen HJ.out hjF); have HKQ := Lib.hid (HFS.out _ (List.getElem_mem hjF)); obtain ⟨⟨E, kE, cE⟩, hE⟩ : ∃ x, gs5[j]'HJ.out = x := ⟨_, rfl⟩; obtain ⟨ls, hls⟩ : ∃ ls, F[j]'hjF = ls := ⟨_, rfl⟩; rw [hE, hls] at HOR; rw [hE, hls] at HKE; rw [hls] at HKQ; rw [hE] at hx7; dsimp only at HOR HKE hx7; clear hE hls hjF; have y0 : w7.cell? ⟨w3.heap.size, 0, none⟩ = some (.int .i64 W) := (by simpa using HN7.out.cell 0); have y1 : w7.cell? ⟨w3.heap.size, 1, none⟩ = some (.slice D k cD) := (by simpa using HN7.out.cell 1); have yl := HN7.out.lt; have hj0 : (0 : Int) ≤ (j : Int) := (by omega); have hj1 : (j : Int) < (n5 : Int) := (by omega); have x0 : w7.cell? ⟨w.heap.size, 0, none⟩ = some (.int .i64 0) := (by simpa using HZ7.out.cell 0); have x1 : w7.cell? ⟨w.heap.size, 1, none⟩ = some (.slice none 0 0) := (by simpa using HZ7.out.cell 1); have f0 := HZ7.out.frozen 0; have f1 := HZ7.out.frozen 1; have xl := HZ7.out.lt; have hs7 := HG7.out.size; clear hc7 hg7)
      all_goals
        have ne : ∀ b, ob E = some b → b ≠ w.heap.size := fun b e => by have := (own_lt HOR.out b e).1; omega
        have NE := Lib.hid ne
        have gz : w7.grownBy ((w7.setCell ⟨w.heap.size, 0, none⟩ (.int .i64 W)).setCell ⟨w.heap.size, 1, none⟩ (.slice D k cD)) (some w.heap.size) := grown_set (p := ⟨w.heap.size, 1, none⟩) (grown_set (p := ⟨w.heap.size, 0, none⟩) (World.grownBy.refl _ _) rfl _) rfl _
        have GZ := Lib.hid gz
        have hZf := (HZ7.out.set_ 0 (.int .i64 W)).set_ 1 (.slice D k cD)
        have e0 : ((w7.setCell ⟨w.heap.size, 0, none⟩ (.int .i64 W)).setCell ⟨w.heap.size, 1, none⟩ (.slice D k cD)).cell? ⟨w.heap.size, 0, none⟩ = some (.int .i64 W) := by simpa using hZf.cell 0
        have e1 : ((w7.setCell ⟨w.heap.size, 0, none⟩ (.int .i64 W)).setCell ⟨w.heap.size, 1, none⟩ (.slice D k cD)).cell? ⟨w.heap.size, 1, none⟩ = some (.slice D k cD) := by simpa using hZf.cell 1
        have E0 := Lib.hid e0
        have E1 := Lib.hid e1
        clear hZf e0 e1 gz ne x0 x1 f0 f1
        go_wp2_with fail
        have e0 := E0.out
        have e1 := E1.out
        exact bodyPost_ret (v := .tuple #[.agg #[.int .i64 W, .slice D k cD], .slice B q cB, .slice E kE cE]) (by simp [results, Tryz.results34, go_sem, e0, e1]) rfl
          ⟨m, k, D, cD, rows, B, q, cB, hs, P, E, kE, cE, ls, w4.heap.size, by rw [HW.out], (HD.out.grown HG7.out (fun b e r => by injection r with r; have := H3.out b e; omega)).grown GZ.out (fun b e r => by injection r with r; have := H3.out b e; omega), H2.out, hk6, fun b e => by have := H3.out b e; omega, ((HP.out.draw HG7.out (by omega)).draw GZ.out (by omega)).base (by omega), hq, own_set (own_set HOR.out NE.out _) NE.out _, by have h1 := HKE.out; have h2 := HKQ.out; omega, HHS.out, by omega, bel_grown (bel_grown HB.out HG7.out (fun b e => by injection e with e; omega)) GZ.out (fun b e => by injection e with e; omega)⟩
    | false =>
      clear hd
      go_wp2_with fail
      go_region_with (first | (go_at_call 57; refine (l1BelowW_s A n c g 2 bs _ (HC.out.below (bel_drew (Below.refl _ _))) hn (by omega) (by omega)).mono ?_; rintro e w6 ⟨j, rfl, hj, hc6, hg6⟩; have HG6 := Lib.hid (bel_row (w := v) (bel_drew (Below.refl _ _)) hg6); have HN6 := Lib.hid (HN.out.grown HG6.out (fun e => by injection e with e; omega)); have HZ6 := Lib.hid (HZ.out.grown HG6.out (fun e => by injection e with e; omega)); have y0 : w6.cell? ⟨w3.heap.size, 0, none⟩ = some (.int .i64 W) := (by simpa using HN6.out.cell 0); have y1 : w6.cell? ⟨w3.heap.size, 1, none⟩ = some (.slice D k cD) := (by simpa using HN6.out.cell 1); have yl := HN6.out.lt; obtain ⟨t, ht⟩ : ∃ t, q + j = t := ⟨_, rfl⟩; have htI : (q : Int) + (j : Int) = (t : Int) := (by omega); have et : IntKind.i64.wrap (t : Int) = (t : Int) := (Go.IntWalk.i64_in _ (by omega)); have ht7 : t ≤ 7 := (by omega); have hs6 := HG6.out.size; clear hc6 hg6 ht) | (go_at_call 30; refine (l22None_s t w6 (by omega)).mono ?_; rintro e w7 ⟨E, kE, cE, rfl, hOE, hb7⟩; have HOR := Lib.hid (own_base hOE (Nat.le_trans hs4v hs6)); have HKQ := Lib.hid hOE; have HB7 := Lib.hid hb7; have HN7 := Lib.hid (HN6.out.below HB7.out); have HZ7 := Lib.hid (HZ6.out.below HB7.out); have z0 : w7.cell? ⟨w3.heap.size, 0, none⟩ = some (.int .i64 W) := (by simpa using HN7.out.cell 0); have z1 : w7.cell? ⟨w3.heap.size, 1, none⟩ = some (.slice D k cD) := (by simpa using HN7.out.cell 1); have zl := HN7.out.lt; have x0 : w7.cell? ⟨w.heap.size, 0, none⟩ = some (.int .i64 0) := (by simpa using HZ7.out.cell 0); have x1 : w7.cell? ⟨w.heap.size, 1, none⟩ = some (.slice none 0 0) := (by simpa using HZ7.out.cell 1); have f0 := HZ7.out.frozen 0; have f1 := HZ7.out.frozen 1; have xl := HZ7.out.lt; have hs7 := HB7.out.size; clear hOE hb7))
      all_goals
        have ne : ∀ b, ob E = some b → b ≠ w.heap.size := fun b e => by have := (own_lt HOR.out b e).1; omega
        have NE := Lib.hid ne
        have gz : w7.grownBy ((w7.setCell ⟨w.heap.size, 0, none⟩ (.int .i64 W)).setCell ⟨w.heap.size, 1, none⟩ (.slice D k cD)) (some w.heap.size) := grown_set (p := ⟨w.heap.size, 1, none⟩) (grown_set (p := ⟨w.heap.size, 0, none⟩) (World.grownBy.refl _ _) rfl _) rfl _
        have GZ := Lib.hid gz
        have hZf := (HZ7.out.set_ 0 (.int .i64 W)).set_ 1 (.slice D k cD)
        have e0 : ((w7.setCell ⟨w.heap.size, 0, none⟩ (.int .i64 W)).setCell ⟨w.heap.size, 1, none⟩ (.slice D k cD)).cell? ⟨w.heap.size, 0, none⟩ = some (.int .i64 W) := by simpa using hZf.cell 0
        have e1 : ((w7.setCell ⟨w.heap.size, 0, none⟩ (.int .i64 W)).setCell ⟨w.heap.size, 1, none⟩ (.slice D k cD)).cell? ⟨w.heap.size, 1, none⟩ = some (.slice D k cD) := by simpa using hZf.cell 1
        have E0 := Lib.hid e0
        have E1 := Lib.hid e1
        clear hZf e0 e1 gz ne x0 x1 f0 f1
        go_wp2_with fail
        have e0 := E0.out
        have e1 := E1.out
        exact bodyPost_ret (v := .tuple #[.agg #[.int .i64 W, .slice D k cD], .slice B q cB, .slice E kE cE]) (by simp [results, Tryz.results34, go_sem, e0, e1]) rfl
          ⟨m, k, D, cD, rows, B, q, cB, hs, P, E, kE, cE, _, w4.heap.size, by rw [HW.out], ((HD.out.grown HG6.out (fun b e r => by injection r with r; have := H3.out b e; omega)).below HB7.out).grown GZ.out (fun b e r => by injection r with r; have := H3.out b e; omega), H2.out, hk6, fun b e => by have := H3.out b e; omega, (((HP.out.draw HG6.out (by omega)).below HB7.out).draw GZ.out (by omega)).base (by omega), hq, own_set (own_set HOR.out NE.out _) NE.out _, by have h1 := own_len HKQ.out; rw [vI_length, List.length_replicate] at h1; omega, HHS.out, by omega, bel_grown (bel_trans (bel_grown HB.out HG6.out (fun b e => by injection e with e; omega)) HB7.out) GZ.out (fun b e => by injection e with e; omega)⟩
end Go.Proofs.YtcgjnonlndaoeaaGreat
