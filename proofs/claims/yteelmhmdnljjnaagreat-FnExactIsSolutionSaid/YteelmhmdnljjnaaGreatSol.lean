/- Are masks a solution of a puzzle? Both sides. -/
import Derived.Test.YteelmhmdnljjnaaGreatPlcI
import Derived.Test.YteelmhmdnljjnaaGreatPlcS
import Derived.Test.YteelmhmdnljjnaaGreatHas
import Derived.Test.YteelmhmdnljjnaaGreatMask
import Derived.Outline
import Derived.WalkLawsBesides
import Derived.WalkSpells
import Derived.BigQuiet
import Derived.Deep.QuietTactic
import Derived.Deep.RegionHeld3
import Derived.Deep.RegionWith
import Derived.Deep.DeepCutAuto
import Derived.Deep.CutBlock
import Derived.Deep.DrawnRows
namespace Go.Proofs.YteelmhmdnljjnaaGreat
open Go.RowKit
set_option linter.unusedVariables false
attribute [local go_sem ↓] Go.wp_at_zero Go.wp_at_succ

set_option maxRecDepth 100000 in
set_option maxHeartbeats 6400000 in
theorem IsSolution_i (W : Int) (A B D : Option Addr) (n c q cb k cd : Nat) (rows l : List Int) (hs : List H) (P : List (List C)) (w : World) (hr : Rd w A (vI rows)) (hl : rows.length = n) (hp : RdP w B q hs P) (hq : q ≤ 1048576) (hm : totC P ≤ 1048576) (hrd : Rd w D (vI l)) (hll : l.length = k) (hk : k ≤ 1048576) :
    Calls Tryz.prog 16 #[.agg #[.int .i64 W, .slice A n c], .slice B q cb, .slice D k cd] w (Ret w (.bool (solV W rows P l))) := by
  have HL := Lib.hid hl
  have HLL := Lib.hid hll
  have HR := Lib.hid (hr.alloc (.cells #[.int .i64 W, .slice A n c] 29))
  have HP := Lib.hid (hp.alloc (.cells #[.int .i64 W, .slice A n c] 29))
  have HRD := Lib.hid (hrd.alloc (.cells #[.int .i64 W, .slice A n c] 29))
  have HB0 := Lib.hid (Blk.new w 29 #[.int .i64 W, .slice A n c])
  have HM := Lib.hid hm
  have HPF := Lib.hid hp.flen
  have hbw0 : Below w.heap.size w (w.alloc (.cells #[.int .i64 W, .slice A n c] 29)) := bel_alloc (Below.refl _ _) _
  clear hl hll hr hp hrd hm
  cases hpv : (isReg W rows && pcs P) with
  | false =>
    have HV : Hid (solV W rows P l = false) := by show solV W rows P l = false; unfold solV; rw [hpv]; rfl
    have HPV := Lib.hid hpv
    clear hpv
    go_enter Tryz.func16, Tryz.ntmps16
    go_wp2_with fail
    refine (isProblem_i W A B n c q cb rows hs P _ HR.out HL.out HP.out hq HM.out).mono ?_
    rw [HPV.out]
    rintro e w1 ⟨rfl, hb1⟩
    go_wp2_with fail
    go_ret
    exact ⟨by rw [HV.out]; rfl, bel_trans hbw0 hb1⟩
  | true =>
    have HPV := Lib.hid hpv
    have hvr : isReg W rows = true := by simp only [Bool.and_eq_true] at hpv; exact hpv.1
    have hpc : pcs P = true := by simp only [Bool.and_eq_true] at hpv; exact hpv.2
    have HVR := Lib.hid hvr
    have HPC := Lib.hid hpc
    have HSH := Lib.hid (pcs_at hpc).2
    by_cases hkq : k = q
    · subst hkq
      have hk5 : k ≤ 5 := by have := (pcs_at hpc).1; have := HPF.out; omega
      have hsol : solV W rows P l = optIs (solTo W rows P l k) (maskV W rows) := by unfold solV; rw [hpv, HLL.out, HPF.out, Bool.true_and]; simp
      have HNO : Hid (∀ j u, j < k → solTo W rows P l j = some u → solOk W rows P l j u = false → solV W rows P l = false) := fun j u hj h1 h2 => by rw [hsol, show solTo W rows P l k = none from optTo_no h1 h2 hj]; rfl
      have HYES : Hid (∀ u, solTo W rows P l k = some u → solV W rows P l = (u == maskV W rows)) := fun u h => by rw [hsol, h]; rfl
      have hkk : ((k : Int) != (k : Int)) = false := by simp
      clear hsol hpv hvr hpc
      go_enter Tryz.func16, Tryz.ntmps16
      go_wp2_with fail
      refine (isProblem_i W A B n c k cb rows hs P _ HR.out HL.out HP.out hq HM.out).mono ?_
      rw [HPV.out]
      rintro e w1 ⟨rfl, hb1⟩
      have hbw1 := bel_trans hbw0 hb1
      have HB1 := Lib.hid (HB0.out.below hb1)
      have HR1 := Lib.hid (HR.out.below hb1)
      have HP1 := Lib.hid (HP.out.below hb1)
      have HRD1 := Lib.hid (HRD.out.below hb1)
      clear hb1
      go_wp2_with fail
      go_loopw [23, 7] (fun e23 e7 wr => ∃ (j u : Nat), j ≤ k ∧ e23 = .int .i64 j ∧ e7 = .int .i64 (u : Int) ∧ solTo W rows P l j = some u ∧ u < 2 ^ 36 ∧ Below w1.heap.size w1 wr) (fun e23 _ _ => k - (intOf e23).toNat)
      case atStart => exact ⟨0, 0, Nat.zero_le _, rfl, rfl, rfl, by decide, Below.refl _ _⟩
      case round =>
        obtain ⟨j, u, hj, rfl, rfl, hso, hu, hb⟩ := hrel
        have hB := HB1.out.below hb
        have b0 : wr.cell? ⟨w.heap.size, 0, none⟩ = some (.int .i64 W) := by simpa using hB.cell 0
        have b1 : wr.cell? ⟨w.heap.size, 1, none⟩ = some (.slice A n c) := by simpa using hB.cell 1
        have hgw := hB.lt
        clear hB
        by_cases hlt : j < k
        · have hjl : j < l.length := by rw [HLL.out]; exact hlt
          have hj0 : (0 : Int) ≤ (j : Int) := by omega
          have hj1 : (j : Int) < (k : Int) := by omega
          obtain ⟨gD, oD, hDe, hgD, d1⟩ := RdI.at_ (HRD1.out.below hb) hjl
          obtain ⟨x, f, g, off, _, hfx, hBe, hg, d2, l1, r1⟩ := (HP1.out.below hb).at_ hlt
          have hfs := HSH.out f (List.mem_of_getElem? hfx)
          have hgd : P.getD j [] = f := by rw [List.getD_eq_getElem?_getD, hfx]; rfl
          have hgl : l.getD j 0 = l[j] := by rw [List.getD_eq_getElem?_getD, List.getElem?_eq_getElem hjl]; rfl
          obtain ⟨mm, hmm⟩ : ∃ mm, l[j] = mm := ⟨_, rfl⟩
          rw [hmm] at d1 hgl
          have hok : solOk W rows P l j u = ((plV W rows f).any (· == mm) && u &&& mm.toNat == 0) := by unfold solOk; rw [hgd, hgl]
          have hnx := optTo_succ hso
          have HNO2 := Lib.hid (fun h => HNO.out j u hlt hso h)
          obtain ⟨C1, m1, k1⟩ := x
          have HFS := Lib.hid hfs
          have HRF := Lib.hid r1
          have HL1 := Lib.hid l1
          have HOK := Lib.hid hok
          have HPM := Lib.hid (plV_msk W rows f)
          have HPL := Lib.hid (plV_len W rows f)
          have hnx2 : solOk W rows P l j u = true → solTo W rows P l (j + 1) = some (u ||| mm.toNat) := fun h => by
            have h2 : solTo W rows P l (j + 1) = if solOk W rows P l j u then some (u ||| (l.getD j 0).toNat) else none := hnx
            rw [h2, h, hgl]; rfl
          have HNX := Lib.hid hnx2
          dsimp only at d2
          subst hDe hBe
          clear hfx l1 r1 hfs hgd hgl hok hnx hnx2 hmm hso
          go_wp2_with fail
          refine wp_region_rg 15 rfl (by kernel_rfl) ?_
          (refine rgT (i := 0) (v := ?_) rfl rfl (by kernel_rfl) (by kernel_rfl) (by kernel_rfl) (by rfl) (fun w' hcw => ?_) ?_; rotate_left; ((try dsimp only at hcw); have hbc := hcw.cells; go_simp; first | done | with_reducible rfl); simp only [List.setIfInBounds_toArray, List.set_cons_zero, List.set_cons_succ])
          (refine rgT (i := 1) (v := ?_) rfl rfl (by kernel_rfl) (by kernel_rfl) (by kernel_rfl) (by rfl) (fun w' hcw => ?_) ?_; rotate_left; ((try dsimp only at hcw); have hbc := hcw.cells; go_simp; first | done | with_reducible rfl); simp only [List.setIfInBounds_toArray, List.set_cons_zero, List.set_cons_succ])
          (refine rgT (i := 2) (v := ?_) rfl rfl (by kernel_rfl) (by kernel_rfl) (by kernel_rfl) (by rfl) (fun w' hcw => ?_) ?_; rotate_left; ((try dsimp only at hcw); have hbc := hcw.cells; go_simp; first | done | with_reducible rfl); simp only [List.setIfInBounds_toArray, List.set_cons_zero, List.set_cons_succ])
          (refine rgT (i := 3) (v := ?_) rfl rfl (by kernel_rfl) (by kernel_rfl) (by kernel_rfl) (by rfl) (fun w' hcw => ?_) ?_; rotate_left; ((try dsimp only at hcw); have hbc := hcw.cells; go_simp; first | done | with_reducible rfl); simp only [List.setIfInBounds_toArray, List.set_cons_zero, List.set_cons_succ])
          (refine rgT (i := 4) (v := ?_) rfl rfl (by kernel_rfl) (by kernel_rfl) (by kernel_rfl) (by rfl) (fun w' hcw => ?_) ?_; rotate_left; ((try dsimp only at hcw); have hbc := hcw.cells; go_simp; first | done | with_reducible rfl); simp only [List.setIfInBounds_toArray, List.set_cons_zero, List.set_cons_succ])
          (refine rgT (i := 6) (v := ?_) rfl rfl (by kernel_rfl) (by kernel_rfl) (by kernel_rfl) (by rfl) (fun w' hcw => ?_) ?_; rotate_left; ((try dsimp only at hcw); have hbc := hcw.cells; go_simp; first | done | with_reducible rfl); simp only [List.setIfInBounds_toArray, List.set_cons_zero, List.set_cons_succ])
          refine rgK_one (i := 5) (by kernel_rfl) rfl rfl (fun u1 hc1 he1 K hK => ?_)
          go_simp
          refine (placements_i W A C1 n c m1 k1 rows f _ ((HR1.out.below hb).below hc1) HL.out HVR.out (HRF.out.below hc1) HL1.out HFS.out).mono ?_
          rintro e u2 ⟨E, q2, c2, rfl, hOE, hbE⟩
          have hq2 : (plV W rows f).length = q2 := by have := own_len hOE; rw [vI_length] at this; omega
          have hc2 : Below wr.heap.size wr u2 := bel_trans hc1 hbE
          refine hK _ _ hc2 ?_
          clear hK K
          have HRE := Lib.hid (Rd.of_own hOE)
          have HQ2 := Lib.hid hq2
          have hq3 : q2 ≤ 288 := by have := HPL.out; omega
          clear hOE hq2
          refine rgK_one (i := 7) (by kernel_rfl) rfl rfl (fun u3 hc3 he3 K hK => ?_)
          go_simp
          refine (hasInt_i E q2 c2 (plV W rows f) mm _ (HRE.out.below he3) HQ2.out (by omega)).mono ?_
          rintro e u4 ⟨rfl, hb4⟩
          have hc4 : Below wr.heap.size wr u4 := bel_trans hc3 hb4
          refine hK _ _ hc4 ?_
          clear hK K
          cases hh : (plV W rows f).any (· == mm) with
          | false =>
            have HN := Lib.hid (HNO2.out (by rw [HOK.out, hh]; rfl))
            clear hh
            (refine rgT (i := 8) (v := ?_) rfl rfl (by kernel_rfl) (by kernel_rfl) (by kernel_rfl) (by rfl) (fun w' hcw => ?_) ?_; rotate_left; ((try dsimp only at hcw); have hbc := hcw.cells; go_simp; first | done | with_reducible rfl); simp only [List.setIfInBounds_toArray, List.set_cons_zero, List.set_cons_succ])
            (refine rgT (i := 9) (v := ?_) rfl rfl (by kernel_rfl) (by kernel_rfl) (by kernel_rfl) (by rfl) (fun w' hcw => ?_) ?_; rotate_left; ((try dsimp only at hcw); have hbc := hcw.cells; go_simp; first | done | with_reducible rfl); simp only [List.setIfInBounds_toArray, List.set_cons_zero, List.set_cons_succ])
            (refine rgS (i := 10) rfl rfl (by kernel_rfl) (by kernel_rfl) (by kernel_rfl) (by rfl) ?_; simp only [List.setIfInBounds_toArray, List.set_cons_zero, List.set_cons_succ])
            (refine rgS (i := 11) rfl rfl (by kernel_rfl) (by kernel_rfl) (by kernel_rfl) (by rfl) ?_; simp only [List.setIfInBounds_toArray, List.set_cons_zero, List.set_cons_succ])
            (refine rgS (i := 12) rfl rfl (by kernel_rfl) (by kernel_rfl) (by kernel_rfl) (by rfl) ?_; simp only [List.setIfInBounds_toArray, List.set_cons_zero, List.set_cons_succ])
            (refine rgS (i := 13) rfl rfl (by kernel_rfl) (by kernel_rfl) (by kernel_rfl) (by rfl) ?_; simp only [List.setIfInBounds_toArray, List.set_cons_zero, List.set_cons_succ])
            (refine rgT (i := 14) (v := ?_) rfl rfl (by kernel_rfl) (by kernel_rfl) (by kernel_rfl) (by rfl) (fun w' hcw => ?_) ?_; rotate_left; ((try dsimp only at hcw); have hbc := hcw.cells; go_simp; first | done | with_reducible rfl); simp only [List.setIfInBounds_toArray, List.set_cons_zero, List.set_cons_succ])
            refine ⟨by kernel_rfl, fun wz hcz hez => NoPanic.normal ?_⟩
            have hbz := bel_trans hb hcz
            go_wp2_with fail
            go_ret
            exact ⟨by rw [HN.out]; rfl, bel_trans hbw1 hbz⟩
          | true =>
            obtain ⟨t, rfl, ht⟩ := has_msk HPM.out hh
            obtain ⟨z, hz⟩ : ∃ z, u &&& t = z := ⟨_, rfl⟩
            have hand : bits .and .i64 (u : Int) (t : Int) = (z : Int) := by rw [i64_and u t (by omega) (by omega), hz]
            have hor : bits .or .i64 (u : Int) (t : Int) = ((u ||| t : Nat) : Int) := i64_or u t (by omega) (by omega)
            have HOR := Lib.hid hor
            have HUT : Hid (u ||| t < 2 ^ 36) := Nat.or_lt_two_pow hu ht
            have hokz : solOk W rows P l j u = (z == 0) := by rw [HOK.out, hh, Int.toNat_natCast, hz, Bool.true_and]
            have HOKZ := Lib.hid hokz
            clear hh hokz hor hz
            by_cases hz0 : z = 0
            · have hzt : ((z : Int) != 0) = false := by simp [hz0]
              have HN := Lib.hid (HNX.out (by rw [HOKZ.out, hz0]; rfl))
              clear hz0
              (refine rgT (i := 8) (v := ?_) rfl rfl (by kernel_rfl) (by kernel_rfl) (by kernel_rfl) (by rfl) (fun w' hcw => ?_) ?_; rotate_left; ((try dsimp only at hcw); have hbc := hcw.cells; go_simp; first | done | with_reducible rfl); simp only [List.setIfInBounds_toArray, List.set_cons_zero, List.set_cons_succ])
              (refine rgT (i := 9) (v := ?_) rfl rfl (by kernel_rfl) (by kernel_rfl) (by kernel_rfl) (by rfl) (fun w' hcw => ?_) ?_; rotate_left; ((try dsimp only at hcw); have hbc := hcw.cells; go_simp; first | done | with_reducible rfl); simp only [List.setIfInBounds_toArray, List.set_cons_zero, List.set_cons_succ])
              (refine rgT (i := 10) (v := ?_) rfl rfl (by kernel_rfl) (by kernel_rfl) (by kernel_rfl) (by rfl) (fun w' hcw => ?_) ?_; rotate_left; ((try dsimp only at hcw); have hbc := hcw.cells; go_simp; first | done | with_reducible rfl); simp only [List.setIfInBounds_toArray, List.set_cons_zero, List.set_cons_succ])
              (refine rgT (i := 11) (v := ?_) rfl rfl (by kernel_rfl) (by kernel_rfl) (by kernel_rfl) (by rfl) (fun w' hcw => ?_) ?_; rotate_left; ((try dsimp only at hcw); have hbc := hcw.cells; go_simp; first | done | with_reducible rfl); simp only [List.setIfInBounds_toArray, List.set_cons_zero, List.set_cons_succ])
              (refine rgT (i := 12) (v := ?_) rfl rfl (by kernel_rfl) (by kernel_rfl) (by kernel_rfl) (by rfl) (fun w' hcw => ?_) ?_; rotate_left; ((try dsimp only at hcw); have hbc := hcw.cells; go_simp; first | done | with_reducible rfl); simp only [List.setIfInBounds_toArray, List.set_cons_zero, List.set_cons_succ])
              (refine rgT (i := 13) (v := ?_) rfl rfl (by kernel_rfl) (by kernel_rfl) (by kernel_rfl) (by rfl) (fun w' hcw => ?_) ?_; rotate_left; ((try dsimp only at hcw); have hbc := hcw.cells; go_simp; first | done | with_reducible rfl); simp only [List.setIfInBounds_toArray, List.set_cons_zero, List.set_cons_succ])
              (refine rgT (i := 14) (v := ?_) rfl rfl (by kernel_rfl) (by kernel_rfl) (by kernel_rfl) (by rfl) (fun w' hcw => ?_) ?_; rotate_left; ((try dsimp only at hcw); have hbc := hcw.cells; go_simp; first | done | with_reducible rfl); simp only [List.setIfInBounds_toArray, List.set_cons_zero, List.set_cons_succ])
              refine ⟨by kernel_rfl, fun wz hcz hez => NoPanic.normal ?_⟩
              have hbz := bel_trans hb hcz
              have hor := HOR.out
              have d1' := keep_below hcz d1
              have hgD' : gD < wz.heap.size := Nat.lt_of_lt_of_le hgD hcz.size
              clear hand hzt d1 d2 b0 b1 hgw hg
              go_wp2_with fail
              exact ⟨⟨j + 1, u ||| t, by omega, by go_num, rfl, by rw [HN.out, Int.toNat_natCast], HUT.out, hbz⟩, by simp [intOf]; omega⟩
            · have hzt : ((z : Int) != 0) = true := by simp; omega
              have HN := Lib.hid (HNO2.out (by rw [HOKZ.out]; simpa using hz0))
              clear hz0
              (refine rgT (i := 8) (v := ?_) rfl rfl (by kernel_rfl) (by kernel_rfl) (by kernel_rfl) (by rfl) (fun w' hcw => ?_) ?_; rotate_left; ((try dsimp only at hcw); have hbc := hcw.cells; go_simp; first | done | with_reducible rfl); simp only [List.setIfInBounds_toArray, List.set_cons_zero, List.set_cons_succ])
              (refine rgT (i := 9) (v := ?_) rfl rfl (by kernel_rfl) (by kernel_rfl) (by kernel_rfl) (by rfl) (fun w' hcw => ?_) ?_; rotate_left; ((try dsimp only at hcw); have hbc := hcw.cells; go_simp; first | done | with_reducible rfl); simp only [List.setIfInBounds_toArray, List.set_cons_zero, List.set_cons_succ])
              (refine rgT (i := 10) (v := ?_) rfl rfl (by kernel_rfl) (by kernel_rfl) (by kernel_rfl) (by rfl) (fun w' hcw => ?_) ?_; rotate_left; ((try dsimp only at hcw); have hbc := hcw.cells; go_simp; first | done | with_reducible rfl); simp only [List.setIfInBounds_toArray, List.set_cons_zero, List.set_cons_succ])
              (refine rgT (i := 11) (v := ?_) rfl rfl (by kernel_rfl) (by kernel_rfl) (by kernel_rfl) (by rfl) (fun w' hcw => ?_) ?_; rotate_left; ((try dsimp only at hcw); have hbc := hcw.cells; go_simp; first | done | with_reducible rfl); simp only [List.setIfInBounds_toArray, List.set_cons_zero, List.set_cons_succ])
              (refine rgT (i := 12) (v := ?_) rfl rfl (by kernel_rfl) (by kernel_rfl) (by kernel_rfl) (by rfl) (fun w' hcw => ?_) ?_; rotate_left; ((try dsimp only at hcw); have hbc := hcw.cells; go_simp; first | done | with_reducible rfl); simp only [List.setIfInBounds_toArray, List.set_cons_zero, List.set_cons_succ])
              (refine rgT (i := 13) (v := ?_) rfl rfl (by kernel_rfl) (by kernel_rfl) (by kernel_rfl) (by rfl) (fun w' hcw => ?_) ?_; rotate_left; ((try dsimp only at hcw); have hbc := hcw.cells; go_simp; first | done | with_reducible rfl); simp only [List.setIfInBounds_toArray, List.set_cons_zero, List.set_cons_succ])
              (refine rgT (i := 14) (v := ?_) rfl rfl (by kernel_rfl) (by kernel_rfl) (by kernel_rfl) (by rfl) (fun w' hcw => ?_) ?_; rotate_left; ((try dsimp only at hcw); have hbc := hcw.cells; go_simp; first | done | with_reducible rfl); simp only [List.setIfInBounds_toArray, List.set_cons_zero, List.set_cons_succ])
              refine ⟨by kernel_rfl, fun wz hcz hez => NoPanic.normal ?_⟩
              have hbz := bel_trans hb hcz
              go_wp2_with fail
              go_ret
              exact ⟨by rw [HN.out]; rfl, bel_trans hbw1 hbz⟩
        · obtain rfl : j = k := by omega
          have HN := Lib.hid (HYES.out u hso)
          have hj1 : ¬ (j : Int) < (j : Int) := by omega
          clear hso
          go_wp2_with fail
          refine (mask_i W A n c rows _ (HR1.out.below hb) HL.out HVR.out).mono ?_
          rintro e w2 ⟨rfl, hb2⟩
          go_wp2_with fail
          go_ret
          exact ⟨by rw [HN.out]; exact ret_bool (a := ((u : Int) == ((maskV W rows : Nat) : Int))) (by rw [Bool.eq_iff_iff, beq_iff_eq, beq_iff_eq]; omega), bel_trans hbw1 (bel_trans hb hb2)⟩
    · have HV : Hid (solV W rows P l = false) := by
        show solV W rows P l = false
        unfold solV
        rw [HLL.out, HPF.out, show (k == q) = false from by simpa using hkq, Bool.false_and, Bool.and_false]
      have hkq2 : ((k : Int) != (q : Int)) = true := by simp; omega
      clear hpv hvr hpc hkq
      go_enter Tryz.func16, Tryz.ntmps16
      go_wp2_with fail
      refine (isProblem_i W A B n c q cb rows hs P _ HR.out HL.out HP.out hq HM.out).mono ?_
      rw [HPV.out]
      rintro e w1 ⟨rfl, hb1⟩
      have hbw1 := bel_trans hbw0 hb1
      go_wp2_with fail
      go_ret
      exact ⟨by rw [HV.out]; rfl, hbw1⟩
set_option maxRecDepth 100000 in
set_option maxHeartbeats 6400000 in
theorem IsSolution_s (W : Int) (A B D : Option Addr) (n c q cb k cd : Nat) (rows l : List Int) (hs : List H) (P : List (List C)) (w : World) (hr : Rd w A (vI rows)) (hl : rows.length = n) (hp : RdP w B q hs P) (hq : q ≤ 1048576) (hm : totC P ≤ 1048576) (hrd : Rd w D (vI l)) (hll : l.length = k) (hk : k ≤ 1048576) :
    Calls Tryz.prog 12 #[.agg #[.int .i64 W, .slice A n c], .slice B q cb, .slice D k cd] w (Ret w (.bool (solV W rows P l))) := by
  have HL := Lib.hid hl
  have HLL := Lib.hid hll
  have HR := Lib.hid (hr.alloc (.cells #[.int .i64 W, .slice A n c] 29))
  have HP := Lib.hid (hp.alloc (.cells #[.int .i64 W, .slice A n c] 29))
  have HRD := Lib.hid (hrd.alloc (.cells #[.int .i64 W, .slice A n c] 29))
  have HB0 := Lib.hid (Blk.new w 29 #[.int .i64 W, .slice A n c])
  have HM := Lib.hid hm
  have HPF := Lib.hid hp.flen
  have hbw0 : Below w.heap.size w (w.alloc (.cells #[.int .i64 W, .slice A n c] 29)) := bel_alloc (Below.refl _ _) _
  clear hl hll hr hp hrd hm
  cases hpv : (isReg W rows && pcs P) with
  | false =>
    have HV : Hid (solV W rows P l = false) := by show solV W rows P l = false; unfold solV; rw [hpv]; rfl
    cases hv : isReg W rows with
    | false =>
      have HVR := Lib.hid hv
      clear hpv hv
      go_enter Tryz.func12, Tryz.ntmps12
      go_wp2_with fail
      refine (IsRegion_s _ _ _ _ rows _ HR.out HL.out).mono ?_
      rw [HVR.out]
      rintro e w1 ⟨rfl, hb1⟩
      go_wp2_with fail
      go_ret
      exact ⟨by rw [HV.out]; rfl, bel_trans hbw0 hb1⟩
    | true =>
      rw [hv, Bool.true_and] at hpv
      have HVR := Lib.hid hv
      have HPV := Lib.hid hpv
      clear hpv hv
      go_enter Tryz.func12, Tryz.ntmps12
      go_wp2_with fail
      refine (IsRegion_s _ _ _ _ rows _ HR.out HL.out).mono ?_
      rw [HVR.out]
      rintro e w1 ⟨rfl, hb1⟩
      go_wp2_with fail
      refine (ArePieces_s B q cb hs P _ (HP.out.below hb1) hq HM.out).mono ?_
      rw [HPV.out]
      rintro e w2 ⟨rfl, hb2⟩
      go_wp2_with fail
      go_ret
      exact ⟨by rw [HV.out]; rfl, bel_trans hbw0 (bel_trans hb1 hb2)⟩
  | true =>
    have HPV := Lib.hid hpv
    have hvr : isReg W rows = true := by simp only [Bool.and_eq_true] at hpv; exact hpv.1
    have hpc : pcs P = true := by simp only [Bool.and_eq_true] at hpv; exact hpv.2
    have HVR := Lib.hid hvr
    have HPC := Lib.hid hpc
    have HSH := Lib.hid (pcs_atS hpc).2
    by_cases hkq : k = q
    · subst hkq
      have hk5 : k ≤ 5 := by have := (pcs_atS hpc).1; have := HPF.out; omega
      have hsol : solV W rows P l = optIs (solTo W rows P l k) (maskV W rows) := by unfold solV; rw [hpv, HLL.out, HPF.out, Bool.true_and]; simp
      have HNO : Hid (∀ j u, j < k → solTo W rows P l j = some u → solOk W rows P l j u = false → solV W rows P l = false) := fun j u hj h1 h2 => by rw [hsol, show solTo W rows P l k = none from optTo_no h1 h2 hj]; rfl
      have HYES : Hid (∀ u, solTo W rows P l k = some u → solV W rows P l = (u == maskV W rows)) := fun u h => by rw [hsol, h]; rfl
      have hkk : ((k : Int) != (k : Int)) = false := by simp
      clear hsol hpv hvr hpc
      go_enter Tryz.func12, Tryz.ntmps12
      go_wp2_with fail
      refine (IsRegion_s _ _ _ _ rows _ HR.out HL.out).mono ?_
      rw [HVR.out]
      rintro e w3 ⟨rfl, hb3⟩
      go_wp2_with fail
      refine (ArePieces_s B k cb hs P _ (HP.out.below hb3) hq HM.out).mono ?_
      rw [HPC.out]
      rintro e w1 ⟨rfl, hb4⟩
      have hb1 := bel_trans hb3 hb4
      have hbw1 := bel_trans hbw0 hb1
      have HB1 := Lib.hid (HB0.out.below hb1)
      have HR1 := Lib.hid (HR.out.below hb1)
      have HP1 := Lib.hid (HP.out.below hb1)
      have HRD1 := Lib.hid (HRD.out.below hb1)
      clear hb1
      go_wp2_with fail
      go_loopw [8, 7] (fun e23 e7 wr => ∃ (j u : Nat), j ≤ k ∧ e23 = .int .i64 j ∧ e7 = .int .i64 (u : Int) ∧ solTo W rows P l j = some u ∧ u < 2 ^ 36 ∧ Below w1.heap.size w1 wr) (fun e23 _ _ => k - (intOf e23).toNat)
      case atStart => exact ⟨0, 0, Nat.zero_le _, rfl, rfl, rfl, by decide, Below.refl _ _⟩
      case round =>
        obtain ⟨j, u, hj, rfl, rfl, hso, hu, hb⟩ := hrel
        have hB := HB1.out.below hb
        have b0 : wr.cell? ⟨w.heap.size, 0, none⟩ = some (.int .i64 W) := by simpa using hB.cell 0
        have b1 : wr.cell? ⟨w.heap.size, 1, none⟩ = some (.slice A n c) := by simpa using hB.cell 1
        have hgw := hB.lt
        clear hB
        by_cases hlt : j < k
        · have hjl : j < l.length := by rw [HLL.out]; exact hlt
          have hj0 : (0 : Int) ≤ (j : Int) := by omega
          have hj1 : (j : Int) < (k : Int) := by omega
          obtain ⟨gD, oD, hDe, hgD, d1⟩ := RdI.at_ (HRD1.out.below hb) hjl
          obtain ⟨x, f, g, off, _, hfx, hBe, hg, d2, l1, r1⟩ := (HP1.out.below hb).at_ hlt
          have hfs := HSH.out f (List.mem_of_getElem? hfx)
          have hgd : P.getD j [] = f := by rw [List.getD_eq_getElem?_getD, hfx]; rfl
          have hgl : l.getD j 0 = l[j] := by rw [List.getD_eq_getElem?_getD, List.getElem?_eq_getElem hjl]; rfl
          obtain ⟨mm, hmm⟩ : ∃ mm, l[j] = mm := ⟨_, rfl⟩
          rw [hmm] at d1 hgl
          have hok : solOk W rows P l j u = ((plV W rows f).any (· == mm) && u &&& mm.toNat == 0) := by unfold solOk; rw [hgd, hgl]
          have hnx := optTo_succ hso
          have HNO2 := Lib.hid (fun h => HNO.out j u hlt hso h)
          obtain ⟨C1, m1, k1⟩ := x
          have HFS := Lib.hid hfs
          have HRF := Lib.hid r1
          have HL1 := Lib.hid l1
          have HOK := Lib.hid hok
          have HPM := Lib.hid (plV_msk W rows f)
          have HPL := Lib.hid (plV_len W rows f)
          have hnx2 : solOk W rows P l j u = true → solTo W rows P l (j + 1) = some (u ||| mm.toNat) := fun h => by
            have h2 : solTo W rows P l (j + 1) = if solOk W rows P l j u then some (u ||| (l.getD j 0).toNat) else none := hnx
            rw [h2, h, hgl]; rfl
          have HNX := Lib.hid hnx2
          dsimp only at d2
          subst hDe hBe
          clear hfx l1 r1 hfs hgd hgl hok hnx hnx2 hmm hso
          go_wp2_with fail
          refine wp_region_rg 21 rfl (by kernel_rfl) ?_
          (refine rgT (i := 0) (v := ?_) rfl rfl (by kernel_rfl) (by kernel_rfl) (by kernel_rfl) (by rfl) (fun w' hcw => ?_) ?_; rotate_left; ((try dsimp only at hcw); have hbc := hcw.cells; go_simp; first | done | with_reducible rfl); simp only [List.setIfInBounds_toArray, List.set_cons_zero, List.set_cons_succ])
          (refine rgT (i := 1) (v := ?_) rfl rfl (by kernel_rfl) (by kernel_rfl) (by kernel_rfl) (by rfl) (fun w' hcw => ?_) ?_; rotate_left; ((try dsimp only at hcw); have hbc := hcw.cells; go_simp; first | done | with_reducible rfl); simp only [List.setIfInBounds_toArray, List.set_cons_zero, List.set_cons_succ])
          (refine rgT (i := 2) (v := ?_) rfl rfl (by kernel_rfl) (by kernel_rfl) (by kernel_rfl) (by rfl) (fun w' hcw => ?_) ?_; rotate_left; ((try dsimp only at hcw); have hbc := hcw.cells; go_simp; first | done | with_reducible rfl); simp only [List.setIfInBounds_toArray, List.set_cons_zero, List.set_cons_succ])
          (refine rgT (i := 3) (v := ?_) rfl rfl (by kernel_rfl) (by kernel_rfl) (by kernel_rfl) (by rfl) (fun w' hcw => ?_) ?_; rotate_left; ((try dsimp only at hcw); have hbc := hcw.cells; go_simp; first | done | with_reducible rfl); simp only [List.setIfInBounds_toArray, List.set_cons_zero, List.set_cons_succ])
          (refine rgT (i := 4) (v := ?_) rfl rfl (by kernel_rfl) (by kernel_rfl) (by kernel_rfl) (by rfl) (fun w' hcw => ?_) ?_; rotate_left; ((try dsimp only at hcw); have hbc := hcw.cells; go_simp; first | done | with_reducible rfl); simp only [List.setIfInBounds_toArray, List.set_cons_zero, List.set_cons_succ])
          (refine rgT (i := 6) (v := ?_) rfl rfl (by kernel_rfl) (by kernel_rfl) (by kernel_rfl) (by rfl) (fun w' hcw => ?_) ?_; rotate_left; ((try dsimp only at hcw); have hbc := hcw.cells; go_simp; first | done | with_reducible rfl); simp only [List.setIfInBounds_toArray, List.set_cons_zero, List.set_cons_succ])
          (refine rgT (i := 7) (v := ?_) rfl rfl (by kernel_rfl) (by kernel_rfl) (by kernel_rfl) (by rfl) (fun w' hcw => ?_) ?_; rotate_left; ((try dsimp only at hcw); have hbc := hcw.cells; go_simp; first | done | with_reducible rfl); simp only [List.setIfInBounds_toArray, List.set_cons_zero, List.set_cons_succ])
          (refine rgT (i := 8) (v := ?_) rfl rfl (by kernel_rfl) (by kernel_rfl) (by kernel_rfl) (by rfl) (fun w' hcw => ?_) ?_; rotate_left; ((try dsimp only at hcw); have hbc := hcw.cells; go_simp; first | done | with_reducible rfl); simp only [List.setIfInBounds_toArray, List.set_cons_zero, List.set_cons_succ])
          (refine rgT (i := 9) (v := ?_) rfl rfl (by kernel_rfl) (by kernel_rfl) (by kernel_rfl) (by rfl) (fun w' hcw => ?_) ?_; rotate_left; ((try dsimp only at hcw); have hbc := hcw.cells; go_simp; first | done | with_reducible rfl); simp only [List.setIfInBounds_toArray, List.set_cons_zero, List.set_cons_succ])
          refine rgK_one (i := 5) (by kernel_rfl) rfl rfl (fun u1 hc1 he1 K hK => ?_)
          go_simp
          refine (PlacementsOf_s W A C1 n c m1 k1 rows f _ ((HR1.out.below hb).below hc1) HL.out HVR.out (HRF.out.below hc1) HL1.out HFS.out).mono ?_
          rintro e u2 ⟨gE, q2, c2, rfl, hOE, hbE⟩
          have hq2 : (plV W rows f).length = q2 := by have := own_len hOE; rw [vI_length] at this; omega
          have hc2 : Below wr.heap.size wr u2 := bel_trans hc1 hbE
          refine hK _ _ hc2 ?_
          clear hK K
          have HRE := Lib.hid (Rd.of_own hOE)
          have HQ2 := Lib.hid hq2
          have hq3 : q2 ≤ 288 := by have := HPL.out; omega
          clear hOE hq2
          refine rgK_one (i := 10) (by kernel_rfl) rfl rfl (fun u3 hc3 he3 K hK => ?_)
          go_simp
          refine (l7Has_s _ q2 c2 (plV W rows f) mm _ (HRE.out.below he3) HQ2.out (by omega)).mono ?_
          rintro e u4 ⟨rfl, hb4⟩
          have hc4 : Below wr.heap.size wr u4 := bel_trans hc3 hb4
          refine hK _ _ hc4 ?_
          clear hK K
          cases hh : (plV W rows f).any (· == mm) with
          | false =>
            have HN := Lib.hid (HNO2.out (by rw [HOK.out, hh]; rfl))
            clear hh
            (refine rgT (i := 11) (v := ?_) rfl rfl (by kernel_rfl) (by kernel_rfl) (by kernel_rfl) (by rfl) (fun w' hcw => ?_) ?_; rotate_left; ((try dsimp only at hcw); have hbc := hcw.cells; go_simp; first | done | with_reducible rfl); simp only [List.setIfInBounds_toArray, List.set_cons_zero, List.set_cons_succ])
            (refine rgT (i := 12) (v := ?_) rfl rfl (by kernel_rfl) (by kernel_rfl) (by kernel_rfl) (by rfl) (fun w' hcw => ?_) ?_; rotate_left; ((try dsimp only at hcw); have hbc := hcw.cells; go_simp; first | done | with_reducible rfl); simp only [List.setIfInBounds_toArray, List.set_cons_zero, List.set_cons_succ])
            (refine rgS (i := 13) rfl rfl (by kernel_rfl) (by kernel_rfl) (by kernel_rfl) (by rfl) ?_; simp only [List.setIfInBounds_toArray, List.set_cons_zero, List.set_cons_succ])
            (refine rgS (i := 14) rfl rfl (by kernel_rfl) (by kernel_rfl) (by kernel_rfl) (by rfl) ?_; simp only [List.setIfInBounds_toArray, List.set_cons_zero, List.set_cons_succ])
            (refine rgS (i := 15) rfl rfl (by kernel_rfl) (by kernel_rfl) (by kernel_rfl) (by rfl) ?_; simp only [List.setIfInBounds_toArray, List.set_cons_zero, List.set_cons_succ])
            (refine rgS (i := 16) rfl rfl (by kernel_rfl) (by kernel_rfl) (by kernel_rfl) (by rfl) ?_; simp only [List.setIfInBounds_toArray, List.set_cons_zero, List.set_cons_succ])
            (refine rgS (i := 17) rfl rfl (by kernel_rfl) (by kernel_rfl) (by kernel_rfl) (by rfl) ?_; simp only [List.setIfInBounds_toArray, List.set_cons_zero, List.set_cons_succ])
            (refine rgS (i := 18) rfl rfl (by kernel_rfl) (by kernel_rfl) (by kernel_rfl) (by rfl) ?_; simp only [List.setIfInBounds_toArray, List.set_cons_zero, List.set_cons_succ])
            (refine rgS (i := 19) rfl rfl (by kernel_rfl) (by kernel_rfl) (by kernel_rfl) (by rfl) ?_; simp only [List.setIfInBounds_toArray, List.set_cons_zero, List.set_cons_succ])
            (refine rgT (i := 20) (v := ?_) rfl rfl (by kernel_rfl) (by kernel_rfl) (by kernel_rfl) (by rfl) (fun w' hcw => ?_) ?_; rotate_left; ((try dsimp only at hcw); have hbc := hcw.cells; go_simp; first | done | with_reducible rfl); simp only [List.setIfInBounds_toArray, List.set_cons_zero, List.set_cons_succ])
            refine ⟨by kernel_rfl, fun wz hcz hez => NoPanic.normal ?_⟩
            have hbz := bel_trans hb hcz
            go_wp2_with fail
            go_ret
            exact ⟨by rw [HN.out]; rfl, bel_trans hbw1 hbz⟩
          | true =>
            obtain ⟨t, rfl, ht⟩ := has_msk HPM.out hh
            obtain ⟨z, hz⟩ : ∃ z, u &&& t = z := ⟨_, rfl⟩
            have hand : bits .and .i64 (u : Int) (t : Int) = (z : Int) := by rw [i64_and u t (by omega) (by omega), hz]
            have hor : bits .or .i64 (u : Int) (t : Int) = ((u ||| t : Nat) : Int) := i64_or u t (by omega) (by omega)
            have HOR := Lib.hid hor
            have HUT : Hid (u ||| t < 2 ^ 36) := Nat.or_lt_two_pow hu ht
            have hokz : solOk W rows P l j u = (z == 0) := by rw [HOK.out, hh, Int.toNat_natCast, hz, Bool.true_and]
            have HOKZ := Lib.hid hokz
            clear hh hokz hor hz
            by_cases hz0 : z = 0
            · have hzt : ((z : Int) != 0) = false := by simp [hz0]
              have HN := Lib.hid (HNX.out (by rw [HOKZ.out, hz0]; rfl))
              clear hz0
              (refine rgT (i := 11) (v := ?_) rfl rfl (by kernel_rfl) (by kernel_rfl) (by kernel_rfl) (by rfl) (fun w' hcw => ?_) ?_; rotate_left; ((try dsimp only at hcw); have hbc := hcw.cells; go_simp; first | done | with_reducible rfl); simp only [List.setIfInBounds_toArray, List.set_cons_zero, List.set_cons_succ])
              (refine rgT (i := 12) (v := ?_) rfl rfl (by kernel_rfl) (by kernel_rfl) (by kernel_rfl) (by rfl) (fun w' hcw => ?_) ?_; rotate_left; ((try dsimp only at hcw); have hbc := hcw.cells; go_simp; first | done | with_reducible rfl); simp only [List.setIfInBounds_toArray, List.set_cons_zero, List.set_cons_succ])
              (refine rgT (i := 13) (v := ?_) rfl rfl (by kernel_rfl) (by kernel_rfl) (by kernel_rfl) (by rfl) (fun w' hcw => ?_) ?_; rotate_left; ((try dsimp only at hcw); have hbc := hcw.cells; go_simp; first | done | with_reducible rfl); simp only [List.setIfInBounds_toArray, List.set_cons_zero, List.set_cons_succ])
              (refine rgT (i := 14) (v := ?_) rfl rfl (by kernel_rfl) (by kernel_rfl) (by kernel_rfl) (by rfl) (fun w' hcw => ?_) ?_; rotate_left; ((try dsimp only at hcw); have hbc := hcw.cells; go_simp; first | done | with_reducible rfl); simp only [List.setIfInBounds_toArray, List.set_cons_zero, List.set_cons_succ])
              (refine rgT (i := 15) (v := ?_) rfl rfl (by kernel_rfl) (by kernel_rfl) (by kernel_rfl) (by rfl) (fun w' hcw => ?_) ?_; rotate_left; ((try dsimp only at hcw); have hbc := hcw.cells; go_simp; first | done | with_reducible rfl); simp only [List.setIfInBounds_toArray, List.set_cons_zero, List.set_cons_succ])
              (refine rgT (i := 16) (v := ?_) rfl rfl (by kernel_rfl) (by kernel_rfl) (by kernel_rfl) (by rfl) (fun w' hcw => ?_) ?_; rotate_left; ((try dsimp only at hcw); have hbc := hcw.cells; go_simp; first | done | with_reducible rfl); simp only [List.setIfInBounds_toArray, List.set_cons_zero, List.set_cons_succ])
              (refine rgT (i := 17) (v := ?_) rfl rfl (by kernel_rfl) (by kernel_rfl) (by kernel_rfl) (by rfl) (fun w' hcw => ?_) ?_; rotate_left; ((try dsimp only at hcw); have hbc := hcw.cells; go_simp; first | done | with_reducible rfl); simp only [List.setIfInBounds_toArray, List.set_cons_zero, List.set_cons_succ])
              (refine rgT (i := 18) (v := ?_) rfl rfl (by kernel_rfl) (by kernel_rfl) (by kernel_rfl) (by rfl) (fun w' hcw => ?_) ?_; rotate_left; ((try dsimp only at hcw); have hbc := hcw.cells; go_simp; first | done | with_reducible rfl); simp only [List.setIfInBounds_toArray, List.set_cons_zero, List.set_cons_succ])
              (refine rgT (i := 19) (v := ?_) rfl rfl (by kernel_rfl) (by kernel_rfl) (by kernel_rfl) (by rfl) (fun w' hcw => ?_) ?_; rotate_left; ((try dsimp only at hcw); have hbc := hcw.cells; go_simp; first | done | with_reducible rfl); simp only [List.setIfInBounds_toArray, List.set_cons_zero, List.set_cons_succ])
              (refine rgT (i := 20) (v := ?_) rfl rfl (by kernel_rfl) (by kernel_rfl) (by kernel_rfl) (by rfl) (fun w' hcw => ?_) ?_; rotate_left; ((try dsimp only at hcw); have hbc := hcw.cells; go_simp; first | done | with_reducible rfl); simp only [List.setIfInBounds_toArray, List.set_cons_zero, List.set_cons_succ])
              refine ⟨by kernel_rfl, fun wz hcz hez => NoPanic.normal ?_⟩
              have hbz := bel_trans hb hcz
              have hor := HOR.out
              have d1' := keep_below hcz d1
              have hgD' : gD < wz.heap.size := Nat.lt_of_lt_of_le hgD hcz.size
              clear hand hzt d1 d2 b0 b1 hgw hg
              go_wp2_with fail
              exact ⟨⟨j + 1, u ||| t, by omega, by go_num, rfl, by rw [HN.out, Int.toNat_natCast], HUT.out, hbz⟩, by simp [intOf]; omega⟩
            · have hzt : ((z : Int) != 0) = true := by simp; omega
              have HN := Lib.hid (HNO2.out (by rw [HOKZ.out]; simpa using hz0))
              clear hz0
              (refine rgT (i := 11) (v := ?_) rfl rfl (by kernel_rfl) (by kernel_rfl) (by kernel_rfl) (by rfl) (fun w' hcw => ?_) ?_; rotate_left; ((try dsimp only at hcw); have hbc := hcw.cells; go_simp; first | done | with_reducible rfl); simp only [List.setIfInBounds_toArray, List.set_cons_zero, List.set_cons_succ])
              (refine rgT (i := 12) (v := ?_) rfl rfl (by kernel_rfl) (by kernel_rfl) (by kernel_rfl) (by rfl) (fun w' hcw => ?_) ?_; rotate_left; ((try dsimp only at hcw); have hbc := hcw.cells; go_simp; first | done | with_reducible rfl); simp only [List.setIfInBounds_toArray, List.set_cons_zero, List.set_cons_succ])
              (refine rgT (i := 13) (v := ?_) rfl rfl (by kernel_rfl) (by kernel_rfl) (by kernel_rfl) (by rfl) (fun w' hcw => ?_) ?_; rotate_left; ((try dsimp only at hcw); have hbc := hcw.cells; go_simp; first | done | with_reducible rfl); simp only [List.setIfInBounds_toArray, List.set_cons_zero, List.set_cons_succ])
              (refine rgT (i := 14) (v := ?_) rfl rfl (by kernel_rfl) (by kernel_rfl) (by kernel_rfl) (by rfl) (fun w' hcw => ?_) ?_; rotate_left; ((try dsimp only at hcw); have hbc := hcw.cells; go_simp; first | done | with_reducible rfl); simp only [List.setIfInBounds_toArray, List.set_cons_zero, List.set_cons_succ])
              (refine rgT (i := 15) (v := ?_) rfl rfl (by kernel_rfl) (by kernel_rfl) (by kernel_rfl) (by rfl) (fun w' hcw => ?_) ?_; rotate_left; ((try dsimp only at hcw); have hbc := hcw.cells; go_simp; first | done | with_reducible rfl); simp only [List.setIfInBounds_toArray, List.set_cons_zero, List.set_cons_succ])
              (refine rgT (i := 16) (v := ?_) rfl rfl (by kernel_rfl) (by kernel_rfl) (by kernel_rfl) (by rfl) (fun w' hcw => ?_) ?_; rotate_left; ((try dsimp only at hcw); have hbc := hcw.cells; go_simp; first | done | with_reducible rfl); simp only [List.setIfInBounds_toArray, List.set_cons_zero, List.set_cons_succ])
              (refine rgT (i := 17) (v := ?_) rfl rfl (by kernel_rfl) (by kernel_rfl) (by kernel_rfl) (by rfl) (fun w' hcw => ?_) ?_; rotate_left; ((try dsimp only at hcw); have hbc := hcw.cells; go_simp; first | done | with_reducible rfl); simp only [List.setIfInBounds_toArray, List.set_cons_zero, List.set_cons_succ])
              (refine rgT (i := 18) (v := ?_) rfl rfl (by kernel_rfl) (by kernel_rfl) (by kernel_rfl) (by rfl) (fun w' hcw => ?_) ?_; rotate_left; ((try dsimp only at hcw); have hbc := hcw.cells; go_simp; first | done | with_reducible rfl); simp only [List.setIfInBounds_toArray, List.set_cons_zero, List.set_cons_succ])
              (refine rgT (i := 19) (v := ?_) rfl rfl (by kernel_rfl) (by kernel_rfl) (by kernel_rfl) (by rfl) (fun w' hcw => ?_) ?_; rotate_left; ((try dsimp only at hcw); have hbc := hcw.cells; go_simp; first | done | with_reducible rfl); simp only [List.setIfInBounds_toArray, List.set_cons_zero, List.set_cons_succ])
              (refine rgT (i := 20) (v := ?_) rfl rfl (by kernel_rfl) (by kernel_rfl) (by kernel_rfl) (by rfl) (fun w' hcw => ?_) ?_; rotate_left; ((try dsimp only at hcw); have hbc := hcw.cells; go_simp; first | done | with_reducible rfl); simp only [List.setIfInBounds_toArray, List.set_cons_zero, List.set_cons_succ])
              refine ⟨by kernel_rfl, fun wz hcz hez => NoPanic.normal ?_⟩
              have hbz := bel_trans hb hcz
              go_wp2_with fail
              go_ret
              exact ⟨by rw [HN.out]; rfl, bel_trans hbw1 hbz⟩
        · obtain rfl : j = k := by omega
          have HN := Lib.hid (HYES.out u hso)
          have hj1 : ¬ (j : Int) < (j : Int) := by omega
          clear hso
          go_wp2_with fail
          refine (MaskOf_s W A n c rows _ (HR1.out.below hb) HL.out).mono ?_
          rintro e w2 ⟨rfl, hb2⟩
          go_wp2_with fail
          go_ret
          exact ⟨by rw [HN.out]; exact ret_bool (a := ((u : Int) == ((maskV W rows : Nat) : Int))) (by rw [Bool.eq_iff_iff, beq_iff_eq, beq_iff_eq]; omega), bel_trans hbw1 (bel_trans hb hb2)⟩
    · have HV : Hid (solV W rows P l = false) := by
        show solV W rows P l = false
        unfold solV
        rw [HLL.out, HPF.out, show (k == q) = false from by simpa using hkq, Bool.false_and, Bool.and_false]
      have hkq2 : ((k : Int) != (q : Int)) = true := by simp; omega
      clear hpv hvr hpc hkq
      go_enter Tryz.func12, Tryz.ntmps12
      go_wp2_with fail
      refine (IsRegion_s _ _ _ _ rows _ HR.out HL.out).mono ?_
      rw [HVR.out]
      rintro e w3 ⟨rfl, hb3⟩
      go_wp2_with fail
      refine (ArePieces_s B q cb hs P _ (HP.out.below hb3) hq HM.out).mono ?_
      rw [HPC.out]
      rintro e w1 ⟨rfl, hb4⟩
      have hb1 := bel_trans hb3 hb4
      have hbw1 := bel_trans hbw0 hb1
      go_wp2_with fail
      go_ret
      exact ⟨by rw [HV.out]; rfl, hbw1⟩
end Go.Proofs.YteelmhmdnljjnaaGreat
