/- Are masks a covering of a region? Both sides. -/
import Derived.Test.YteelmhmdnljjnaaGreatPlcI
import Derived.Test.YteelmhmdnljjnaaGreatPlcS
import Derived.Test.YteelmhmdnljjnaaGreatHas
import Derived.Test.YteelmhmdnljjnaaGreatMask
import Derived.Outline
import Derived.WalkLawsBesides
import Derived.WalkSpells
import Derived.BigQuiet
import Derived.Deep.QuietTactic
import Derived.Deep.RegionHeld3
import Derived.Deep.RegionWith
import Derived.Deep.DeepCutAuto
import Derived.Deep.CutBlock
import Derived.Deep.DrawnRows
namespace Go.Proofs.YteelmhmdnljjnaaGreat
open Go.RowKit
set_option linter.unusedVariables false
attribute [local go_sem ↓] Go.wp_at_zero Go.wp_at_succ

set_option maxRecDepth 100000 in
set_option maxHeartbeats 6400000 in
theorem IsCovering_i (W : Int) (A B D : Option Addr) (n c q cb k cd : Nat) (rows l : List Int) (hs : List H) (P : List (List C)) (w : World) (hr : Rd w A (vI rows)) (hl : rows.length = n) (hp : RdP w B q hs P) (hq : q ≤ 1048576) (hm : totC P ≤ 1048576) (hrd : Rd w D (vI l)) (hll : l.length = k) (hk : k ≤ 1048576) :
    Calls Tryz.prog 21 #[.agg #[.int .i64 W, .slice A n c], .slice B q cb, .slice D k cd] w (Ret w (.bool (covV W rows P l))) := by
  have HL := Lib.hid hl
  have HLL := Lib.hid hll
  have HR := Lib.hid (hr.alloc (.cells #[.int .i64 W, .slice A n c] 29))
  have HP := Lib.hid (hp.alloc (.cells #[.int .i64 W, .slice A n c] 29))
  have HRD := Lib.hid (hrd.alloc (.cells #[.int .i64 W, .slice A n c] 29))
  have HB0 := Lib.hid (Blk.new w 29 #[.int .i64 W, .slice A n c])
  have HM := Lib.hid hm
  have HPF := Lib.hid hp.flen
  have hbw0 : Below w.heap.size w (w.alloc (.cells #[.int .i64 W, .slice A n c] 29)) := bel_alloc (Below.refl _ _) _
  clear hl hll hr hp hrd hm
  cases hpv : (isReg W rows && pcs P) with
  | false =>
    have HV : Hid (covV W rows P l = false) := by show covV W rows P l = false; unfold covV; rw [hpv]; rfl
    have HPV := Lib.hid hpv
    clear hpv
    go_enter Tryz.func21, Tryz.ntmps21
    go_wp2_with fail
    refine (isProblem_i W A B n c q cb rows hs P _ HR.out HL.out HP.out hq HM.out).mono ?_
    rw [HPV.out]
    rintro e w1 ⟨rfl, hb1⟩
    go_wp2_with fail
    go_ret
    exact ⟨by rw [HV.out]; rfl, bel_trans hbw0 hb1⟩
  | true =>
    have HPV := Lib.hid hpv
    have hvr : isReg W rows = true := by simp only [Bool.and_eq_true] at hpv; exact hpv.1
    have hpc : pcs P = true := by simp only [Bool.and_eq_true] at hpv; exact hpv.2
    have HVR := Lib.hid hvr
    have HPC := Lib.hid hpc
    have hcov : covV W rows P l = optIs (covTo (allV W rows P) l k) (maskV W rows) := by unfold covV; rw [hpv, HLL.out, Bool.true_and]
    have hLm := allV_msk W rows P
    have hLl := allV_len W rows P
    have hp5 := (pcs_at hpc).1
    obtain ⟨L, hL⟩ : ∃ L, allV W rows P = L := ⟨_, rfl⟩
    rw [hL] at hcov hLm hLl
    have HLE := Lib.hid hL
    have HLM := Lib.hid hLm
    have hL5 : L.length ≤ 1440 := by omega
    have HL5 := Lib.hid hL5
    have HNO : Hid (∀ j u, j < k → covTo L l j = some u → covOk L l j u = false → covV W rows P l = false) := fun j u hj h1 h2 => by rw [hcov, show covTo L l k = none from optTo_no h1 h2 hj]; rfl
    have HYES : Hid (∀ u, covTo L l k = some u → covV W rows P l = (u == maskV W rows)) := fun u h => by rw [hcov, h]; rfl
    clear hpv hvr hpc hcov hLm hLl hp5 hL hL5
    go_enter Tryz.func21, Tryz.ntmps21
    go_wp2_with fail
    refine (isProblem_i W A B n c q cb rows hs P _ HR.out HL.out HP.out hq HM.out).mono ?_
    rw [HPV.out]
    rintro e w3 ⟨rfl, hb3⟩
    have HB3 := Lib.hid (HB0.out.below hb3)
    have x0 : w3.cell? ⟨w.heap.size, 0, none⟩ = some (.int .i64 W) := by simpa using HB3.out.cell 0
    have x1 : w3.cell? ⟨w.heap.size, 1, none⟩ = some (.slice A n c) := by simpa using HB3.out.cell 1
    have xl := HB3.out.lt
    go_wp2_with fail
    refine (all_i W A B n c q cb rows hs P _ (HR.out.below hb3) HL.out HVR.out (HP.out.below hb3) HPC.out).mono ?_
    rw [HLE.out]
    rintro e w1 ⟨E, q2, c2, rfl, hOE, hbE⟩
    have hq2 : L.length = q2 := by have := own_len hOE; rw [vI_length] at this; omega
    have HQ2 := Lib.hid hq2
    have HRE := Lib.hid (Rd.of_own hOE)
    have hb1 := bel_trans hb3 hbE
    have hbw1 := bel_trans hbw0 hb1
    have HB1 := Lib.hid (HB0.out.below hb1)
    have HR1 := Lib.hid (HR.out.below hb1)
    have HRD1 := Lib.hid (HRD.out.below hb1)
    have hq3 : q2 ≤ 1440 := by have := HL5.out; omega
    clear hb1 hOE hq2 hbE hb3 x0 x1 xl
    go_wp2_with fail
    go_loopw [20, 8] (fun e23 e8 wr => ∃ (j u : Nat), j ≤ k ∧ e23 = .int .i64 j ∧ e8 = .int .i64 (u : Int) ∧ covTo L l j = some u ∧ u < 2 ^ 36 ∧ Below w1.heap.size w1 wr) (fun e23 _ _ => k - (intOf e23).toNat)
    case atStart => exact ⟨0, 0, Nat.zero_le _, rfl, rfl, rfl, by decide, Below.refl _ _⟩
    case round =>
      obtain ⟨j, u, hj, rfl, rfl, hso, hu, hb⟩ := hrel
      have hB := HB1.out.below hb
      have b0 : wr.cell? ⟨w.heap.size, 0, none⟩ = some (.int .i64 W) := by simpa using hB.cell 0
      have b1 : wr.cell? ⟨w.heap.size, 1, none⟩ = some (.slice A n c) := by simpa using hB.cell 1
      have hgw := hB.lt
      clear hB
      by_cases hlt : j < k
      · have hjl : j < l.length := by rw [HLL.out]; exact hlt
        have hj0 : (0 : Int) ≤ (j : Int) := by omega
        have hj1 : (j : Int) < (k : Int) := by omega
        have HRW := Lib.hid (HRD1.out.below hb)
        obtain ⟨gD, oD, hDe, hgD, d1⟩ := RdI.at_ HRW.out hjl
        have hgl : l.getD j 0 = l[j] := by rw [List.getD_eq_getElem?_getD, List.getElem?_eq_getElem hjl]; rfl
        obtain ⟨mm, hmm⟩ : ∃ mm, l[j] = mm := ⟨_, rfl⟩
        rw [hmm] at d1 hgl
        have hok : covOk L l j u = (L.any (· == mm) && (j == 0 || decide (l.getD (j - 1) 0 < mm))) := by unfold covOk; rw [hgl]
        have hnx := optTo_succ hso
        have HNO2 := Lib.hid (fun h => HNO.out j u hlt hso h)
        have hnx2 : covOk L l j u = true → covTo L l (j + 1) = some (u ||| mm.toNat) := fun h => by
          have h2 : covTo L l (j + 1) = if covOk L l j u then some (u ||| (l.getD j 0).toNat) else none := hnx
          rw [h2, h, hgl]; rfl
        have HNX := Lib.hid hnx2
        have HOK := Lib.hid hok
        clear hgl hok hnx hnx2 hmm hso
        cases hh : L.any (· == mm) with
        | false =>
          have HN := Lib.hid (HNO2.out (by rw [HOK.out, hh]; rfl))
          have HH := Lib.hid hh
          subst hDe
          clear hh
          go_wp2_with fail
          refine (hasInt_i E q2 c2 L mm _ (HRE.out.below hb) HQ2.out (by omega)).mono ?_
          rw [HH.out]
          rintro e w2 ⟨rfl, hb2⟩
          go_wp2_with fail
          go_ret
          exact ⟨by rw [HN.out]; rfl, bel_trans hbw1 (bel_trans hb hb2)⟩
        | true =>
          obtain ⟨t, rfl, ht⟩ := has_msk HLM.out hh
          have HH := Lib.hid hh
          have hor : bits .or .i64 (u : Int) (t : Int) = ((u ||| t : Nat) : Int) := i64_or u t (by omega) (by omega)
          have HOR := Lib.hid hor
          have HUT : Hid (u ||| t < 2 ^ 36) := Nat.or_lt_two_pow hu ht
          by_cases hz : j = 0
          · have HN := Lib.hid (HNX.out (by rw [HOK.out, hh, hz]; rfl))
            have hg0 : ¬ (j : Int) > 0 := by omega
            have hgN : ¬ 0 < j := by omega
            subst hDe
            clear hh hor hz
            go_wp2_with fail
            refine (hasInt_i E q2 c2 L (t : Int) _ (HRE.out.below hb) HQ2.out (by omega)).mono ?_
            rw [HH.out]
            rintro e w2 ⟨rfl, hb2⟩
            have hor := HOR.out
            go_wp2_with fail
            exact ⟨⟨j + 1, u ||| t, by omega, by go_num, rfl, by rw [HN.out, Int.toNat_natCast], HUT.out, bel_trans hb hb2⟩, by simp [intOf]; omega⟩
          · obtain ⟨i, hi⟩ : ∃ i, j = i + 1 := ⟨j - 1, by omega⟩
            have hil : i < l.length := by omega
            obtain ⟨g', o', he, hg', d2⟩ := RdI.at_ HRW.out hil
            rw [hDe] at he
            simp only [Option.some.injEq, Addr.mk.injEq, and_true] at he
            obtain ⟨rfl, rfl⟩ := he
            have hgi : l.getD (j - 1) 0 = l[i] := by rw [hi, Nat.add_sub_cancel, List.getD_eq_getElem?_getD, List.getElem?_eq_getElem hil]; rfl
            obtain ⟨pv, hpv⟩ : ∃ pv, l[i] = pv := ⟨_, rfl⟩
            rw [hpv] at d2 hgi
            have hji : (j : Int) - 1 = (i : Int) := by omega
            have hi0 : (0 : Int) ≤ (i : Int) := by omega
            have hi1 : (i : Int) < (k : Int) := by omega
            have hg0 : (j : Int) > 0 := by omega
            have hgN : 0 < j := by omega
            have hokv : covOk L l j u = decide (pv < (t : Int)) := by rw [HOK.out, hh, hgi, show (j == 0) = false from by simpa using hz]; simp
            have HOKV := Lib.hid hokv
            subst hDe
            clear hh hor hz hi hgi hpv hokv
            by_cases hlt2 : pv < (t : Int)
            · have HN := Lib.hid (HNX.out (by rw [HOKV.out]; simpa using hlt2))
              have hge : ¬ pv ≥ (t : Int) := by omega
              clear hlt2
              go_wp2_with fail
              refine (hasInt_i E q2 c2 L (t : Int) _ (HRE.out.below hb) HQ2.out (by omega)).mono ?_
              rw [HH.out]
              rintro e w2 ⟨rfl, hb2⟩
              have hor := HOR.out
              have d2' := keep_below hb2 d2
              have hg2 : gD < w2.heap.size := Nat.lt_of_lt_of_le hgD hb2.size
              clear d1 d2
              go_wp2_with fail
              exact ⟨⟨j + 1, u ||| t, by omega, by go_num, rfl, by rw [HN.out, Int.toNat_natCast], HUT.out, bel_trans hb hb2⟩, by simp [intOf]; omega⟩
            · have HN := Lib.hid (HNO2.out (by rw [HOKV.out]; simpa using hlt2))
              have hge : pv ≥ (t : Int) := by omega
              clear hlt2
              go_wp2_with fail
              refine (hasInt_i E q2 c2 L (t : Int) _ (HRE.out.below hb) HQ2.out (by omega)).mono ?_
              rw [HH.out]
              rintro e w2 ⟨rfl, hb2⟩
              have d2' := keep_below hb2 d2
              have hg2 : gD < w2.heap.size := Nat.lt_of_lt_of_le hgD hb2.size
              clear d1 d2
              go_wp2_with fail
              go_ret
              exact ⟨by rw [HN.out]; rfl, bel_trans hbw1 (bel_trans hb hb2)⟩
      · obtain rfl : j = k := by omega
        have HN := Lib.hid (HYES.out u hso)
        have hj1 : ¬ (j : Int) < (j : Int) := by omega
        clear hso
        go_wp2_with fail
        refine (mask_i W A n c rows _ (HR1.out.below hb) HL.out HVR.out).mono ?_
        rintro e w2 ⟨rfl, hb2⟩
        go_wp2_with fail
        go_ret
        exact ⟨by rw [HN.out]; exact ret_bool (a := ((u : Int) == ((maskV W rows : Nat) : Int))) (by rw [Bool.eq_iff_iff, beq_iff_eq, beq_iff_eq]; omega), bel_trans hbw1 (bel_trans hb hb2)⟩
set_option maxRecDepth 100000 in
set_option maxHeartbeats 6400000 in
theorem IsCovering_s (W : Int) (A B D : Option Addr) (n c q cb k cd : Nat) (rows l : List Int) (hs : List H) (P : List (List C)) (w : World) (hr : Rd w A (vI rows)) (hl : rows.length = n) (hp : RdP w B q hs P) (hq : q ≤ 1048576) (hm : totC P ≤ 1048576) (hrd : Rd w D (vI l)) (hll : l.length = k) (hk : k ≤ 1048576) :
    Calls Tryz.prog 20 #[.agg #[.int .i64 W, .slice A n c], .slice B q cb, .slice D k cd] w (Ret w (.bool (covV W rows P l))) := by
  have HL := Lib.hid hl
  have HLL := Lib.hid hll
  have HR := Lib.hid (hr.alloc (.cells #[.int .i64 W, .slice A n c] 29))
  have HP := Lib.hid (hp.alloc (.cells #[.int .i64 W, .slice A n c] 29))
  have HRD := Lib.hid (hrd.alloc (.cells #[.int .i64 W, .slice A n c] 29))
  have HB0 := Lib.hid (Blk.new w 29 #[.int .i64 W, .slice A n c])
  have HM := Lib.hid hm
  have HPF := Lib.hid hp.flen
  have hbw0 : Below w.heap.size w (w.alloc (.cells #[.int .i64 W, .slice A n c] 29)) := bel_alloc (Below.refl _ _) _
  clear hl hll hr hp hrd hm
  cases hpv : (isReg W rows && pcs P) with
  | false =>
    have HV : Hid (covV W rows P l = false) := by show covV W rows P l = false; unfold covV; rw [hpv]; rfl
    cases hv : isReg W rows with
    | false =>
      have HVR := Lib.hid hv
      clear hpv hv
      go_enter Tryz.func20, Tryz.ntmps20
      go_wp2_with fail
      refine (IsRegion_s _ _ _ _ rows _ HR.out HL.out).mono ?_
      rw [HVR.out]
      rintro e w1 ⟨rfl, hb1⟩
      go_wp2_with fail
      go_ret
      exact ⟨by rw [HV.out]; rfl, bel_trans hbw0 hb1⟩
    | true =>
      rw [hv, Bool.true_and] at hpv
      have HVR := Lib.hid hv
      have HPV := Lib.hid hpv
      clear hpv hv
      go_enter Tryz.func20, Tryz.ntmps20
      go_wp2_with fail
      refine (IsRegion_s _ _ _ _ rows _ HR.out HL.out).mono ?_
      rw [HVR.out]
      rintro e w1 ⟨rfl, hb1⟩
      go_wp2_with fail
      refine (ArePieces_s B q cb hs P _ (HP.out.below hb1) hq HM.out).mono ?_
      rw [HPV.out]
      rintro e w2 ⟨rfl, hb2⟩
      go_wp2_with fail
      go_ret
      exact ⟨by rw [HV.out]; rfl, bel_trans hbw0 (bel_trans hb1 hb2)⟩
  | true =>
    have HPV := Lib.hid hpv
    have hvr : isReg W rows = true := by simp only [Bool.and_eq_true] at hpv; exact hpv.1
    have hpc : pcs P = true := by simp only [Bool.and_eq_true] at hpv; exact hpv.2
    have HVR := Lib.hid hvr
    have HPC := Lib.hid hpc
    have hcov : covV W rows P l = optIs (covTo (allV W rows P) l k) (maskV W rows) := by unfold covV; rw [hpv, HLL.out, Bool.true_and]
    have hLm := allV_msk W rows P
    have hLl := allV_len W rows P
    have hp5 := (pcs_atS hpc).1
    obtain ⟨L, hL⟩ : ∃ L, allV W rows P = L := ⟨_, rfl⟩
    rw [hL] at hcov hLm hLl
    have HLE := Lib.hid hL
    have HLM := Lib.hid hLm
    have hL5 : L.length ≤ 1440 := by omega
    have HL5 := Lib.hid hL5
    have HNO : Hid (∀ j u, j < k → covTo L l j = some u → covOk L l j u = false → covV W rows P l = false) := fun j u hj h1 h2 => by rw [hcov, show covTo L l k = none from optTo_no h1 h2 hj]; rfl
    have HYES : Hid (∀ u, covTo L l k = some u → covV W rows P l = (u == maskV W rows)) := fun u h => by rw [hcov, h]; rfl
    clear hpv hvr hpc hcov hLm hLl hp5 hL hL5
    go_enter Tryz.func20, Tryz.ntmps20
    go_wp2_with fail
    refine (IsRegion_s _ _ _ _ rows _ HR.out HL.out).mono ?_
    rw [HVR.out]
    rintro e w4 ⟨rfl, hb4⟩
    go_wp2_with fail
    refine (ArePieces_s B q cb hs P _ (HP.out.below hb4) hq HM.out).mono ?_
    rw [HPC.out]
    rintro e w3 ⟨rfl, hb5⟩
    have hb3 := bel_trans hb4 hb5
    have HB3 := Lib.hid (HB0.out.below hb3)
    have x0 : w3.cell? ⟨w.heap.size, 0, none⟩ = some (.int .i64 W) := by simpa using HB3.out.cell 0
    have x1 : w3.cell? ⟨w.heap.size, 1, none⟩ = some (.slice A n c) := by simpa using HB3.out.cell 1
    have xl := HB3.out.lt
    go_wp2_with fail
    refine (AllPlacements_s W A B n c q cb rows hs P _ (HR.out.below hb3) HL.out HVR.out (HP.out.below hb3) HPC.out).mono ?_
    rw [HLE.out]
    rintro e w1 ⟨gE, q2, c2, rfl, hOE, hbE⟩
    have hq2 : L.length = q2 := by have := own_len hOE; rw [vI_length] at this; omega
    have HQ2 := Lib.hid hq2
    have HRE := Lib.hid (Rd.of_own hOE)
    have hb1 := bel_trans hb3 hbE
    have hbw1 := bel_trans hbw0 hb1
    have HB1 := Lib.hid (HB0.out.below hb1)
    have HR1 := Lib.hid (HR.out.below hb1)
    have HRD1 := Lib.hid (HRD.out.below hb1)
    have hq3 : q2 ≤ 1440 := by have := HL5.out; omega
    clear hb1 hOE hq2 hbE hb3 x0 x1 xl
    go_wp2_with fail
    go_loopw [9, 8] (fun e23 e8 wr => ∃ (j u : Nat), j ≤ k ∧ e23 = .int .i64 j ∧ e8 = .int .i64 (u : Int) ∧ covTo L l j = some u ∧ u < 2 ^ 36 ∧ Below w1.heap.size w1 wr) (fun e23 _ _ => k - (intOf e23).toNat)
    case atStart => exact ⟨0, 0, Nat.zero_le _, rfl, rfl, rfl, by decide, Below.refl _ _⟩
    case round =>
      obtain ⟨j, u, hj, rfl, rfl, hso, hu, hb⟩ := hrel
      have hB := HB1.out.below hb
      have b0 : wr.cell? ⟨w.heap.size, 0, none⟩ = some (.int .i64 W) := by simpa using hB.cell 0
      have b1 : wr.cell? ⟨w.heap.size, 1, none⟩ = some (.slice A n c) := by simpa using hB.cell 1
      have hgw := hB.lt
      clear hB
      by_cases hlt : j < k
      · have hjl : j < l.length := by rw [HLL.out]; exact hlt
        have hj0 : (0 : Int) ≤ (j : Int) := by omega
        have hj1 : (j : Int) < (k : Int) := by omega
        have HRW := Lib.hid (HRD1.out.below hb)
        obtain ⟨gD, oD, hDe, hgD, d1⟩ := RdI.at_ HRW.out hjl
        have hgl : l.getD j 0 = l[j] := by rw [List.getD_eq_getElem?_getD, List.getElem?_eq_getElem hjl]; rfl
        obtain ⟨mm, hmm⟩ : ∃ mm, l[j] = mm := ⟨_, rfl⟩
        rw [hmm] at d1 hgl
        have hok : covOk L l j u = (L.any (· == mm) && (j == 0 || decide (l.getD (j - 1) 0 < mm))) := by unfold covOk; rw [hgl]
        have hnx := optTo_succ hso
        have HNO2 := Lib.hid (fun h => HNO.out j u hlt hso h)
        have hnx2 : covOk L l j u = true → covTo L l (j + 1) = some (u ||| mm.toNat) := fun h => by
          have h2 : covTo L l (j + 1) = if covOk L l j u then some (u ||| (l.getD j 0).toNat) else none := hnx
          rw [h2, h, hgl]; rfl
        have HNX := Lib.hid hnx2
        have HOK := Lib.hid hok
        clear hgl hok hnx hnx2 hmm hso
        have HCA : Hid (∀ w', Below wr.heap.size wr w' → Calls Tryz.prog 41 #[.slice (some ⟨gE, 0, none⟩) q2 c2, .int .i64 mm] w' (Ret w' (.bool (L.any (· == mm))))) := fun w' h => l7Has_s _ q2 c2 L mm w' ((HRE.out.below hb).below h) HQ2.out (by omega)
        cases hh : L.any (· == mm) with
        | false =>
          have HN := Lib.hid (HNO2.out (by rw [HOK.out, hh]; rfl))
          rw [hh] at HCA
          subst hDe
          clear hh
          go_wp2_with fail
          (refine wp_region_below (by kernel_rfl) (by kernel_rfl) ?_; (repeat (first | go_big_quiet_skip | (refine quietV (v := ?_) (by rfl) rfl (fun w' hbw => ?_) ?_; rotate_left; ((try dsimp only at hbw); have hbc := (bcell hbw).1; have hbf := (bcell hbw).2; go_simp; first | done | with_reducible rfl | (with_reducible exact callsB (v := .bool false) (HCA.out _ hbw) hbw)); simp only [List.setIfInBounds_toArray, List.set_cons_zero, List.set_cons_succ]))); refine wpQuiet_nil ?_; intro wq hbq)
          go_wp2_with fail
          go_ret
          exact ⟨by rw [HN.out]; rfl, bel_trans hbw1 (bel_trans hb hbq)⟩
        | true =>
          rw [hh] at HCA
          obtain ⟨t, rfl, ht⟩ := has_msk HLM.out hh
          have hor : bits .or .i64 (u : Int) (t : Int) = ((u ||| t : Nat) : Int) := i64_or u t (by omega) (by omega)
          have HOR := Lib.hid hor
          have HUT : Hid (u ||| t < 2 ^ 36) := Nat.or_lt_two_pow hu ht
          by_cases hz : j = 0
          · have HN := Lib.hid (HNX.out (by rw [HOK.out, hh, hz]; rfl))
            have hg0 : ¬ (j : Int) > 0 := by omega
            have hgN : ¬ 0 < j := by omega
            subst hDe
            clear hh hor hz
            go_wp2_with fail
            (refine wp_region_below (by kernel_rfl) (by kernel_rfl) ?_; (repeat (first | go_big_quiet_skip | (refine quietV (v := ?_) (by rfl) rfl (fun w' hbw => ?_) ?_; rotate_left; ((try dsimp only at hbw); have hbc := (bcell hbw).1; have hbf := (bcell hbw).2; go_simp; first | done | with_reducible rfl | (with_reducible exact callsB (v := .bool true) (HCA.out _ hbw) hbw)); simp only [List.setIfInBounds_toArray, List.set_cons_zero, List.set_cons_succ]))); refine wpQuiet_nil ?_; intro wq hbq)
            have hor := HOR.out
            have d1' := keep_below hbq d1
            have hg2 : gD < wq.heap.size := Nat.lt_of_lt_of_le hgD hbq.size
            clear d1 HCA
            go_wp2_with fail
            exact ⟨⟨j + 1, u ||| t, by omega, by go_num, rfl, by rw [HN.out, Int.toNat_natCast], HUT.out, bel_trans hb hbq⟩, by simp [intOf]; omega⟩
          · obtain ⟨i, hi⟩ : ∃ i, j = i + 1 := ⟨j - 1, by omega⟩
            have hil : i < l.length := by omega
            obtain ⟨g', o', he, hg', d2⟩ := RdI.at_ HRW.out hil
            rw [hDe] at he
            simp only [Option.some.injEq, Addr.mk.injEq, and_true] at he
            obtain ⟨rfl, rfl⟩ := he
            have hgi : l.getD (j - 1) 0 = l[i] := by rw [hi, Nat.add_sub_cancel, List.getD_eq_getElem?_getD, List.getElem?_eq_getElem hil]; rfl
            obtain ⟨pv, hpv⟩ : ∃ pv, l[i] = pv := ⟨_, rfl⟩
            rw [hpv] at d2 hgi
            have hji : (j : Int) - 1 = (i : Int) := by omega
            have hi0 : (0 : Int) ≤ (i : Int) := by omega
            have hi1 : (i : Int) < (k : Int) := by omega
            have hiw : IntKind.i64.wrap (i : Int) = (i : Int) := Go.IntWalk.i64_in _ (by omega)
            have hg0 : (j : Int) > 0 := by omega
            have hgN : 0 < j := by omega
            have hokv : covOk L l j u = decide (pv < (t : Int)) := by rw [HOK.out, hh, hgi, show (j == 0) = false from by simpa using hz]; simp
            have HOKV := Lib.hid hokv
            subst hDe
            clear hh hor hz hi hgi hpv hokv
            by_cases hlt2 : pv < (t : Int)
            · have HN := Lib.hid (HNX.out (by rw [HOKV.out]; simpa using hlt2))
              have hge : ¬ (t : Int) ≤ pv := by omega
              clear hlt2
              go_wp2_with fail
              (refine wp_region_below (by kernel_rfl) (by kernel_rfl) ?_; (repeat (first | go_big_quiet_skip | (refine quietV (v := ?_) (by rfl) rfl (fun w' hbw => ?_) ?_; rotate_left; ((try dsimp only at hbw); have hbc := (bcell hbw).1; have hbf := (bcell hbw).2; go_simp; first | done | with_reducible rfl | (with_reducible exact callsB (v := .bool true) (HCA.out _ hbw) hbw)); simp only [List.setIfInBounds_toArray, List.set_cons_zero, List.set_cons_succ]))); refine wpQuiet_nil ?_; intro wq hbq)
              have hor := HOR.out
              have d1' := keep_below hbq d1
              have hg2 : gD < wq.heap.size := Nat.lt_of_lt_of_le hgD hbq.size
              clear d1 d2 HCA
              go_wp2_with fail
              exact ⟨⟨j + 1, u ||| t, by omega, by go_num, rfl, by rw [HN.out, Int.toNat_natCast], HUT.out, bel_trans hb hbq⟩, by simp [intOf]; omega⟩
            · have HN := Lib.hid (HNO2.out (by rw [HOKV.out]; simpa using hlt2))
              have hge : (t : Int) ≤ pv := by omega
              clear hlt2
              go_wp2_with fail
              (refine wp_region_below (by kernel_rfl) (by kernel_rfl) ?_; (repeat (first | go_big_quiet_skip | (refine quietV (v := ?_) (by rfl) rfl (fun w' hbw => ?_) ?_; rotate_left; ((try dsimp only at hbw); have hbc := (bcell hbw).1; have hbf := (bcell hbw).2; go_simp; first | done | with_reducible rfl | (with_reducible exact callsB (v := .bool true) (HCA.out _ hbw) hbw)); simp only [List.setIfInBounds_toArray, List.set_cons_zero, List.set_cons_succ]))); refine wpQuiet_nil ?_; intro wq hbq)
              go_wp2_with fail
              go_ret
              exact ⟨by rw [HN.out]; rfl, bel_trans hbw1 (bel_trans hb hbq)⟩
      · obtain rfl : j = k := by omega
        have HN := Lib.hid (HYES.out u hso)
        have hj1 : ¬ (j : Int) < (j : Int) := by omega
        clear hso
        go_wp2_with fail
        refine (MaskOf_s W A n c rows _ (HR1.out.below hb) HL.out).mono ?_
        rintro e w2 ⟨rfl, hb2⟩
        go_wp2_with fail
        go_ret
        exact ⟨by rw [HN.out]; exact ret_bool (a := ((u : Int) == ((maskV W rows : Nat) : Int))) (by rw [Bool.eq_iff_iff, beq_iff_eq, beq_iff_eq]; omega), bel_trans hbw1 (bel_trans hb hb2)⟩
end Go.Proofs.YteelmhmdnljjnaaGreat
