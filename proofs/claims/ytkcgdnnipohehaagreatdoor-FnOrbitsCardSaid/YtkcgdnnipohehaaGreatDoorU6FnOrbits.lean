/- Texts of this claim, one behind the other: part 6. -/
import Derived.Test.YtkcgdnnipohehaaGreatDoorU5FnOrbits
import Derived.Outline
import Derived.WalkLawsBesides
import Derived.WalkSpells
import Derived.BigQuiet
import Derived.Deep.QuietTactic
import Derived.Deep.RegionHeld3
import Derived.Deep.RegionWith
import Derived.Deep.DeepCutAuto
import Derived.Deep.CutBlock
import Derived.Deep.DrawnRows
namespace Go.Proofs.YtkcgdnnipohehaaGreatDoor
open Go.RowKit
set_option linter.unusedVariables false
set_option maxRecDepth 100000
set_option maxHeartbeats 6400000
section
attribute [local go_sem ↓] Go.wp_at_zero Go.wp_at_succ
theorem countP_snoc {α : Type} (p : α → Bool) {l : List α} {i : Nat} (h : i < l.length) : (l.take (i + 1)).countP p = (l.take i).countP p + (if p l[i] then 1 else 0) := by
 rw [List.take_succ_eq_append_getElem h, List.countP_append]
 simp [List.countP_cons]
theorem til_msk {W : Int} {rows : List Int} {P : List (List C)} (hv : isReg W rows = true) : ∀ f ∈ l15V W rows P, f.length ≤ 36 ∧ Msk 36 f := fun f hf => by
 have h1 := List.mem_of_mem_take hf
 have h36 := maskV_62 hv
 exact ⟨til_len _ (n := 36) (by omega) h36 f h1, fun m hm => allV_msk W rows P m ((til_spec (by omega) h1).1 m hm).1⟩
theorem msk_63 {f : List Int} (h : Msk 36 f) : ∀ x ∈ f, x < 9223372036854775808 := fun x hx => by
 obtain ⟨k, rfl, hk⟩ := h x hx
 omega
theorem l23Same_s (A B : Option Addr) (n c m d : Nat) (xs ys : List Int) (w : World) (hr : Rd w A (vI xs)) (hl : xs.length = n) (hr2 : Rd w B (vI ys)) (hl2 : ys.length = m) (hn : n ≤ 1099511627776) :
  Calls Tryz.prog 86 #[.slice A n c, .slice B m d] w (Ret w (.bool (decide (xs = ys)))) := by
 by_cases hnm : n = m
 ·subst hnm
  have HR := Lib.hid hr
  have HL := Lib.hid hl
  have HR2 := Lib.hid hr2
  have HL2 := Lib.hid hl2
  have hne0 : ((n : Int) != (n : Int)) = false := by simp
  clear hr hl hr2 hl2
  go_enter Tryz.func86, Tryz.ntmps86
  go_wp2_with fail
  go_loopw [5] (fun e5 wr => ∃ k : Nat, k ≤ n ∧ e5 = .int .i64 k ∧ (∀ j, j < k → xs.getD j 0 = ys.getD j 0) ∧ Below w.heap.size w wr) (fun e5 _ => n - (intOf e5).toNat)
  case atStart => exact ⟨0, Nat.zero_le _, rfl, (fun j h => by omega), Below.refl _ _⟩
  case round =>
   obtain ⟨k, hk1, rfl, hsame, hb⟩ := hrel
   have HSM := Lib.hid hsame
   have HB := Lib.hid hb
   clear hsame hb
   by_cases h1 : k < n
   ·have hi0 : (0 : Int) ≤ (k : Int) := by omega
    have hi1 : (k : Int) < (n : Int) := by omega
    have k1 : k < xs.length := by rw [HL.out]; exact h1
    have k2 : k < ys.length := by rw [HL2.out]; exact h1
    obtain ⟨g1, o1, hA, gl1, d1⟩ := RdI.at_ (HR.out.below HB.out) k1
    obtain ⟨g2, o2, hB, gl2, d2⟩ := RdI.at_ (HR2.out.below HB.out) k2
    have e1 : xs.getD k 0 = xs[k] := by rw [List.getD_eq_getElem?_getD, List.getElem?_eq_getElem k1]; rfl
    have e2 : ys.getD k 0 = ys[k] := by rw [List.getD_eq_getElem?_getD, List.getElem?_eq_getElem k2]; rfl
    obtain ⟨x, hx⟩ : ∃ x, xs[k] = x := ⟨_, rfl⟩
    obtain ⟨y, hy⟩ : ∃ y, ys[k] = y := ⟨_, rfl⟩
    rw [hx] at d1 e1
    rw [hy] at d2 e2
    subst hA
    subst hB
    by_cases hxy : x = y
    ·have HS2 : Hid (∀ j, j < k + 1 → xs.getD j 0 = ys.getD j 0) := fun j hj => by
      by_cases hjk : j = k
      ·rw [hjk, e1, e2, hxy]
      ·exact HSM.out j (by omega)
     have hne : (x != y) = false := by simp [hxy]
     clear hx hy e1 e2 k1 k2 hxy
     go_wp2_with fail
     (refine wp_region_below (by kernel_rfl) (by kernel_rfl) ?_; (repeat (first | go_big_quiet_skip | (refine quietV (v := ?_) (by rfl) rfl (fun w' hbw => ?_) ?_; rotate_left; ((try dsimp only at hbw); have hbc := (bcell hbw).1; have hbf := (bcell hbw).2; go_simp; first | done | with_reducible rfl | fail); simp only [sq1, sq2, sq3]))); refine wpQuiet_nil ?_; intro wq hbq)
     have HBQ := Lib.hid (bel_trans HB.out hbq)
     clear hbq
     go_wp2_with fail
     exact ⟨⟨k + 1, by omega, by go_num, HS2.out, HBQ.out⟩, by simp [intOf]; omega⟩
    ·have HV : Hid (decide (xs = ys) = false) := by
      show _ = _
      rw [decide_eq_false_iff_not]
      intro e
      rw [e, e2] at e1
      exact hxy e1.symm
     have hne : (x != y) = true := by simp [hxy]
     clear hx hy e1 e2 k1 k2 hxy
     go_wp2_with fail
     (refine wp_region_below (by kernel_rfl) (by kernel_rfl) ?_; (repeat (first | go_big_quiet_skip | (refine quietV (v := ?_) (by rfl) rfl (fun w' hbw => ?_) ?_; rotate_left; ((try dsimp only at hbw); have hbc := (bcell hbw).1; have hbf := (bcell hbw).2; go_simp; first | done | with_reducible rfl | fail); simp only [sq1, sq2, sq3]))); refine wpQuiet_nil ?_; intro wq hbq)
     have HBQ := Lib.hid (bel_trans HB.out hbq)
     clear hbq
     go_wp2_with fail
     go_ret
     exact ⟨by rw [HV.out]; rfl, HBQ.out⟩
   ·have hi1 : ¬ (k : Int) < (n : Int) := by omega
    have HV : Hid (decide (xs = ys) = true) := by
     show _ = _
     rw [decide_eq_true_iff]
     apply List.ext_getElem (HL.out.trans HL2.out.symm)
     intro j j1 j2
     have h := HSM.out j (by have := HL.out; omega)
     rw [List.getD_eq_getElem?_getD, List.getElem?_eq_getElem j1, List.getD_eq_getElem?_getD, List.getElem?_eq_getElem j2] at h
     exact h
    clear h1
    go_wp2_with fail
    go_ret
    exact ⟨by rw [HV.out]; rfl, HB.out⟩
 ·have hne0 : ((n : Int) != (m : Int)) = true := by simp; omega
  have HV : Hid (decide (xs = ys) = false) := by
   show _ = _
   rw [decide_eq_false_iff_not]
   intro e
   rw [e] at hl
   omega
  clear hr hl hr2 hl2 hnm
  go_enter Tryz.func86, Tryz.ntmps86
  go_wp2_with fail
  go_ret
  exact ⟨by rw [HV.out]; rfl, Below.refl _ _⟩
theorem l15All_s (W : Int) (A B : Option Addr) (n c q cb : Nat) (rows : List Int) (hs : List H) (P : List (List C)) (w : World) (hr : Rd w A (vI rows)) (hl : rows.length = n) (hp : RdP w B q hs P) (hq : q ≤ 1048576) (hm : totC P ≤ 1048576) (hv : isReg W rows = true) (hpc : pcs P = true) :
  Calls Tryz.prog 80 #[.agg #[.int .i64 W, .slice A n c], .slice B q cb] w (RetO2 w (l15V W rows P)) := by
 have HL := Lib.hid hl
 have HR := Lib.hid (hr.alloc (.cells #[.int .i64 W, .slice A n c] 26))
 have HP := Lib.hid (hp.alloc (.cells #[.int .i64 W, .slice A n c] 26))
 have HB0 := Lib.hid (Blk.new w 26 #[.int .i64 W, .slice A n c])
 have HM := Lib.hid hm
 have hbw0 : Below w.heap.size w (w.alloc (.cells #[.int .i64 W, .slice A n c] 26)) := bel_alloc (Below.refl _ _) _
 have HBW0 := Lib.hid hbw0
 have hLm := allV_msk W rows P
 have hLl := allV_len W rows P
 have hp5 := (pcs_atS hpc).1
 have hM36 : maskV W rows < 2 ^ 36 := maskV_62 hv
 obtain ⟨L, hL⟩ : ∃ L, allV W rows P = L := ⟨_, rfl⟩
 obtain ⟨M, hMM⟩ : ∃ M, maskV W rows = M := ⟨_, rfl⟩
 have hL15 : l15V W rows P = (tilV L M).take 500 := by unfold l15V; rw [hL, hMM]
 rw [hL] at hLm hLl
 rw [hMM] at hM36
 have hL5 : L.length ≤ 1440 := by omega
 have HLE := Lib.hid hL
 have HLM := Lib.hid hLm
 have HL5 := Lib.hid hL5
 have HMM := Lib.hid hMM
 have HM36 := Lib.hid hM36
 have HL15 := Lib.hid hL15
 have HV := Lib.hid hv
 have HPC := Lib.hid hpc
 clear hl hr hp hm hbw0 hv hpc hLm hLl hp5 hL hMM hL5 hM36 hL15
 obtain ⟨W0, hW0⟩ : ∃ W0, w.alloc (.cells #[.int .i64 W, .slice A n c] 26) = W0 := ⟨_, rfl⟩
 rw [hW0] at HR HP HB0 HBW0
 have HW0 := Lib.hid hW0
 have HBX : Hid (∀ {w1 : World}, Below W0.heap.size W0 w1 → w1.cell? ⟨w.heap.size, 0, none⟩ = some (.int .i64 W) ∧ w1.cell? ⟨w.heap.size, 1, none⟩ = some (.slice A n c) ∧ w.heap.size < w1.heap.size) := fun h => by
  have hB := HB0.out.below h
  exact ⟨by simpa using hB.cell 0, by simpa using hB.cell 1, hB.lt⟩
 clear hW0
 (try clear b0 b1 bl)
 obtain ⟨b0, b1, bl⟩ := HBX.out (Below.refl _ _)
 go_enter Tryz.func80, Tryz.ntmps80
 go_wp2_with fail
 rw [HW0.out]
 refine (IsRegion_s _ _ _ _ rows _ HR.out HL.out).mono ?_
 rw [HV.out]
 rintro e w1 ⟨rfl, hb1⟩
 have HB1 := Lib.hid hb1
 clear hb1
 go_wp2_with fail
 refine (ArePieces_s B q cb hs P _ (HP.out.below HB1.out) hq HM.out).mono ?_
 rw [HPC.out]
 rintro e w2 ⟨rfl, hb2⟩
 have HB2 := Lib.hid (bel_trans HB1.out hb2)
 clear hb2
 (try clear b0 b1 bl)
 obtain ⟨b0, b1, bl⟩ := HBX.out (HB2.out)
 go_wp2_with fail
 refine wp_region_rg 7 rfl (by kernel_rfl) ?_
 (refine rgT (i := 0) (v := ?_) rfl rfl (by kernel_rfl) (by kernel_rfl) (by kernel_rfl) (by rfl) (fun w' hcw => ?_) ?_; rotate_left; ((try dsimp only at hcw); have hbc := hcw.cells; go_simp; first | done | with_reducible rfl); simp only [sq1, sq2, sq3])
 (refine rgT (i := 1) (v := ?_) rfl rfl (by kernel_rfl) (by kernel_rfl) (by kernel_rfl) (by rfl) (fun w' hcw => ?_) ?_; rotate_left; ((try dsimp only at hcw); have hbc := hcw.cells; go_simp; first | done | with_reducible rfl); simp only [sq1, sq2, sq3])
 (refine rgT (i := 3) (v := ?_) rfl rfl (by kernel_rfl) (by kernel_rfl) (by kernel_rfl) (by rfl) (fun w' hcw => ?_) ?_; rotate_left; ((try dsimp only at hcw); have hbc := hcw.cells; go_simp; first | done | with_reducible rfl); simp only [sq1, sq2, sq3])
 refine rgK_one (i := 2) (by kernel_rfl) rfl rfl (fun u1 hc1 he1 K hK => ?_)
 go_simp
 refine (AllPlacements_s W A B n c q cb rows hs P _ (HR.out.below (bel_trans HB2.out hc1)) HL.out HV.out (HP.out.below (bel_trans HB2.out hc1)) HPC.out).mono ?_
 rw [HLE.out]
 rintro e u2 ⟨gE, q3, c3, rfl, hO, hb2⟩
 have hq3 : L.length = q3 := by have := own_len hO; rw [vI_length] at this; omega
 have hc2 : Below w2.heap.size w2 u2 := bel_trans hc1 hb2
 refine hK _ _ hc2 ?_
 clear hK K
 have HQ3 := Lib.hid hq3
 have HRE := Lib.hid (Rd.of_own hO)
 have hq4 : q3 ≤ 1440 := by have := HL5.out; omega
 clear hO hq3
 refine rgK_one (i := 4) (by kernel_rfl) rfl rfl (fun u5 hc5 he5 K hK => ?_)
 go_simp
 refine (MaskOf_s W A n c rows _ (HR.out.below (bel_trans HB2.out hc5)) HL.out).mono ?_
 rw [HMM.out]
 rintro e u6 ⟨rfl, hb6⟩
 refine hK _ _ (bel_trans hc5 hb6) ?_
 clear hK K
 have he6 := bel_trans he5 hb6
 refine rgK_one (i := 5) (by kernel_rfl) rfl rfl (fun u3 hc3 he3 K hK => ?_)
 go_simp
 refine (l8Search_s L _ q3 c3 HQ3.out (by omega) HLM.out M 500 _ (HRE.out.below (bel_trans he6 he3)) HM36.out (by omega) (by omega)).mono ?_
 rw [← HL15.out]
 rintro e u4 ⟨E, u, cu, hE, rfl, hOE, hb4⟩
 have hc4 : Below w2.heap.size w2 u4 := bel_trans hc3 hb4
 refine hK _ _ hc4 ?_
 clear hK K
 (refine rgT (i := 6) (v := ?_) rfl rfl (by kernel_rfl) (by kernel_rfl) (by kernel_rfl) (by rfl) (fun w' hcw => ?_) ?_; rotate_left; ((try dsimp only at hcw); have hbc := hcw.cells; go_simp; first | done | with_reducible rfl); simp only [sq1, sq2, sq3])
 refine ⟨by kernel_rfl, fun wz hcz hez => NoPanic.normal ?_⟩
 have HOZ := Lib.hid ((hOE.below hez).mono (show w.heap.size ≤ u3.heap.size by have h1 := hc3.size; have h2 := HB2.out.size; have h3 := HBW0.out.size; omega))
 have HBZ := Lib.hid (bel_trans HBW0.out (bel_trans HB2.out hcz))
 clear hOE hcz hez
 go_wp2_with fail
 go_ret
 exact ⟨E, u, cu, hE, rfl, HOZ.out, HBZ.out⟩
theorem FixedTilings_s (W : Int) (A B : Option Addr) (n c q cb : Nat) (rows : List Int) (m : Int) (hs : List H) (P : List (List C)) (w : World) (hr : Rd w A (vI rows)) (hl : rows.length = n) (hp : RdP w B q hs P) (hq : q ≤ 1048576) (hm : totC P ≤ 1048576) (_h63 : m < 9223372036854775808) :
  Calls Tryz.prog 24 #[.agg #[.int .i64 W, .slice A n c], .slice B q cb, .int .i64 m] w (Ret w (.int .i64 (fxdV W rows P m))) := by
 have HL := Lib.hid hl
 have HR := Lib.hid (hr.alloc (.cells #[.int .i64 W, .slice A n c] 26))
 have HP := Lib.hid (hp.alloc (.cells #[.int .i64 W, .slice A n c] 26))
 have HB0 := Lib.hid (Blk.new w 26 #[.int .i64 W, .slice A n c])
 have HM := Lib.hid hm
 have hbw0 : Below w.heap.size w (w.alloc (.cells #[.int .i64 W, .slice A n c] 26)) := bel_alloc (Below.refl _ _) _
 have HBW0 := Lib.hid hbw0
 have hml := motV_len W rows
 clear hl hr hp hm hbw0 _h63
 obtain ⟨W0, hW0⟩ : ∃ W0, w.alloc (.cells #[.int .i64 W, .slice A n c] 26) = W0 := ⟨_, rfl⟩
 rw [hW0] at HR HP HB0 HBW0
 have HW0 := Lib.hid hW0
 have HBX : Hid (∀ {w1 : World}, Below W0.heap.size W0 w1 → w1.cell? ⟨w.heap.size, 0, none⟩ = some (.int .i64 W) ∧ w1.cell? ⟨w.heap.size, 1, none⟩ = some (.slice A n c) ∧ w.heap.size < w1.heap.size) := fun h => by
  have hB := HB0.out.below h
  exact ⟨by simpa using hB.cell 0, by simpa using hB.cell 1, hB.lt⟩
 clear hW0
 (try clear b0 b1 bl)
 obtain ⟨b0, b1, bl⟩ := HBX.out (Below.refl _ _)
 cases hv : isReg W rows with
 | false =>
  have HV := Lib.hid hv
  have HF : Hid (fxdV W rows P m = -1) := by show _ = _; unfold fxdV; rw [hv]; rfl
  clear hv
  go_enter Tryz.func24, Tryz.ntmps24
  go_wp2_with fail
  rw [HW0.out]
  refine (IsRegion_s _ _ _ _ rows _ HR.out HL.out).mono ?_
  rw [HV.out]
  rintro e w1 ⟨rfl, hb1⟩
  have HB1 := Lib.hid (bel_trans HBW0.out hb1)
  clear hb1
  go_wp2_with fail
  go_ret
  exact ⟨by rw [HF.out]; rfl, HB1.out⟩
 | true =>
  cases hpc : pcs P with
  | false =>
   have HV := Lib.hid hv
   have HPC := Lib.hid hpc
   have HF : Hid (fxdV W rows P m = -1) := by show _ = _; unfold fxdV; rw [hv, hpc]; rfl
   clear hv hpc
   go_enter Tryz.func24, Tryz.ntmps24
   go_wp2_with fail
   rw [HW0.out]
   refine (IsRegion_s _ _ _ _ rows _ HR.out HL.out).mono ?_
   rw [HV.out]
   rintro e w1 ⟨rfl, hb1⟩
   have HB1 := Lib.hid hb1
   clear hb1
   go_wp2_with fail
   refine (ArePieces_s B q cb hs P _ (HP.out.below HB1.out) hq HM.out).mono ?_
   rw [HPC.out]
   rintro e w2 ⟨rfl, hb2⟩
   have HB2 := Lib.hid (bel_trans HBW0.out (bel_trans HB1.out hb2))
   clear hb2
   go_wp2_with fail
   go_ret
   exact ⟨by rw [HF.out]; rfl, HB2.out⟩
  | true =>
   obtain ⟨an, han⟩ : ∃ an, (motV W rows).any (· == m) = an := ⟨_, rfl⟩
   have HAN := Lib.hid han
   have HV := Lib.hid hv
   have HPC := Lib.hid hpc
   have HF : Hid (fxdV W rows P m = if an then ((fixN W rows P m : Nat) : Int) else -1) := by show _ = _; unfold fxdV; rw [hv, hpc, han]; rfl
   clear hv hpc han
   go_enter Tryz.func24, Tryz.ntmps24
   go_wp2_with fail
   rw [HW0.out]
   refine (IsRegion_s _ _ _ _ rows _ HR.out HL.out).mono ?_
   rw [HV.out]
   rintro e w1 ⟨rfl, hb1⟩
   have HB1 := Lib.hid hb1
   clear hb1
   go_wp2_with fail
   refine (ArePieces_s B q cb hs P _ (HP.out.below HB1.out) hq HM.out).mono ?_
   rw [HPC.out]
   rintro e w2 ⟨rfl, hb2⟩
   have HB2 := Lib.hid (bel_trans HB1.out hb2)
   have HBr2 := Lib.hid hb2
   clear hb2
   (try clear b0 b1 bl)
   obtain ⟨b0, b1, bl⟩ := HBX.out (HB2.out)
   go_wp2_with fail
   refine (RegionMotions_s W A n c rows _ (HR.out.below HB2.out) HL.out).mono ?_
   rintro e w3 ⟨G, qg, cq, rfl, hoG, hb3⟩
   have HQ := Lib.hid (by have := own_len hoG; rw [vI_length] at this; omega : (motV W rows).length = qg)
   have hqg : qg ≤ 1099511627776 := by have := HQ.out; omega
   have HB3 := Lib.hid (bel_trans HB2.out hb3)
   have HRG := Lib.hid (Rd.of_own hoG)
   clear hoG hb3 hml
   go_wp2_with fail
   refine (l7Has_s G qg cq _ m _ HRG.out HQ.out hqg).mono ?_
   rw [HAN.out]
   rintro e w4 ⟨rfl, hb4⟩
   have HB4 := Lib.hid (bel_trans HB3.out hb4)
   clear hb4
   (try clear b0 b1 bl)
   obtain ⟨b0, b1, bl⟩ := HBX.out (HB4.out)
   cases an with
   | false =>
    go_wp2_with fail
    go_ret
    exact ⟨by rw [HF.out]; rfl, bel_trans HBW0.out HB4.out⟩
   | true =>
    go_wp2_with fail
    refine (l15All_s W A B n c q cb rows hs P _ (HR.out.below HB4.out) HL.out (HP.out.below HB4.out) hq HM.out HV.out HPC.out).mono ?_
    have hmsk := til_msk (P := P) HV.out
    obtain ⟨F, hF⟩ : ∃ F, l15V W rows P = F := ⟨_, rfl⟩
    have hN : fixN W rows P m = F.countP (keptB W rows m) := by unfold fixN; rw [hF]
    rw [hF] at hmsk ⊢
    have HN := Lib.hid hN
    have HMSK := Lib.hid hmsk
    have hFl : F.length ≤ 500 := by rw [← hF]; unfold l15V; rw [List.length_take]; omega
    clear hN hmsk hF
    rintro e w5 ⟨E, u, cu, hE, rfl, hOE, hb5⟩
    have hul := hOE.flen
    have HUL := Lib.hid hul
    have hu500 : u ≤ 500 := by omega
    have HRF := Lib.hid (Rd2I.of_own hOE)
    have HB5 := Lib.hid (bel_trans HB4.out hb5)
    clear hOE hb5 hul hFl b0 b1 bl
    go_wp2_with fail
    go_loopw [9, 7] (fun e9 e7 wr => ∃ (i z : Nat), i ≤ u ∧ e9 = .int .i64 i ∧ e7 = .int .i64 z ∧ z = (F.take i).countP (keptB W rows m) ∧ z ≤ i ∧ Below w5.heap.size w5 wr) (fun e9 _ _ => u - (intOf e9).toNat)
    case atStart => exact ⟨0, 0, Nat.zero_le _, rfl, rfl, by simp, Nat.le_refl _, Below.refl _ _⟩
    case round =>
     obtain ⟨i, z, hiu, rfl, rfl, hz, hzi, hb⟩ := hrel
     have HZ := Lib.hid hz
     have HB := Lib.hid hb
     clear hz hb
     (try clear b0 b1 bl)
     obtain ⟨b0, b1, bl⟩ := HBX.out (bel_trans HB5.out HB.out)
     by_cases hlt : i < u
     ·have hi0 : (0 : Int) ≤ (i : Int) := by omega
      have hi1 : (i : Int) < (u : Int) := by omega
      have hil : i < F.length := by rw [HUL.out]; exact hlt
      obtain ⟨h0, f, g, off, hfx, hEe, hge, d0, l1, r1⟩ := (HRF.out.below HB.out).at_ hlt
      obtain ⟨C1, m1, k1⟩ := h0
      dsimp only at d0 l1 r1
      have hf : F[i] = f := by rw [List.getElem?_eq_getElem hil] at hfx; exact Option.some.inj hfx
      have hcp := countP_snoc (keptB W rows m) hil
      rw [hf] at hcp
      obtain ⟨hf36, hfm⟩ := HMSK.out f (by rw [← hf]; exact List.getElem_mem hil)
      have hm36 : m1 ≤ 36 := by omega
      have HCP := Lib.hid hcp
      have HFM := Lib.hid hfm
      have HR1 := Lib.hid r1
      have HL1 := Lib.hid l1
      subst hEe
      clear hfx hil hf hcp hf36 hfm r1 l1
      go_wp2_with fail
      refine wp_region_rg 12 rfl (by kernel_rfl) ?_
      (refine rgT (i := 0) (v := ?_) rfl rfl (by kernel_rfl) (by kernel_rfl) (by kernel_rfl) (by rfl) (fun w' hcw => ?_) ?_; rotate_left; ((try dsimp only at hcw); have hbc := hcw.cells; go_simp; first | done | with_reducible rfl); simp only [sq1, sq2, sq3])
      (refine rgT (i := 1) (v := ?_) rfl rfl (by kernel_rfl) (by kernel_rfl) (by kernel_rfl) (by rfl) (fun w' hcw => ?_) ?_; rotate_left; ((try dsimp only at hcw); have hbc := hcw.cells; go_simp; first | done | with_reducible rfl); simp only [sq1, sq2, sq3])
      (refine rgT (i := 2) (v := ?_) rfl rfl (by kernel_rfl) (by kernel_rfl) (by kernel_rfl) (by rfl) (fun w' hcw => ?_) ?_; rotate_left; ((try dsimp only at hcw); have hbc := hcw.cells; go_simp; first | done | with_reducible rfl); simp only [sq1, sq2, sq3])
      (refine rgT (i := 3) (v := ?_) rfl rfl (by kernel_rfl) (by kernel_rfl) (by kernel_rfl) (by rfl) (fun w' hcw => ?_) ?_; rotate_left; ((try dsimp only at hcw); have hbc := hcw.cells; go_simp; first | done | with_reducible rfl); simp only [sq1, sq2, sq3])
      (refine rgT (i := 4) (v := ?_) rfl rfl (by kernel_rfl) (by kernel_rfl) (by kernel_rfl) (by rfl) (fun w' hcw => ?_) ?_; rotate_left; ((try dsimp only at hcw); have hbc := hcw.cells; go_simp; first | done | with_reducible rfl); simp only [sq1, sq2, sq3])
      (refine rgT (i := 5) (v := ?_) rfl rfl (by kernel_rfl) (by kernel_rfl) (by kernel_rfl) (by rfl) (fun w' hcw => ?_) ?_; rotate_left; ((try dsimp only at hcw); have hbc := hcw.cells; go_simp; first | done | with_reducible rfl); simp only [sq1, sq2, sq3])
      refine rgK_one (i := 6) (by kernel_rfl) rfl rfl (fun u1 hc1 he1 K hK => ?_)
      go_simp
      refine (TurnTiling_s W A n c C1 m1 k1 rows f m _ (HR.out.below (bel_trans (bel_trans HB5.out HB.out) hc1)) HL.out (HR1.out.below hc1) HL1.out (msk_63 HFM.out) (by omega)).mono ?_
      rintro e v1 ⟨X, qx, cx, rfl, hoX, hbX⟩
      refine hK _ _ (bel_trans hc1 hbX) ?_
      clear hK K
      (refine rgT (i := 7) (v := ?_) rfl rfl (by kernel_rfl) (by kernel_rfl) (by kernel_rfl) (by rfl) (fun w' hcw => ?_) ?_; rotate_left; ((try dsimp only at hcw); have hbc := hcw.cells; go_simp; first | done | with_reducible rfl); simp only [sq1, sq2, sq3])
      (refine rgT (i := 8) (v := ?_) rfl rfl (by kernel_rfl) (by kernel_rfl) (by kernel_rfl) (by rfl) (fun w' hcw => ?_) ?_; rotate_left; ((try dsimp only at hcw); have hbc := hcw.cells; go_simp; first | done | with_reducible rfl); simp only [sq1, sq2, sq3])
      (refine rgT (i := 9) (v := ?_) rfl rfl (by kernel_rfl) (by kernel_rfl) (by kernel_rfl) (by rfl) (fun w' hcw => ?_) ?_; rotate_left; ((try dsimp only at hcw); have hbc := hcw.cells; go_simp; first | done | with_reducible rfl); simp only [sq1, sq2, sq3])
      (refine rgT (i := 10) (v := ?_) rfl rfl (by kernel_rfl) (by kernel_rfl) (by kernel_rfl) (by rfl) (fun w' hcw => ?_) ?_; rotate_left; ((try dsimp only at hcw); have hbc := hcw.cells; go_simp; first | done | with_reducible rfl); simp only [sq1, sq2, sq3])
      (refine rgT (i := 11) (v := ?_) rfl rfl (by kernel_rfl) (by kernel_rfl) (by kernel_rfl) (by rfl) (fun w' hcw => ?_) ?_; rotate_left; ((try dsimp only at hcw); have hbc := hcw.cells; go_simp; first | done | with_reducible rfl); simp only [sq1, sq2, sq3])
      refine ⟨by kernel_rfl, fun wz hcz hez => NoPanic.normal ?_⟩
      have htl := ttV_len W rows f m
      have HTQ := Lib.hid (by have := own_len hoX; rw [vI_length] at this; omega : (ttV W rows f m).length = qx)
      have HRX := Lib.hid (Rd.of_own (own_keep hoX hez))
      have HBZ := Lib.hid (bel_trans HB.out hcz)
      have d1 := keep_below hcz d0
      have dl := World.block_lt_of_cell? _ _ d1
      have hqx : qx ≤ 1099511627776 := by have := HTQ.out; have := HL1.out; omega
      have HSM := Lib.hid (l23Same_s X C1 qx cx m1 k1 (ttV W rows f m) f wz HRX.out HTQ.out (HR1.out.below hcz) HL1.out hqx)
      clear hoX hbX hc1 he1 hcz hez htl d0 b0 b1 bl
      by_cases hk : ttV W rows f m = f
      ·have hkb : keptB W rows m f = true := by unfold keptB; exact decide_eq_true hk
       have hsm := HSM.out
       rw [decide_eq_true hk] at hsm
       have HSM := Lib.hid hsm
       have HZ2 : Hid (z + 1 = (F.take (i + 1)).countP (keptB W rows m)) := by show _ = _; rw [HCP.out, hkb, if_pos rfl, HZ.out]
       clear hk hkb hsm
       go_wp2_with fail
       refine HSM.out.mono ?_
       rintro e w7 ⟨rfl, hb7⟩
       go_wp2_with fail
       exact ⟨⟨i + 1, z + 1, by omega, by go_num, by go_num, HZ2.out, by omega, bel_trans HBZ.out hb7⟩, by simp [intOf]; omega⟩
      ·have hkb : keptB W rows m f = false := by unfold keptB; exact decide_eq_false hk
       have hsm := HSM.out
       rw [decide_eq_false hk] at hsm
       have HSM := Lib.hid hsm
       have HZ2 : Hid (z = (F.take (i + 1)).countP (keptB W rows m)) := by show _ = _; rw [HCP.out, hkb, HZ.out]; rfl
       clear hk hkb hsm
       go_wp2_with fail
       refine HSM.out.mono ?_
       rintro e w7 ⟨rfl, hb7⟩
       go_wp2_with fail
       exact ⟨⟨i + 1, z, by omega, by go_num, rfl, HZ2.out, by omega, bel_trans HBZ.out hb7⟩, by simp [intOf]; omega⟩
     ·have hi1 : ¬ (i : Int) < (u : Int) := by omega
      have HE : Hid (fxdV W rows P m = (z : Int)) := by
       show _ = _
       rw [HF.out, HN.out, HZ.out, List.take_of_length_le (by rw [HUL.out]; omega)]
       rfl
      go_wp2_with fail
      go_ret
      exact ⟨by rw [HE.out]; rfl, bel_trans HBW0.out (bel_trans HB5.out HB.out)⟩
theorem mot_63 {W : Int} {rows : List Int} {m : Int} (h : m ∈ motV W rows) : m < 9223372036854775808 := by
 obtain ⟨_, k, hk, rfl, _⟩ := motV_any (motV_mem h)
 omega
theorem CountOrbits_s (W : Int) (A B : Option Addr) (n c q cb : Nat) (rows : List Int) (hs : List H) (P : List (List C)) (w : World) (hr : Rd w A (vI rows)) (hl : rows.length = n) (hp : RdP w B q hs P) (hq : q ≤ 1048576) (hm : totC P ≤ 1048576) :
  Calls Tryz.prog 16 #[.agg #[.int .i64 W, .slice A n c], .slice B q cb] w (Ret w (.int .i64 (orbV W rows P))) := by
 have HL := Lib.hid hl
 have HR := Lib.hid (hr.alloc (.cells #[.int .i64 W, .slice A n c] 26))
 have HP := Lib.hid (hp.alloc (.cells #[.int .i64 W, .slice A n c] 26))
 have HB0 := Lib.hid (Blk.new w 26 #[.int .i64 W, .slice A n c])
 have HM := Lib.hid hm
 have hbw0 : Below w.heap.size w (w.alloc (.cells #[.int .i64 W, .slice A n c] 26)) := bel_alloc (Below.refl _ _) _
 have HBW0 := Lib.hid hbw0
 have hml := motV_len W rows
 clear hl hr hp hm hbw0
 obtain ⟨W0, hW0⟩ : ∃ W0, w.alloc (.cells #[.int .i64 W, .slice A n c] 26) = W0 := ⟨_, rfl⟩
 rw [hW0] at HR HP HB0 HBW0
 have HW0 := Lib.hid hW0
 have HBX : Hid (∀ {w1 : World}, Below W0.heap.size W0 w1 → w1.cell? ⟨w.heap.size, 0, none⟩ = some (.int .i64 W) ∧ w1.cell? ⟨w.heap.size, 1, none⟩ = some (.slice A n c) ∧ w.heap.size < w1.heap.size) := fun h => by
  have hB := HB0.out.below h
  exact ⟨by simpa using hB.cell 0, by simpa using hB.cell 1, hB.lt⟩
 clear hW0
 (try clear b0 b1 bl)
 obtain ⟨b0, b1, bl⟩ := HBX.out (Below.refl _ _)
 cases hv : isReg W rows with
 | false =>
  have HV := Lib.hid hv
  have HF : Hid (orbV W rows P = -1) := by show _ = _; unfold orbV; rw [hv]; rfl
  clear hv
  go_enter Tryz.func16, Tryz.ntmps16
  go_wp2_with fail
  rw [HW0.out]
  refine (RegionMotions_s W A n c rows _ HR.out HL.out).mono ?_
  rintro e w1 ⟨G, qg, cq, rfl, hoG, hb1⟩
  have HQ := Lib.hid (by have := own_len hoG; rw [vI_length] at this; omega : (motV W rows).length = qg)
  have HRG := Lib.hid (Rd.of_own hoG)
  have HB1 := Lib.hid hb1
  clear hoG hb1
  (try clear b0 b1 bl)
  obtain ⟨b0, b1, bl⟩ := HBX.out (HB1.out)
  go_wp2_with fail
  refine (IsRegion_s _ _ _ _ rows _ (HR.out.below HB1.out) HL.out).mono ?_
  rw [HV.out]
  rintro e w2 ⟨rfl, hb2⟩
  have HB2 := Lib.hid (bel_trans HB1.out hb2)
  clear hb2
  (try clear b0 b1 bl)
  obtain ⟨b0, b1, bl⟩ := HBX.out (HB2.out)
  go_wp2_with fail
  go_ret
  exact ⟨by rw [HF.out]; rfl, bel_trans HBW0.out HB2.out⟩
 | true =>
  cases hpc : pcs P with
  | false =>
   have HV := Lib.hid hv
   have HPC := Lib.hid hpc
   have HF : Hid (orbV W rows P = -1) := by show _ = _; unfold orbV; rw [hv, hpc]; rfl
   clear hv hpc
   go_enter Tryz.func16, Tryz.ntmps16
   go_wp2_with fail
   rw [HW0.out]
   refine (RegionMotions_s W A n c rows _ HR.out HL.out).mono ?_
   rintro e w1 ⟨G, qg, cq, rfl, hoG, hb1⟩
   have HQ := Lib.hid (by have := own_len hoG; rw [vI_length] at this; omega : (motV W rows).length = qg)
   have HRG := Lib.hid (Rd.of_own hoG)
   have HB1 := Lib.hid hb1
   clear hoG hb1
   (try clear b0 b1 bl)
   obtain ⟨b0, b1, bl⟩ := HBX.out (HB1.out)
   go_wp2_with fail
   refine (IsRegion_s _ _ _ _ rows _ (HR.out.below HB1.out) HL.out).mono ?_
   rw [HV.out]
   rintro e w2 ⟨rfl, hb2⟩
   have HB2 := Lib.hid (bel_trans HB1.out hb2)
   have HBr2 := Lib.hid hb2
   clear hb2
   (try clear b0 b1 bl)
   obtain ⟨b0, b1, bl⟩ := HBX.out (HB2.out)
   go_wp2_with fail
   refine (ArePieces_s B q cb hs P _ (HP.out.below HB2.out) hq HM.out).mono ?_
   rw [HPC.out]
   rintro e w3 ⟨rfl, hb3⟩
   have HB3 := Lib.hid (bel_trans HB2.out hb3)
   have HBr3 := Lib.hid hb3
   clear hb3
   go_wp2_with fail
   go_ret
   exact ⟨by rw [HF.out]; rfl, bel_trans HBW0.out HB3.out⟩
  | true =>
   have hmne := motV_ne hv
   have HV := Lib.hid hv
   have HPC := Lib.hid hpc
   have HNE := Lib.hid hmne
   have HF : Hid (orbV W rows P = if (l15V W rows P).length < 500 then ((sumN W rows P (motV W rows) / (motV W rows).length : Nat) : Int) else -1) := by
    show _ = _
    unfold orbV
    rw [hv, hpc]
    simp
   clear hv hpc hmne
   go_enter Tryz.func16, Tryz.ntmps16
   go_wp2_with fail
   rw [HW0.out]
   refine (RegionMotions_s W A n c rows _ HR.out HL.out).mono ?_
   rintro e w1 ⟨G, qg, cq, rfl, hoG, hb1⟩
   have HQ := Lib.hid (by have := own_len hoG; rw [vI_length] at this; omega : (motV W rows).length = qg)
   have HRG := Lib.hid (Rd.of_own hoG)
   have HB1 := Lib.hid hb1
   clear hoG hb1
   (try clear b0 b1 bl)
   obtain ⟨b0, b1, bl⟩ := HBX.out (HB1.out)
   go_wp2_with fail
   refine (IsRegion_s _ _ _ _ rows _ (HR.out.below HB1.out) HL.out).mono ?_
   rw [HV.out]
   rintro e w2 ⟨rfl, hb2⟩
   have HB2 := Lib.hid (bel_trans HB1.out hb2)
   have HBr2 := Lib.hid hb2
   clear hb2
   (try clear b0 b1 bl)
   obtain ⟨b0, b1, bl⟩ := HBX.out (HB2.out)
   go_wp2_with fail
   refine (ArePieces_s B q cb hs P _ (HP.out.below HB2.out) hq HM.out).mono ?_
   rw [HPC.out]
   rintro e w3 ⟨rfl, hb3⟩
   have HB3 := Lib.hid (bel_trans HB2.out hb3)
   have HBr3 := Lib.hid hb3
   clear hb3
   (try clear b0 b1 bl)
   obtain ⟨b0, b1, bl⟩ := HBX.out (HB3.out)
   go_wp2_with fail
   refine (l15All_s W A B n c q cb rows hs P _ (HR.out.below HB3.out) HL.out (HP.out.below HB3.out) hq HM.out HV.out HPC.out).mono ?_
   rintro e w5 ⟨E, u, cu, hE, rfl, hOE, hb5⟩
   have hul := hOE.flen
   rw [hul] at HF
   have HB5 := Lib.hid (bel_trans HB3.out hb5)
   have HBr5 := Lib.hid hb5
   clear hOE hb5 hul b0 b1 bl
   by_cases hu : u < 500
   ·have huI : ¬ (u : Int) ≥ 500 := by omega
    have hf2 := HF.out
    rw [if_pos hu] at hf2
    have HF := Lib.hid hf2
    clear hf2
    obtain ⟨Mo, hMo⟩ : ∃ Mo, motV W rows = Mo := ⟨_, rfl⟩
    have hfx : ∀ m ∈ Mo, fxdV W rows P m = ((fixN W rows P m : Nat) : Int) := fun m h => by unfold fxdV; rw [HV.out, HPC.out, motV_mem (by rw [hMo]; exact h)]; rfl
    have HMO := Lib.hid hMo
    have HFX := Lib.hid hfx
    rw [hMo] at HQ HRG HF HNE
    rw [hMo] at hml
    clear hMo hfx
    have hq8 : qg ≤ 8 := by have := HQ.out; omega
    have hq0 : 0 < qg := by
     rcases Nat.eq_zero_or_pos qg with h | h
     ·exact absurd (List.eq_nil_of_length_eq_zero (by rw [HQ.out, h])) HNE.out
     ·exact h
    go_wp2_with fail
    go_loopw [7, 6] (fun e7 e6 wr => ∃ (i z : Nat), i ≤ qg ∧ e7 = .int .i64 i ∧ e6 = .int .i64 z ∧ z = sumN W rows P (Mo.take i) ∧ z ≤ 500 * i ∧ Below w5.heap.size w5 wr) (fun e7 _ _ => qg - (intOf e7).toNat)
    case atStart => exact ⟨0, 0, Nat.zero_le _, rfl, rfl, by simp [sumN], Nat.le_refl _, Below.refl _ _⟩
    case round =>
     obtain ⟨i, z, hiu, rfl, rfl, hz, hzi, hb⟩ := hrel
     have HZ := Lib.hid hz
     have HB := Lib.hid hb
     clear hz hb
     (try clear b0 b1 bl)
     obtain ⟨b0, b1, bl⟩ := HBX.out (bel_trans HB5.out HB.out)
     by_cases hlt : i < qg
     ·have hi0 : (0 : Int) ≤ (i : Int) := by omega
      have hi1 : (i : Int) < (qg : Int) := by omega
      have hil : i < Mo.length := by rw [HQ.out]; exact hlt
      obtain ⟨gg, off, hA, hgg, d1⟩ := RdI.at_ ((HRG.out.below (bel_trans (bel_trans (bel_trans HBr2.out HBr3.out) HBr5.out) (Below.refl _ _))).below HB.out) hil
      have hst := sumN_take (W := W) (rows := rows) (P := P) hil
      obtain ⟨m, hmm⟩ : ∃ m, Mo[i] = m := ⟨_, rfl⟩
      have hfm := HFX.out m (by rw [← hmm]; exact List.getElem_mem hil)
      rw [hmm] at d1 hst
      have hfl := fixN_le W rows P m
      have h63 : m < 9223372036854775808 := by
       have h := List.getElem_mem hil
       rw [hmm, ← HMO.out] at h
       exact mot_63 h
      obtain ⟨fx, hfx⟩ : ∃ fx, fixN W rows P m = fx := ⟨_, rfl⟩
      rw [hfx] at hst hfm hfl
      have HFT : Hid (∀ w', Below wr.heap.size wr w' → Calls Tryz.prog 24 #[.agg #[.int .i64 W, .slice A n c], .slice B q cb, .int .i64 m] w' (Ret w' (.int .i64 (fx : Int)))) := fun w' hb' => by
       rw [← hfm]
       exact FixedTilings_s W A B n c q cb rows m hs P w' (HR.out.below (bel_trans (bel_trans HB5.out HB.out) hb')) HL.out (HP.out.below (bel_trans (bel_trans HB5.out HB.out) hb')) hq HM.out h63
      have HST := Lib.hid hst
      have hzx : z + fx ≤ 500 * (i + 1) := by omega
      have HWZ : Hid (IntKind.i64.wrap ((z : Int) + (fx : Int)) = ((z + fx : Nat) : Int)) := (Go.IntWalk.i64_in _ (by omega)).trans (by omega)
      subst hA
      clear hmm hil hfm h63 hfx hst
      go_wp2_with fail
      (refine wp_region_below (by kernel_rfl) (by kernel_rfl) ?_; (repeat (first | go_big_quiet_skip | (refine quietV (v := ?_) (by rfl) rfl (fun w' hbw => ?_) ?_; rotate_left; ((try dsimp only at hbw); have hbc := (bcell hbw).1; have hbf := (bcell hbw).2; go_simp; first | done | with_reducible rfl | (with_reducible exact callsB (v := .int .i64 (fx : Int)) (HFT.out _ hbw) hbw)); simp only [sq1, sq2, sq3]))); refine wpQuiet_nil ?_; intro wq hbq)
      have HBQ := Lib.hid (bel_trans HB.out hbq)
      clear hbq
      go_wp2_with fail
      exact ⟨⟨i + 1, z + fx, by omega, by go_num, by rw [HWZ.out], by rw [HST.out, HZ.out], hzx, HBQ.out⟩, by simp [intOf]; omega⟩
     ·obtain rfl : i = qg := by omega
      have hi1 : ¬ (i : Int) < (i : Int) := by omega
      have hne0 : ((i : Int) == 0) = false := by simp; omega
      have htd : (z : Int).tdiv (i : Int) = ((z / i : Nat) : Int) := by rw [Int.tdiv_eq_ediv_of_nonneg (by omega)]; simp
      have hzd : z / i ≤ z := Nat.div_le_self _ _
      obtain ⟨d, hd⟩ : ∃ d, z / i = d := ⟨_, rfl⟩
      rw [hd] at htd hzd
      have hdw : IntKind.i64.wrap (d : Int) = (d : Int) := Go.IntWalk.i64_in _ (by omega)
      have HE : Hid (orbV W rows P = (d : Int)) := by
       show _ = _
       have h := HZ.out
       rw [List.take_of_length_le (by rw [HQ.out]; exact Nat.le_refl _)] at h
       rw [HF.out, HQ.out, ← h, hd]
      clear hd
      go_wp2_with fail
      go_ret
      exact ⟨by rw [HE.out]; rfl, bel_trans HBW0.out (bel_trans HB5.out HB.out)⟩
   ·have huI : (u : Int) ≥ 500 := by omega
    have hf2 := HF.out
    rw [if_neg hu] at hf2
    have HF := Lib.hid hf2
    clear hf2
    go_wp2_with fail
    go_ret
    exact ⟨by rw [HF.out]; rfl, bel_trans HBW0.out HB5.out⟩
end

section
attribute [local go_sem ↓] Go.wp_at_zero Go.wp_at_succ
def cnI (L : List Int) (free i : Nat) : Nat := ((L.take i).flatMap (tilH L free)).length
theorem cnI_succ {L : List Int} {free i : Nat} (h : i < L.length) : cnI L free (i + 1) = cnI L free i + (tilH L free L[i]).length := by unfold cnI; rw [flat_take (tilH L free) L i h, List.length_append]
theorem cnI_le (L : List Int) (free i : Nat) (h : free ≠ 0) : cnI L free i ≤ (tilV L free).length := by
 rw [tilV_H L h, flat_split (tilH L free) L i, List.length_append]
 unfold cnI
 omega
theorem cnI_all {L : List Int} {free i : Nat} (h : free ≠ 0) (hi : L.length ≤ i) : cnI L free i = (tilV L free).length := by
 rw [tilV_H L h]
 unfold cnI
 rw [List.take_of_length_le hi]
theorem l8Count_s (L : List Int) (A : Option Addr) (qa ca : Nat) (hLq : L.length = qa) (hq5 : qa ≤ 1048576) (hM : Msk 36 L) : ∀ (free most : Nat) (w : World), Rd w A (vI L) → free < 2 ^ 36 → 1 ≤ most → most ≤ 2000 →
  Calls Tryz.prog 81 #[.slice A qa ca, .int .i64 (free : Int), .int .i64 (most : Int)] w (Ret w (.int .i64 ((min (tilV L free).length most : Nat) : Int)))
 | free, most, w, hr, hfr, hm1, hm3 => by
  by_cases h0 : free = 0
  ·have hf0 : ((free : Int) == 0) = true := by simp [h0]
   have HV2 : Hid (((min (tilV L free).length most : Nat) : Int) = 1) := by
    show _ = _
    rw [h0, tilV_zero]
    simp only [List.length_singleton]
    omega
   clear h0 hr hLq hM
   go_enter Tryz.func81, Tryz.ntmps81
   go_wp2_with fail
   go_ret
   exact ⟨by rw [HV2.out]; rfl, Below.refl _ _⟩
  ·have hf0 : ((free : Int) == 0) = false := by simp [h0]
   have IH : ∀ (free2 most2 : Nat) (w : World), free2 < free → Rd w A (vI L) → free2 < 2 ^ 36 → 1 ≤ most2 → most2 ≤ 2000 → Calls Tryz.prog 81 #[.slice A qa ca, .int .i64 (free2 : Int), .int .i64 (most2 : Int)] w (Ret w (.int .i64 ((min (tilV L free2).length most2 : Nat) : Int))) :=
    fun free2 most2 w hlt h1 h2 h3 h4 => l8Count_s L A qa ca hLq hq5 hM free2 most2 w h1 h2 h3 h4
   obtain ⟨hlb, hl64⟩ := lowN_bit h0 (by omega)
   have hlowc := fun u => l8Low_s free u h0 (by omega)
   obtain ⟨low, hlo⟩ : ∃ low, lowN free = low := ⟨_, rfl⟩
   rw [hlo] at hlowc hl64 hlb
   have hlow36 : low < 36 := by
    rcases Nat.lt_or_ge low 36 with h | h
    ·exact h
    ·rw [Nat.testBit_lt_two_pow (Nat.lt_of_lt_of_le hfr (Nat.pow_le_pow_right (by decide) h))] at hlb
     cases hlb
   have hlo0 : (0 : Int) ≤ (low : Int) := by omega
   have hlo64 : (low : Int) ≤ 64 := by omega
   have elo : IntKind.i64.wrap (low : Int) = (low : Int) := Go.IntWalk.i64_in _ (by omega)
   have HLOWC := Lib.hid @hlowc
   have HLO := Lib.hid hlo
   have HIH := Lib.hid @IH
   have HR := Lib.hid hr
   have HLQ := Lib.hid hLq
   have HM := Lib.hid hM
   have HFR := Lib.hid hfr
   have H0 := Lib.hid h0
   clear IH hlb hl64 hlowc hlo hr hLq hM hfr h0
   go_enter Tryz.func81, Tryz.ntmps81
   go_wp2_with fail
   refine (HLOWC.out _).mono ?_
   rintro e w1 ⟨rfl, hb1⟩
   go_wp2_with fail
   go_loopw [9, 7] (fun e9 e7 wr => ∃ (i k : Nat), i ≤ qa ∧ e9 = .int .i64 i ∧ e7 = .int .i64 k ∧ k = min (cnI L free i) most ∧ Below w.heap.size w wr) (fun e9 _ _ => qa - (intOf e9).toNat)
   case atStart => exact ⟨0, 0, Nat.zero_le _, rfl, rfl, by simp [cnI], hb1⟩
   case round =>
    obtain ⟨i, k, hi, rfl, rfl, hk, hb⟩ := hrel
    have HK := Lib.hid hk
    have hkm : k ≤ most := by omega
    clear hk hb1
    by_cases hlt : i < qa
    ·have hi0 : (0 : Int) ≤ (i : Int) := by omega
     have hi1 : (i : Int) < (qa : Int) := by omega
     by_cases hqlt : k < most
     ·have hq1 : (k : Int) < (most : Int) := by omega
      have hkl : i < L.length := by rw [HLQ.out]; exact hlt
      obtain ⟨g1, off1, hC1, hg1, d1⟩ := RdI.at_ (HR.out.below hb) hkl
      obtain ⟨y, hy, hy36⟩ := HM.out _ (List.getElem_mem hkl)
      rw [hy] at d1
      have hst := cnI_succ (free := free) hkl
      rw [hy] at hst
      have hkc : k = cnI L free i := by have := HK.out; omega
      rw [← hkc] at hst
      have HST := Lib.hid hst
      have hbit := bit_testP y low (by omega)
      obtain ⟨d, hd⟩ : ∃ d, y / 2 ^ low = d := ⟨_, rfl⟩
      have hdI : (y : Int) / 2 ^ low = (d : Int) := by rw [← hd]; simp
      rw [hdI] at hbit
      clear hst hkc hy hd
      cases hbt : y.testBit low with
      | false =>
       rw [hbt] at hbit
       have HN : Hid (k = min (cnI L free (i + 1)) most) := by show _ = _; rw [HST.out, tilH_no (.inl (by rw [Int.toNat_natCast, HLO.out]; exact hbt))]; simp; omega
       subst hC1
       clear hbt
       go_wp2_with fail
       (refine wp_region_below (by kernel_rfl) (by kernel_rfl) ?_; (repeat (first | go_big_quiet_skip | (refine quietV (v := ?_) (by rfl) rfl (fun w' hbw => ?_) ?_; rotate_left; ((try dsimp only at hbw); have hbc := (bcell hbw).1; have hbf := (bcell hbw).2; go_simp; first | done | with_reducible rfl | fail); simp only [sq1, sq2, sq3]))); refine wpQuiet_nil ?_; intro wz hbz)
       go_wp2_with fail
       exact ⟨⟨i + 1, k, by omega, by go_num, rfl, HN.out, bel_trans hb hbz⟩, by simp [intOf]; omega⟩
      | true =>
       rw [hbt] at hbit
       have HBT := Lib.hid hbt
       obtain ⟨z, hz⟩ : ∃ z, y &&& free = z := ⟨_, rfl⟩
       have hand : bits .and .i64 (y : Int) (free : Int) = (z : Int) := by rw [i64_and y free (by omega) (by have := HFR.out; omega), hz]
       subst hC1
       clear hbt
       cases hin : inM y free with
       | false =>
        have hzy : z ≠ y := fun e => by unfold inM at hin; rw [hz, e] at hin; simp at hin
        have hne : ((z : Int) == (y : Int)) = false := by simp; omega
        have HN : Hid (k = min (cnI L free (i + 1)) most) := by show _ = _; rw [HST.out, tilH_no (.inr (by rw [Int.toNat_natCast]; exact hin))]; simp; omega
        clear hin hzy hz
        go_wp2_with fail
        (refine wp_region_below (by kernel_rfl) (by kernel_rfl) ?_; (repeat (first | go_big_quiet_skip | (refine quietV (v := ?_) (by rfl) rfl (fun w' hbw => ?_) ?_; rotate_left; ((try dsimp only at hbw); have hbc := (bcell hbw).1; have hbf := (bcell hbw).2; go_simp; first | done | with_reducible rfl | fail); simp only [sq1, sq2, sq3]))); refine wpQuiet_nil ?_; intro wz hbz)
        go_wp2_with fail
        exact ⟨⟨i + 1, k, by omega, by go_num, rfl, HN.out, bel_trans hb hbz⟩, by simp [intOf]; omega⟩
       | true =>
        have hzy : z = y := by unfold inM at hin; rw [beq_iff_eq, hz] at hin; exact hin
        have hne : ((z : Int) == (y : Int)) = true := by simp [hzy]
        have hy1 : 1 ≤ y := bit_pos HBT.out
        have hyf : y ≤ free := inM_le hin
        obtain ⟨f2, hf2⟩ : ∃ f2, free - y = f2 := ⟨_, rfl⟩
        have hfI : (free : Int) - (y : Int) = (f2 : Int) := by omega
        have ef : IntKind.i64.wrap (f2 : Int) = (f2 : Int) := Go.IntWalk.i64_in _ (by have := HFR.out; omega)
        obtain ⟨mo2, hmo⟩ : ∃ mo2, most - k = mo2 := ⟨_, rfl⟩
        have hmI : (most : Int) - (k : Int) = (mo2 : Int) := by omega
        have em : IntKind.i64.wrap (mo2 : Int) = (mo2 : Int) := Go.IntWalk.i64_in _ (by omega)
        have hG : (tilH L free (y : Int)).length = (tilV L f2).length := by rw [tilH_yes (by rw [Int.toNat_natCast, HLO.out]; exact HBT.out) (by rw [Int.toNat_natCast]; exact hin), Int.toNat_natCast, hf2, List.length_map]
        obtain ⟨r, hR⟩ : ∃ r, min (tilV L f2).length mo2 = r := ⟨_, rfl⟩
        have hrm : r ≤ mo2 := by omega
        obtain ⟨k2, hk2⟩ : ∃ k2, k + r = k2 := ⟨_, rfl⟩
        have hkr : (k : Int) + (r : Int) = (k2 : Int) := by omega
        have ek : IntKind.i64.wrap (k2 : Int) = (k2 : Int) := Go.IntWalk.i64_in _ (by omega)
        have HN : Hid (k2 = min (cnI L free (i + 1)) most) := by show _ = _; rw [HST.out, hG]; omega
        have HRE := Lib.hid hR
        have hf36 : f2 < 2 ^ 36 := by have := HFR.out; omega
        have hff : f2 < free := by omega
        have hmo1 : 1 ≤ mo2 := by omega
        have hmo3 : mo2 ≤ 2000 := by omega
        clear hin hzy hz hG hR hf2 hmo hyf hk2 HST
        go_wp2_with fail
        (refine wp_region_below (by kernel_rfl) (by kernel_rfl) ?_; (repeat (first | go_big_quiet_skip | (refine quietV (v := ?_) (by rfl) rfl (fun w' hbw => ?_) ?_; rotate_left; ((try dsimp only at hbw); have hbc := (bcell hbw).1; have hbf := (bcell hbw).2; go_simp; first | done | with_reducible rfl | fail); simp only [sq1, sq2, sq3]))); refine wpQuiet_nil ?_; intro wz hbz)
        have hbw := bel_trans hb hbz
        have d1z := keep_below hbz d1
        have l1z : g1 < wz.heap.size := Nat.lt_of_lt_of_le hg1 hbz.size
        have HBW := Lib.hid hbw
        clear hb hbz hbw d1
        go_wp2_with fail
        refine (HIH.out f2 mo2 _ hff (HR.out.below HBW.out) hf36 hmo1 hmo3).mono ?_
        rw [HRE.out]
        rintro e w2 ⟨rfl, hb2⟩
        have HBB := Lib.hid (bel_trans HBW.out hb2)
        clear hb2 d1z l1z
        go_wp2_with fail
        exact ⟨⟨i + 1, k2, by omega, by go_num, rfl, HN.out, HBB.out⟩, by simp [intOf]; omega⟩
     ·have hq1 : ¬ (k : Int) < (most : Int) := by omega
      have HF : Hid (min (tilV L free).length most = k) := by
       show _ = _
       have h1 := cnI_le L free i H0.out
       have h2 := HK.out
       omega
      go_wp2_with fail
      go_ret
      exact ⟨by rw [HF.out]; rfl, hb⟩
    ·obtain rfl : i = qa := by omega
     have hi1 : ¬ (i : Int) < (i : Int) := by omega
     have HF : Hid (min (tilV L free).length most = k) := by
      show _ = _
      have h1 := cnI_all (L := L) (free := free) (i := i) H0.out (by rw [HLQ.out]; exact Nat.le_refl _)
      have h2 := HK.out
      omega
     go_wp2_with fail
     go_ret
     exact ⟨by rw [HF.out]; rfl, hb⟩
 termination_by free => free
theorem CountTilings_s (W : Int) (A B : Option Addr) (n c q cb : Nat) (rows : List Int) (hs : List H) (P : List (List C)) (w : World) (hr : Rd w A (vI rows)) (hl : rows.length = n) (hp : RdP w B q hs P) (hq : q ≤ 1048576) (hm : totC P ≤ 1048576) :
  Calls Tryz.prog 17 #[.agg #[.int .i64 W, .slice A n c], .slice B q cb] w (Ret w (.int .i64 (ctlV W rows P))) := by
 have HL := Lib.hid hl
 have HR := Lib.hid (hr.alloc (.cells #[.int .i64 W, .slice A n c] 26))
 have HP := Lib.hid (hp.alloc (.cells #[.int .i64 W, .slice A n c] 26))
 have HB0 := Lib.hid (Blk.new w 26 #[.int .i64 W, .slice A n c])
 have HM := Lib.hid hm
 have hbw0 : Below w.heap.size w (w.alloc (.cells #[.int .i64 W, .slice A n c] 26)) := bel_alloc (Below.refl _ _) _
 have HBW0 := Lib.hid hbw0
 clear hl hr hp hm hbw0
 obtain ⟨W0, hW0⟩ : ∃ W0, w.alloc (.cells #[.int .i64 W, .slice A n c] 26) = W0 := ⟨_, rfl⟩
 rw [hW0] at HR HP HB0 HBW0
 have HW0 := Lib.hid hW0
 have HBX : Hid (∀ {w1 : World}, Below W0.heap.size W0 w1 → w1.cell? ⟨w.heap.size, 0, none⟩ = some (.int .i64 W) ∧ w1.cell? ⟨w.heap.size, 1, none⟩ = some (.slice A n c) ∧ w.heap.size < w1.heap.size) := fun h => by
  have hB := HB0.out.below h
  exact ⟨by simpa using hB.cell 0, by simpa using hB.cell 1, hB.lt⟩
 clear hW0
 obtain ⟨b0, b1, bl⟩ := HBX.out (Below.refl _ _)
 cases hv : isReg W rows with
 | false =>
  have HF : Hid (ctlV W rows P = -1) := by show _ = _; unfold ctlV; rw [hv]; rfl
  have HV := Lib.hid hv
  clear hv
  go_enter Tryz.func17, Tryz.ntmps17
  go_wp2_with fail
  rw [HW0.out]
  refine (IsRegion_s _ _ _ _ rows _ HR.out HL.out).mono ?_
  rw [HV.out]
  rintro e w1 ⟨rfl, hb1⟩
  have HB := Lib.hid (bel_trans HBW0.out hb1)
  clear hb1
  go_wp2_with fail
  go_ret
  exact ⟨by rw [HF.out]; rfl, HB.out⟩
 | true =>
  cases hpc : pcs P with
  | false =>
   have HF : Hid (ctlV W rows P = -1) := by show _ = _; unfold ctlV; rw [hv, hpc]; rfl
   have HPC := Lib.hid hpc
   have HV := Lib.hid hv
   clear hpc hv
   go_enter Tryz.func17, Tryz.ntmps17
   go_wp2_with fail
   rw [HW0.out]
   refine (IsRegion_s _ _ _ _ rows _ HR.out HL.out).mono ?_
   rw [HV.out]
   rintro e w1 ⟨rfl, hb1⟩
   have HB2 := Lib.hid hb1
   clear hb1
   go_wp2_with fail
   refine (ArePieces_s B q cb hs P _ (HP.out.below HB2.out) hq HM.out).mono ?_
   rw [HPC.out]
   rintro e w2 ⟨rfl, hb2⟩
   have HB := Lib.hid (bel_trans (bel_trans HBW0.out HB2.out) hb2)
   clear hb2
   go_wp2_with fail
   go_ret
   exact ⟨by rw [HF.out]; rfl, HB.out⟩
  | true =>
   have hct : ctlV W rows P = ((min (tilA W rows P).length 2000 : Nat) : Int) := by unfold ctlV; rw [hv, hpc]; rfl
   have HCT := Lib.hid hct
   clear hct
   have HPC := Lib.hid hpc
   have HV := Lib.hid hv
   have hLm := allV_msk W rows P
   have hLl := allV_len W rows P
   have hp5 := (pcs_atS hpc).1
   have hM36 : maskV W rows < 2 ^ 36 := maskV_62 hv
   obtain ⟨L, hL⟩ : ∃ L, allV W rows P = L := ⟨_, rfl⟩
   obtain ⟨M, hMM⟩ : ∃ M, maskV W rows = M := ⟨_, rfl⟩
   have hA : tilA W rows P = tilV L M := by unfold tilA; rw [hL, hMM]
   rw [hL] at hLm hLl
   rw [hMM] at hM36
   have hL5 : L.length ≤ 1440 := by omega
   have HLE := Lib.hid hL
   have HLM := Lib.hid hLm
   have HL5 := Lib.hid hL5
   have HMM := Lib.hid hMM
   have HM36 := Lib.hid hM36
   have HA := Lib.hid hA
   clear hpc hv hLm hLl hp5 hL hMM hL5 hM36 hA
   go_enter Tryz.func17, Tryz.ntmps17
   go_wp2_with fail
   rw [HW0.out]
   refine (IsRegion_s _ _ _ _ rows _ HR.out HL.out).mono ?_
   rw [HV.out]
   rintro e w1 ⟨rfl, hb1⟩
   have HB2 := Lib.hid hb1
   clear hb1
   go_wp2_with fail
   refine (ArePieces_s B q cb hs P _ (HP.out.below HB2.out) hq HM.out).mono ?_
   rw [HPC.out]
   rintro e w2 ⟨rfl, hb2⟩
   have HB3 := Lib.hid (bel_trans HB2.out hb2)
   clear hb2 HB2
   (try clear b0 b1 bl)
   obtain ⟨b0, b1, bl⟩ := HBX.out HB3.out
   go_wp2_with fail
   refine wp_region_rg 7 rfl (by kernel_rfl) ?_
   (refine rgT (i := 0) (v := ?_) rfl rfl (by kernel_rfl) (by kernel_rfl) (by kernel_rfl) (by rfl) (fun w' hcw => ?_) ?_; rotate_left; ((try dsimp only at hcw); have hbc := hcw.cells; go_simp; first | done | with_reducible rfl); simp only [sq1, sq2, sq3])
   (refine rgT (i := 1) (v := ?_) rfl rfl (by kernel_rfl) (by kernel_rfl) (by kernel_rfl) (by rfl) (fun w' hcw => ?_) ?_; rotate_left; ((try dsimp only at hcw); have hbc := hcw.cells; go_simp; first | done | with_reducible rfl); simp only [sq1, sq2, sq3])
   (refine rgT (i := 3) (v := ?_) rfl rfl (by kernel_rfl) (by kernel_rfl) (by kernel_rfl) (by rfl) (fun w' hcw => ?_) ?_; rotate_left; ((try dsimp only at hcw); have hbc := hcw.cells; go_simp; first | done | with_reducible rfl); simp only [sq1, sq2, sq3])
   refine rgK_one (i := 2) (by kernel_rfl) rfl rfl (fun u1 hc1 he1 K hK => ?_)
   go_simp
   refine (AllPlacements_s W A B n c q cb rows hs P _ (HR.out.below (bel_trans HB3.out hc1)) HL.out HV.out (HP.out.below (bel_trans HB3.out hc1)) HPC.out).mono ?_
   rw [HLE.out]
   rintro e u2 ⟨gE, q3, c3, rfl, hO, hb2⟩
   have hq3 : L.length = q3 := by have := own_len hO; rw [vI_length] at this; omega
   have hc2 : Below w2.heap.size w2 u2 := bel_trans hc1 hb2
   refine hK _ _ hc2 ?_
   clear hK K
   have HQ3 := Lib.hid hq3
   have HRE := Lib.hid (Rd.of_own hO)
   have hq4 : q3 ≤ 1440 := by have := HL5.out; omega
   clear hO hq3
   refine rgK_one (i := 4) (by kernel_rfl) rfl rfl (fun u5 hc5 he5 K hK => ?_)
   go_simp
   refine (MaskOf_s W A n c rows _ (HR.out.below (bel_trans HB3.out hc5)) HL.out).mono ?_
   rw [HMM.out]
   rintro e u6 ⟨rfl, hb6⟩
   refine hK _ _ (bel_trans hc5 hb6) ?_
   clear hK K
   have he6 := bel_trans he5 hb6
   refine rgK_one (i := 5) (by kernel_rfl) rfl rfl (fun u3 hc3 he3 K hK => ?_)
   go_simp
   refine (l8Count_s L _ q3 c3 HQ3.out (by omega) HLM.out M 2000 _ (HRE.out.below (bel_trans he6 he3)) HM36.out (by omega) (by omega)).mono ?_
   rw [← HA.out, ← HCT.out]
   rintro e u4 ⟨rfl, hb4⟩
   have hc4 : Below w2.heap.size w2 u4 := bel_trans hc3 hb4
   refine hK _ _ hc4 ?_
   clear hK K
   (refine rgT (i := 6) (v := ?_) rfl rfl (by kernel_rfl) (by kernel_rfl) (by kernel_rfl) (by rfl) (fun w' hcw => ?_) ?_; rotate_left; ((try dsimp only at hcw); have hbc := hcw.cells; go_simp; first | done | with_reducible rfl); simp only [sq1, sq2, sq3])
   refine ⟨by kernel_rfl, fun wz hcz hez => NoPanic.normal ?_⟩
   have HBZ := Lib.hid (bel_trans HBW0.out (bel_trans HB3.out hcz))
   clear hcz hez
   go_wp2_with fail
   go_ret
   exact ⟨rfl, HBZ.out⟩
def RetFv (W : Int) (rows : List Int) (P : List (List C)) (w : World) (e : Ending) (w' : World) : Prop := ∃ D k cD l b, e = .returned (.tuple #[.slice D k cD, .bool b]) ∧ Rd w' D (vI l) ∧ l.length = k ∧ k ≤ 36 ∧ (∀ x ∈ l, x < 9223372036854775808) ∧ Below w.heap.size w w' ∧ (∀ b, ob D = some b → w.heap.size ≤ b) ∧ (l = [] ∨ isReg W rows = true ∧ l ∈ tilA W rows P)
theorem FindTiling_v (W : Int) (A B : Option Addr) (n c q cb : Nat) (rows : List Int) (hs : List H) (P : List (List C)) (w : World) (hr : Rd w A (vI rows)) (hl : rows.length = n) (hp : RdP w B q hs P) (hq : q ≤ 1048576) (hm : totC P ≤ 1048576) :
  Calls Tryz.prog 57 #[.agg #[.int .i64 W, .slice A n c], .slice B q cb] w (RetFv W rows P w) := by
 have HL := Lib.hid hl
 have HR := Lib.hid (hr.alloc (.cells #[.int .i64 W, .slice A n c] 26))
 have HP := Lib.hid (hp.alloc (.cells #[.int .i64 W, .slice A n c] 26))
 have HB0 := Lib.hid (Blk.new w 26 #[.int .i64 W, .slice A n c])
 have HM := Lib.hid hm
 have hbw0 : Below w.heap.size w (w.alloc (.cells #[.int .i64 W, .slice A n c] 26)) := bel_alloc (Below.refl _ _) _
 have HBW0 := Lib.hid hbw0
 clear hl hr hp hm hbw0
 obtain ⟨W0, hW0⟩ : ∃ W0, w.alloc (.cells #[.int .i64 W, .slice A n c] 26) = W0 := ⟨_, rfl⟩
 rw [hW0] at HR HP HB0 HBW0
 have HW0 := Lib.hid hW0
 have HBX : Hid (∀ {w1 : World}, Below W0.heap.size W0 w1 → w1.cell? ⟨w.heap.size, 0, none⟩ = some (.int .i64 W) ∧ w1.cell? ⟨w.heap.size, 1, none⟩ = some (.slice A n c) ∧ w.heap.size < w1.heap.size) := fun h => by
  have hB := HB0.out.below h
  exact ⟨by simpa using hB.cell 0, by simpa using hB.cell 1, hB.lt⟩
 clear hW0
 obtain ⟨b0, b1, bl⟩ := HBX.out (Below.refl _ _)
 have hnil : ∀ u : World, Below w.heap.size w u → RetFv W rows P w (.returned (.tuple #[.slice (some ⟨u.heap.size, 0, none⟩) 0 0, .bool false])) (u.alloc (.cells #[] 3)) := fun u hb => ⟨_, 0, 0, [], false, rfl, .inl rfl, rfl, by omega, fun _ hx => (List.not_mem_nil hx).elim, bel_alloc hb _, fun b e => by simp only [ob, Option.map_some, Option.some.injEq] at e; have := hb.size; omega, .inl rfl⟩
 have HNIL := Lib.hid hnil
 clear hnil
 cases hv : isReg W rows with
 | false =>
  have HV := Lib.hid hv
  clear hv
  go_enter Tryz.func57, Tryz.ntmps57
  go_wp2_with fail
  rw [HW0.out]
  refine (IsRegion_s _ _ _ _ rows _ HR.out HL.out).mono ?_
  rw [HV.out]
  rintro e w1 ⟨rfl, hb1⟩
  have HB := Lib.hid (bel_trans HBW0.out hb1)
  clear hb1
  go_wp2_with fail
  go_ret2
  exact HNIL.out _ HB.out
 | true =>
  cases hpc : pcs P with
  | false =>
   have HPC := Lib.hid hpc
   have HV := Lib.hid hv
   clear hpc hv
   go_enter Tryz.func57, Tryz.ntmps57
   go_wp2_with fail
   rw [HW0.out]
   refine (IsRegion_s _ _ _ _ rows _ HR.out HL.out).mono ?_
   rw [HV.out]
   rintro e w1 ⟨rfl, hb1⟩
   have HB2 := Lib.hid hb1
   clear hb1
   go_wp2_with fail
   refine (ArePieces_s B q cb hs P _ (HP.out.below HB2.out) hq HM.out).mono ?_
   rw [HPC.out]
   rintro e w2 ⟨rfl, hb2⟩
   have HB := Lib.hid (bel_trans (bel_trans HBW0.out HB2.out) hb2)
   clear hb2
   go_wp2_with fail
   go_ret2
   exact HNIL.out _ HB.out
  | true =>
   have HPC := Lib.hid hpc
   have HV := Lib.hid hv
   have hLm := allV_msk W rows P
   have hLl := allV_len W rows P
   have hp5 := (pcs_atS hpc).1
   have hM36 : maskV W rows < 2 ^ 36 := maskV_62 hv
   obtain ⟨L, hL⟩ : ∃ L, allV W rows P = L := ⟨_, rfl⟩
   obtain ⟨M, hMM⟩ : ∃ M, maskV W rows = M := ⟨_, rfl⟩
   have hA : tilA W rows P = tilV L M := by unfold tilA; rw [hL, hMM]
   rw [hL] at hLm hLl
   rw [hMM] at hM36
   have hL5 : L.length ≤ 1440 := by omega
   have HLE := Lib.hid hL
   have HLM := Lib.hid hLm
   have HL5 := Lib.hid hL5
   have HMM := Lib.hid hMM
   have HM36 := Lib.hid hM36
   have HA := Lib.hid hA
   clear hpc hv hLm hLl hp5 hL hMM hL5 hM36 hA
   go_enter Tryz.func57, Tryz.ntmps57
   go_wp2_with fail
   rw [HW0.out]
   refine (IsRegion_s _ _ _ _ rows _ HR.out HL.out).mono ?_
   rw [HV.out]
   rintro e w1 ⟨rfl, hb1⟩
   have HB2 := Lib.hid hb1
   clear hb1
   go_wp2_with fail
   refine (ArePieces_s B q cb hs P _ (HP.out.below HB2.out) hq HM.out).mono ?_
   rw [HPC.out]
   rintro e w2 ⟨rfl, hb2⟩
   have HB3 := Lib.hid (bel_trans HB2.out hb2)
   clear hb2 HB2
   (try clear b0 b1 bl)
   obtain ⟨b0, b1, bl⟩ := HBX.out HB3.out
   go_wp2_with fail
   refine wp_region_rg 7 rfl (by kernel_rfl) ?_
   (refine rgT (i := 0) (v := ?_) rfl rfl (by kernel_rfl) (by kernel_rfl) (by kernel_rfl) (by rfl) (fun w' hcw => ?_) ?_; rotate_left; ((try dsimp only at hcw); have hbc := hcw.cells; go_simp; first | done | with_reducible rfl); simp only [sq1, sq2, sq3])
   (refine rgT (i := 1) (v := ?_) rfl rfl (by kernel_rfl) (by kernel_rfl) (by kernel_rfl) (by rfl) (fun w' hcw => ?_) ?_; rotate_left; ((try dsimp only at hcw); have hbc := hcw.cells; go_simp; first | done | with_reducible rfl); simp only [sq1, sq2, sq3])
   (refine rgT (i := 3) (v := ?_) rfl rfl (by kernel_rfl) (by kernel_rfl) (by kernel_rfl) (by rfl) (fun w' hcw => ?_) ?_; rotate_left; ((try dsimp only at hcw); have hbc := hcw.cells; go_simp; first | done | with_reducible rfl); simp only [sq1, sq2, sq3])
   refine rgK_one (i := 2) (by kernel_rfl) rfl rfl (fun u1 hc1 he1 K hK => ?_)
   go_simp
   refine (AllPlacements_s W A B n c q cb rows hs P _ (HR.out.below (bel_trans HB3.out hc1)) HL.out HV.out (HP.out.below (bel_trans HB3.out hc1)) HPC.out).mono ?_
   rw [HLE.out]
   rintro e u2 ⟨gE, q3, c3, rfl, hO, hb2⟩
   have hq3 : L.length = q3 := by have := own_len hO; rw [vI_length] at this; omega
   have hc2 : Below w2.heap.size w2 u2 := bel_trans hc1 hb2
   refine hK _ _ hc2 ?_
   clear hK K
   have HQ3 := Lib.hid hq3
   have HRE := Lib.hid (Rd.of_own hO)
   have hq4 : q3 ≤ 1440 := by have := HL5.out; omega
   clear hO hq3
   refine rgK_one (i := 4) (by kernel_rfl) rfl rfl (fun u5 hc5 he5 K hK => ?_)
   go_simp
   refine (MaskOf_s W A n c rows _ (HR.out.below (bel_trans HB3.out hc5)) HL.out).mono ?_
   rw [HMM.out]
   rintro e u6 ⟨rfl, hb6⟩
   refine hK _ _ (bel_trans hc5 hb6) ?_
   clear hK K
   have he6 := bel_trans he5 hb6
   refine rgK_one (i := 5) (by kernel_rfl) rfl rfl (fun u3 hc3 he3 K hK => ?_)
   go_simp
   refine (l8Search_s L _ q3 c3 HQ3.out (by omega) HLM.out M 1 _ (HRE.out.below (bel_trans he6 he3)) HM36.out (by omega) (by omega)).mono ?_
   rw [← HA.out]
   obtain ⟨R, hR⟩ : ∃ R, (tilA W rows P).take 1 = R := ⟨_, rfl⟩
   rw [hR]
   rintro e u4 ⟨E, u, cu, hE, rfl, hOE, hb4⟩
   have hc4 : Below w2.heap.size w2 u4 := bel_trans hc3 hb4
   refine hK _ _ hc4 ?_
   clear hK K
   (refine rgT (i := 6) (v := ?_) rfl rfl (by kernel_rfl) (by kernel_rfl) (by kernel_rfl) (by rfl) (fun w' hcw => ?_) ?_; rotate_left; ((try dsimp only at hcw); have hbc := hcw.cells; go_simp; first | done | with_reducible rfl); simp only [sq1, sq2, sq3])
   refine ⟨by kernel_rfl, fun wz hcz hez => NoPanic.normal ?_⟩
   have hOZ := hOE.below hez
   have hbz := bel_trans HBW0.out (bel_trans HB3.out hcz)
   have hul := hOE.flen
   have hlow : ∀ x ∈ hE, ∀ b, ob x.1 = some b → w.heap.size ≤ b := fun x hx b e => by
    obtain ⟨j, hj, rfl⟩ := List.mem_iff_getElem.1 hx
    have h1 := (own_lt (hOE.row j hj (hOE.len ▸ hj)) b e).1
    have h2 := hc3.size
    have h3 := HB3.out.size
    have h4 := HBW0.out.size
    omega
   have HLOW := Lib.hid hlow
   have HOZ := Lib.hid hOZ
   have HBZ := Lib.hid hbz
   have HUL := Lib.hid hul
   have HRD := Lib.hid hR
   clear hlow hOZ hbz hul hOE hR hc1 he1 hb2 hc2 hc5 he5 hb6 he6 hc3 he3 hb4 hc4 hcz hez b0 b1 bl
   by_cases hu0 : u = 0
   ·have hu1 : ((u : Int) == 0) = true := by simp [hu0]
    clear hu0
    go_wp2_with fail
    go_ret2
    exact HNIL.out _ HBZ.out
   ·have hu1 : ((u : Int) == 0) = false := by simp [hu0]
    have hup : 0 < u := by omega
    have hupI : (0 : Int) < (u : Int) := by omega
    obtain ⟨x, f, g, off, hxm, hfx, hEe, hge, d0, l1, r1⟩ := (Rd2I.of_own HOZ.out).at_m hup
    have HLX := Lib.hid (HLOW.out x hxm)
    have hft : f ∈ tilA W rows P := List.mem_of_mem_take (by rw [HRD.out]; exact List.mem_of_getElem? hfx)
    have HFT := Lib.hid hft
    obtain ⟨hf1, hf2⟩ := til_len36 hft HV.out
    obtain ⟨C1, m1, k1⟩ := x
    dsimp only at d0 l1 r1
    rw [Nat.add_zero] at d0
    have HR1 := Lib.hid r1
    have HL1 := Lib.hid l1
    have HF2 := Lib.hid hf2
    have hm36 : m1 ≤ 36 := by omega
    subst hEe
    clear hxm hfx hu0 l1 r1 hf2 hf1 hft
    go_wp2_with fail
    go_ret2
    exact ⟨C1, m1, k1, f, true, rfl, HR1.out, HL1.out, hm36, HF2.out, HBZ.out, HLX.out, .inr ⟨HV.out, HFT.out⟩⟩
def RetTn (w : World) (t : List Int) (e : Ending) (w' : World) : Prop := ∃ D k cD, e = .returned (.tuple #[.slice D k cD, .bool true]) ∧ Rd w' D (vI t) ∧ t.length = k ∧ Below w.heap.size w w' ∧ ∀ b, ob D = some b → w.heap.size ≤ b
theorem TilingNumber_s (W : Int) (A B : Option Addr) (n c q cb : Nat) (rows : List Int) (hs : List H) (P : List (List C)) (w : World) (hr : Rd w A (vI rows)) (hl : rows.length = n) (hp : RdP w B q hs P) (hq : q ≤ 1048576) (hm : totC P ≤ 1048576) (i : Nat) (t : List Int) (hi : i ≤ 199) (ht : (tilA W rows P)[i]? = some t) (hv : isReg W rows = true) (hpc : pcs P = true) :
  Calls Tryz.prog 18 #[.agg #[.int .i64 W, .slice A n c], .slice B q cb, .int .i64 (i : Int)] w (RetTn w t) := by
 have HL := Lib.hid hl
 have HR := Lib.hid (hr.alloc (.cells #[.int .i64 W, .slice A n c] 26))
 have HP := Lib.hid (hp.alloc (.cells #[.int .i64 W, .slice A n c] 26))
 have HB0 := Lib.hid (Blk.new w 26 #[.int .i64 W, .slice A n c])
 have HM := Lib.hid hm
 have hbw0 : Below w.heap.size w (w.alloc (.cells #[.int .i64 W, .slice A n c] 26)) := bel_alloc (Below.refl _ _) _
 have HBW0 := Lib.hid hbw0
 clear hl hr hp hm hbw0
 obtain ⟨W0, hW0⟩ : ∃ W0, w.alloc (.cells #[.int .i64 W, .slice A n c] 26) = W0 := ⟨_, rfl⟩
 rw [hW0] at HR HP HB0 HBW0
 have HW0 := Lib.hid hW0
 have HBX : Hid (∀ {w1 : World}, Below W0.heap.size W0 w1 → w1.cell? ⟨w.heap.size, 0, none⟩ = some (.int .i64 W) ∧ w1.cell? ⟨w.heap.size, 1, none⟩ = some (.slice A n c) ∧ w.heap.size < w1.heap.size) := fun h => by
  have hB := HB0.out.below h
  exact ⟨by simpa using hB.cell 0, by simpa using hB.cell 1, hB.lt⟩
 clear hW0
 obtain ⟨b0, b1, bl⟩ := HBX.out (Below.refl _ _)
 have HT := Lib.hid ht
 have i1 := fun u => l1In_t (i : Int) 0 199 u (by omega) (by omega)
 have I1 := Lib.hid i1
 have hi1 : (i : Int) + 1 = ((i + 1 : Nat) : Int) := by omega
 obtain ⟨i2, hi2⟩ : ∃ i2, i + 1 = i2 := ⟨_, rfl⟩
 rw [hi2] at hi1
 have ei2 : IntKind.i64.wrap (i2 : Int) = (i2 : Int) := Go.IntWalk.i64_in _ (by omega)
 have hi21 : 1 ≤ i2 := by omega
 have hi22 : i2 ≤ 1000 := by omega
 have HI2 := Lib.hid hi2
 clear i1 ht hi2
 have HPC := Lib.hid hpc
 have HV := Lib.hid hv
 have hLm := allV_msk W rows P
 have hLl := allV_len W rows P
 have hp5 := (pcs_atS hpc).1
 have hM36 : maskV W rows < 2 ^ 36 := maskV_62 hv
 obtain ⟨L, hL⟩ : ∃ L, allV W rows P = L := ⟨_, rfl⟩
 obtain ⟨M, hMM⟩ : ∃ M, maskV W rows = M := ⟨_, rfl⟩
 have hA : tilA W rows P = tilV L M := by unfold tilA; rw [hL, hMM]
 rw [hL] at hLm hLl
 rw [hMM] at hM36
 have hL5 : L.length ≤ 1440 := by omega
 have HLE := Lib.hid hL
 have HLM := Lib.hid hLm
 have HL5 := Lib.hid hL5
 have HMM := Lib.hid hMM
 have HM36 := Lib.hid hM36
 have HA := Lib.hid hA
 clear hpc hv hLm hLl hp5 hL hMM hL5 hM36 hA
 go_enter Tryz.func18, Tryz.ntmps18
 go_wp2_with fail
 rw [HW0.out]
 refine (IsRegion_s _ _ _ _ rows _ HR.out HL.out).mono ?_
 rw [HV.out]
 rintro e w1 ⟨rfl, hb1⟩
 have HB2 := Lib.hid hb1
 clear hb1
 go_wp2_with fail
 refine (ArePieces_s B q cb hs P _ (HP.out.below HB2.out) hq HM.out).mono ?_
 rw [HPC.out]
 rintro e w2 ⟨rfl, hb2⟩
 have HB3 := Lib.hid (bel_trans HB2.out hb2)
 clear hb2 HB2
 go_wp2_with fail
 refine (I1.out _).mono ?_
 rintro e w3 ⟨rfl, hb3⟩
 have HB4 := Lib.hid (bel_trans HB3.out hb3)
 clear hb3 HB3
 have HB3 := HB4
 clear HB4
 (try clear b0 b1 bl)
 obtain ⟨b0, b1, bl⟩ := HBX.out HB3.out
 go_wp2_with fail
 refine wp_region_rg 9 rfl (by kernel_rfl) ?_
 (refine rgT (i := 0) (v := ?_) rfl rfl (by kernel_rfl) (by kernel_rfl) (by kernel_rfl) (by rfl) (fun w' hcw => ?_) ?_; rotate_left; ((try dsimp only at hcw); have hbc := hcw.cells; go_simp; first | done | with_reducible rfl); simp only [sq1, sq2, sq3])
 (refine rgT (i := 1) (v := ?_) rfl rfl (by kernel_rfl) (by kernel_rfl) (by kernel_rfl) (by rfl) (fun w' hcw => ?_) ?_; rotate_left; ((try dsimp only at hcw); have hbc := hcw.cells; go_simp; first | done | with_reducible rfl); simp only [sq1, sq2, sq3])
 (refine rgT (i := 3) (v := ?_) rfl rfl (by kernel_rfl) (by kernel_rfl) (by kernel_rfl) (by rfl) (fun w' hcw => ?_) ?_; rotate_left; ((try dsimp only at hcw); have hbc := hcw.cells; go_simp; first | done | with_reducible rfl); simp only [sq1, sq2, sq3])
 (refine rgT (i := 5) (v := ?_) rfl rfl (by kernel_rfl) (by kernel_rfl) (by kernel_rfl) (by rfl) (fun w' hcw => ?_) ?_; rotate_left; ((try dsimp only at hcw); have hbc := hcw.cells; go_simp; first | done | with_reducible rfl); simp only [sq1, sq2, sq3])
 (refine rgT (i := 6) (v := ?_) rfl rfl (by kernel_rfl) (by kernel_rfl) (by kernel_rfl) (by rfl) (fun w' hcw => ?_) ?_; rotate_left; ((try dsimp only at hcw); have hbc := hcw.cells; go_simp; first | done | with_reducible rfl); simp only [sq1, sq2, sq3])
 refine rgK_one (i := 2) (by kernel_rfl) rfl rfl (fun u1 hc1 he1 K hK => ?_)
 go_simp
 refine (AllPlacements_s W A B n c q cb rows hs P _ (HR.out.below (bel_trans HB3.out hc1)) HL.out HV.out (HP.out.below (bel_trans HB3.out hc1)) HPC.out).mono ?_
 rw [HLE.out]
 rintro e u2 ⟨gE, q3, c3, rfl, hO, hb2⟩
 have hq3 : L.length = q3 := by have := own_len hO; rw [vI_length] at this; omega
 have hc2 : Below w3.heap.size w3 u2 := bel_trans hc1 hb2
 refine hK _ _ hc2 ?_
 clear hK K
 have HQ3 := Lib.hid hq3
 have HRE := Lib.hid (Rd.of_own hO)
 have hq4 : q3 ≤ 1440 := by have := HL5.out; omega
 clear hO hq3
 refine rgK_one (i := 4) (by kernel_rfl) rfl rfl (fun u5 hc5 he5 K hK => ?_)
 go_simp
 refine (MaskOf_s W A n c rows _ (HR.out.below (bel_trans HB3.out hc5)) HL.out).mono ?_
 rw [HMM.out]
 rintro e u6 ⟨rfl, hb6⟩
 refine hK _ _ (bel_trans hc5 hb6) ?_
 clear hK K
 have he6 := bel_trans he5 hb6
 refine rgK_one (i := 7) (by kernel_rfl) rfl rfl (fun u3 hc3 he3 K hK => ?_)
 go_simp
 refine (l8Search_s L _ q3 c3 HQ3.out (by omega) HLM.out M i2 _ (HRE.out.below (bel_trans he6 he3)) HM36.out hi21 hi22).mono ?_
 rw [← HA.out]
 obtain ⟨R, hR⟩ : ∃ R, (tilA W rows P).take i2 = R := ⟨_, rfl⟩
 rw [hR]
 rintro e u4 ⟨E, u, cu, hE, rfl, hOE, hb4⟩
 have hc4 : Below w3.heap.size w3 u4 := bel_trans hc3 hb4
 refine hK _ _ hc4 ?_
 clear hK K
 (refine rgT (i := 8) (v := ?_) rfl rfl (by kernel_rfl) (by kernel_rfl) (by kernel_rfl) (by rfl) (fun w' hcw => ?_) ?_; rotate_left; ((try dsimp only at hcw); have hbc := hcw.cells; go_simp; first | done | with_reducible rfl); simp only [sq1, sq2, sq3])
 refine ⟨by kernel_rfl, fun wz hcz hez => NoPanic.normal ?_⟩
 have hOZ := hOE.below hez
 have hbz := bel_trans HBW0.out (bel_trans HB3.out hcz)
 have hul := hOE.flen
 have hlow : ∀ x ∈ hE, ∀ b, ob x.1 = some b → w.heap.size ≤ b := fun x hx b e => by
  obtain ⟨j, hj, rfl⟩ := List.mem_iff_getElem.1 hx
  have h1 := (own_lt (hOE.row j hj (hOE.len ▸ hj)) b e).1
  have h2 := hc3.size
  have h3 := HB3.out.size
  have h4 := HBW0.out.size
  omega
 have HLOW := Lib.hid hlow
 have HOZ := Lib.hid hOZ
 have HBZ := Lib.hid hbz
 have HUL := Lib.hid hul
 have HRD := Lib.hid hR
 clear hlow hOZ hbz hul hOE hR hc1 he1 hb2 hc2 hc5 he5 hb6 he6 hc3 he3 hb4 hc4 hcz hez b0 b1 bl
 have hiR : R[i]? = some t := by rw [← HRD.out, List.getElem?_take_of_lt (by have := HI2.out; omega)]; exact HT.out
 have hiu : i < u := by rw [← HUL.out]; exact (List.getElem?_eq_some_iff.1 hiR).1
 have hle : ¬ (u : Int) ≤ (i : Int) := by omega
 have hi0 : (0 : Int) ≤ (i : Int) := by omega
 have hiI : (i : Int) < (u : Int) := by omega
 obtain ⟨x, f, g, off, hxm, hfx, hEe, hge, d0, l1, r1⟩ := (Rd2I.of_own HOZ.out).at_m hiu
 have HLX := Lib.hid (HLOW.out x hxm)
 have hft : f = t := Option.some.inj (hfx.symm.trans hiR)
 subst hft
 obtain ⟨C1, m1, k1⟩ := x
 dsimp only at d0 l1 r1
 have HR1 := Lib.hid r1
 have HL1 := Lib.hid l1
 subst hEe
 clear hxm hfx l1 r1 hiR
 go_wp2_with fail
 go_ret2
 exact ⟨C1, m1, k1, rfl, HR1.out, HL1.out, HBZ.out, HLX.out⟩
end

section
attribute [local go_sem ↓] Go.wp_at_zero Go.wp_at_succ
end

section
attribute [local go_sem ↓] Go.wp_at_zero Go.wp_at_succ
theorem tls_or {W : Int} {rows l : List Int} {P : List (List C)} (h : l = [] ∨ isReg W rows = true ∧ l ∈ tilA W rows P) (hv : isReg W rows = true) : Tls W rows l := by
 rcases h with h | h
 ·rw [h]
  exact tls_nil W rows
 ·exact (tls_of hv h.2).1
def RetSm (w : World) (g : Nat) (A : Option Addr) (n c : Nat) (bs : List UInt8) (e : Ending) (w' : World) : Prop :=
 ∃ (W : Int) (k : Nat) (D : Option Addr) (cD : Nat) (rows : List Int), e = .returned (.agg #[.int .i64 W, .slice D k cD]) ∧ w'.ownsRow (w.heap.size + 1) 3 1 (.slice D k cD) k (vI rows) ∧ k ≤ 6 ∧ isReg W rows = true ∧ Cur w' g A n c bs ∧ w.grownBy w' (some g)
def RetPr (w : World) (e : Ending) (w' : World) : Prop :=
 ∃ (W : Int) (k : Nat) (D : Option Addr) (cD : Nat) (rows : List Int) (mo : Int), e = .returned (.tuple #[.agg #[.int .i64 W, .slice D k cD], .int .i64 mo]) ∧ Rd w' D (vI rows) ∧ rows.length = k ∧ k ≤ 6 ∧ isReg W rows = true ∧ (∀ b, ob D = some b → w.heap.size < b) ∧ mo < 9223372036854775808 ∧ Below w.heap.size w w'
def RetFx (w : World) (e : Ending) (w' : World) : Prop :=
 ∃ (W : Int) (k : Nat) (D : Option Addr) (cD : Nat) (rows : List Int) (B : Option Addr) (q cB : Nat) (hs : List H) (P : List (List C)) (mo : Int), e = .returned (.tuple #[.agg #[.int .i64 W, .slice D k cD], .slice B q cB, .int .i64 mo]) ∧ Rd w' D (vI rows) ∧ rows.length = k ∧ k ≤ 6 ∧ PcF (w.heap.size + 1) w' B q cB hs P ∧ q ≤ 5 ∧ mo < 9223372036854775808 ∧ Below w.heap.size w w'
def RetTt (w : World) (e : Ending) (w' : World) : Prop :=
 ∃ (W : Int) (k : Nat) (D : Option Addr) (cD : Nat) (rows : List Int) (E : Option Addr) (kE cE : Nat) (l : List Int) (mo : Int), e = .returned (.tuple #[.agg #[.int .i64 W, .slice D k cD], .slice E kE cE, .int .i64 mo]) ∧ Rd w' D (vI rows) ∧ rows.length = k ∧ k ≤ 6 ∧ Rd w' E (vI l) ∧ l.length = kE ∧ kE ≤ 36 ∧ (∀ x ∈ l, x < 9223372036854775808) ∧ (isReg W rows = true → Tls W rows l) ∧ mo < 9223372036854775808 ∧ Below w.heap.size w w'
def RetTm (w : World) (e : Ending) (w' : World) : Prop :=
 ∃ (W : Int) (k : Nat) (D : Option Addr) (cD : Nat) (rows : List Int) (x mo : Int), e = .returned (.tuple #[.agg #[.int .i64 W, .slice D k cD], .int .i64 x, .int .i64 mo]) ∧ Rd w' D (vI rows) ∧ rows.length = k ∧ k ≤ 6 ∧ x < 9223372036854775808 ∧ mo < 9223372036854775808 ∧ Below w.heap.size w w'
theorem l23Small_s (A : Option Addr) (n c g : Nat) (bs : List UInt8) (w : World) (hc : Cur w g A n c bs) (hn : n ≤ 1048576) :
  Calls Tryz.prog 116 #[.pointer (some ⟨g, 0, none⟩)] w (RetSm w g A n c bs) := by
 have hgl : g < w.heap.size := by obtain ⟨i, x, hi, hB⟩ := hc.blk; exact hB.lt
 have hAb : 0 < n → ∀ b, ob A = some b → b < w.heap.size := fun h0 b e => by
  obtain ⟨gb, off, hA, hgb, _⟩ := RdB.at_ hc.rd (show 0 < bs.length by rw [hc.len]; exact h0)
  subst hA
  simp only [ob, Option.map_some, Option.some.injEq] at e
  omega
 have HAB : Hid (0 < n → ∀ b, ob A = some b → w.heap.size ≤ b → False) := fun h0 b e h => by have := hAb h0 b e; omega
 clear hAb
 have hBZ := Blk.new w 26 #[.int .i64 0, .slice none 0 0]
 have hF0 := (FrG.refl w.heap.size g w).below (bel_alloc (Below.refl _ _) (.cells #[.int .i64 0, .slice none 0 0] 26)) (Nat.le_refl _)
 have hC0 := hc.below (bel_alloc (Below.refl _ _) (.cells #[.int .i64 0, .slice none 0 0] 26))
 obtain ⟨w1, hw1⟩ : ∃ w1, w.alloc (.cells #[.int .i64 0, .slice none 0 0] 26) = w1 := ⟨_, rfl⟩
 have hsz1 : w1.heap.size = w.heap.size + 1 := by rw [← hw1]; simp
 rw [hw1] at hBZ hF0 hC0
 have HW1 := Lib.hid hw1
 have HSZ1 := Lib.hid hsz1
 have HBZ := Lib.hid hBZ
 have HF0 := Lib.hid hF0
 have HC0 := Lib.hid hC0
 clear hBZ hF0 hC0 hw1 hsz1 hc
 go_enter Tryz.func116, Tryz.ntmps116
 go_wp2_with fail
 rw [HW1.out]
 clear HW1
 go_wp2_with fail
 refine (l6Draw_v A n c g 4 bs w1 HC0.out hn (by omega) (by omega)).mono ?_
 rintro e w3 ⟨m, k, D, cD, rows, rfl, hO, hm1, hm6, hk1, hk6, hc3, hg3, hok, _⟩
 have hrl : rows.length = k := by have h1 := own_len hO; rw [vI_length] at h1; omega
 have hv := okR_reg hok hm1 hm6 (by omega) (by omega)
 obtain ⟨W, hW⟩ : ∃ W : Int, (m : Int) = W := ⟨_, rfl⟩
 rw [hW] at hv ⊢
 have HV := Lib.hid hv
 clear hW hok hrl hv
 have hs1 := HSZ1.out
 have hs2 : w.heap.size + 1 ≤ w3.heap.size := by have := hg3.size; omega
 have HO3 := Lib.hid (own_base hO (show w.heap.size + 1 ≤ w1.heap.size + 1 by omega))
 have HC3 := Lib.hid hc3
 have HF3 := Lib.hid (HF0.out.draw hg3 (by omega))
 have HZ3 := Lib.hid (HBZ.out.grown hg3 (fun e => by injection e with e; omega))
 have z0 : w3.cell? ⟨w.heap.size, 0, none⟩ = some (.int .i64 0) := by simpa using HZ3.out.cell 0
 have z1 : w3.cell? ⟨w.heap.size, 1, none⟩ = some (.slice none 0 0) := by simpa using HZ3.out.cell 1
 have g0 := HZ3.out.frozen 0
 have g1 := HZ3.out.frozen 1
 have zl := HZ3.out.lt
 clear hO hc3 hg3 HC0 HF0 HBZ hs1
 have hD := (HZ3.out.set_ 0 (.int .i64 W)).set_ 1 (.slice D k cD)
 have e0 : ((w3.setCell ⟨w.heap.size, 0, none⟩ (.int .i64 W)).setCell ⟨w.heap.size, 1, none⟩ (.slice D k cD)).cell? ⟨w.heap.size, 0, none⟩ = some (.int .i64 W) := by simpa using hD.cell 0
 have e1 : ((w3.setCell ⟨w.heap.size, 0, none⟩ (.int .i64 W)).setCell ⟨w.heap.size, 1, none⟩ (.slice D k cD)).cell? ⟨w.heap.size, 1, none⟩ = some (.slice D k cD) := by simpa using hD.cell 1
 have E0 := Lib.hid e0
 have E1 := Lib.hid e1
 clear hD e0 e1
 go_wp2_with fail
 have e0 := E0.out
 have e1 := E1.out
 have ne : ∀ b, ob D = some b → b ≠ w.heap.size := fun b e => by have := (own_lt HO3.out b e).1; omega
 have gz : w3.grownBy ((w3.setCell ⟨w.heap.size, 0, none⟩ (.int .i64 W)).setCell ⟨w.heap.size, 1, none⟩ (.slice D k cD)) (some w.heap.size) := grown_set (p := ⟨w.heap.size, 1, none⟩) (grown_set (p := ⟨w.heap.size, 0, none⟩) (World.grownBy.refl _ _) rfl _) rfl _
 exact bodyPost_ret (v := .agg #[.int .i64 W, .slice D k cD]) (by simp [results, Tryz.results116, go_sem, e0, e1]) rfl
  ⟨W, k, D, cD, rows, rfl, own_set (own_set HO3.out ne _) ne _, hk6, HV.out, HC3.out.row gz (fun b e => by injection e with e; omega) (fun h0 b e r => HAB.out h0 b r (by injection e with e; omega)), (HF3.out.row gz (by omega) (fun b e => by injection e with e; omega)).grown⟩
theorem l23Pair_s (A : Option Addr) (n c : Nat) (bs : List UInt8) (w : World) (hr : Rd w A (vB bs)) (hl : bs.length = n) (hn : n ≤ 1048576) :
  Calls Tryz.prog 56 #[.slice A n c] w (RetPr w) := by
 have hBZ := Blk.new w 26 #[.int .i64 0, .slice none 0 0]
 have hb0 := bel_alloc (Below.refl w.heap.size w) (.cells #[.int .i64 0, .slice none 0 0] 26)
 have hr0 := hr.below hb0
 obtain ⟨w1, hw1⟩ : ∃ w1, w.alloc (.cells #[.int .i64 0, .slice none 0 0] 26) = w1 := ⟨_, rfl⟩
 have hsz1 : w1.heap.size = w.heap.size + 1 := by rw [← hw1]; simp
 rw [hw1] at hBZ hb0 hr0
 have HW1 := Lib.hid hw1
 have HSZ1 := Lib.hid hsz1
 have HBZ := Lib.hid hBZ
 have HB0 := Lib.hid hb0
 have HR0 := Lib.hid hr0
 have HL := Lib.hid hl
 clear hBZ hb0 hw1 hsz1 hr hr0 hl
 go_enter Tryz.func56, Tryz.ntmps56
 go_wp2_with fail
 rw [HW1.out]
 clear HW1
 go_wp2_with fail
 refine (l1New_s A n c bs w1 HR0.out HL.out hn).mono ?_
 rintro e w2 ⟨g, rfl, hc, hg, hb2⟩
 have HC := Lib.hid hc
 have HB2 := Lib.hid (bel_trans HB0.out hb2)
 have HZ2 := Lib.hid (HBZ.out.below hb2)
 have HR2 := Lib.hid (HR0.out.below hb2)
 have hgl : g < w2.heap.size := by obtain ⟨i, x, hi, hB⟩ := hc.blk; exact hB.lt
 have hgz : w.heap.size < g := by have := HSZ1.out; omega
 have hs2 := HB2.out.size
 clear hc hb2 HR0 HBZ HB0 hg HSZ1
 go_wp2_with fail
 refine (l23Small_s A n c g bs w2 HC.out hn).mono ?_
 rintro e w3 ⟨W, k, D, cD, rows, rfl, hO, hk6, hv, hc3, hg3⟩
 have HRL := Lib.hid (by have h1 := own_len hO; rw [vI_length] at h1; omega : rows.length = k)
 have HV := Lib.hid hv
 have hs3 := hg3.size
 have ba := bel_alloc (Below.refl w3.heap.size w3) (.cells #[.int .i64 W, .slice D k cD] 26)
 have HN4 := Lib.hid (Blk.new w3 26 #[.int .i64 W, .slice D k cD])
 have HO4 := Lib.hid (own_keep hO ba)
 have HB4 := Lib.hid (bel_trans (bel_grown HB2.out hg3 (fun b e => by injection e with e; omega)) ba)
 have HC4 := Lib.hid (hc3.below ba)
 have HZ4 := Lib.hid ((HZ2.out.grown hg3 (fun e => by injection e with e; omega)).below ba)
 obtain ⟨w4, hw4⟩ : ∃ w4, w3.alloc (.cells #[.int .i64 W, .slice D k cD] 26) = w4 := ⟨_, rfl⟩
 have hs4 : w4.heap.size = w3.heap.size + 1 := by rw [← hw4]; simp
 rw [hw4] at HN4 HO4 HB4 HC4 HZ4
 have HW4 := Lib.hid hw4
 have HS4 := Lib.hid hs4
 clear ba hw4 hs4
 clear hO hv hc3 hg3 HC HZ2 HB2 HR2
 go_upto_region 3 with fail
 rw [HW4.out]
 clear HW4
 have c0 : w4.cell? ⟨w3.heap.size, 0, none⟩ = some (.int .i64 W) := by simpa using HN4.out.cell 0
 have c1 : w4.cell? ⟨w3.heap.size, 1, none⟩ = some (.slice D k cD) := by simpa using HN4.out.cell 1
 have cl := HN4.out.lt
 obtain ⟨gr, hgr⟩ : ∃ gr, w3.heap.size = gr := ⟨_, rfl⟩
 rw [hgr] at HN4 c0 c1 cl hs3 HS4 ⊢
 clear hgr
 have hne1 : gr ≠ w.heap.size := by omega
 have hg4 : g < w4.heap.size := by have := HS4.out; omega
 go_wp2_with fail
 refine (RegionMotions_s W D k cD rows w4 (Rd.of_own HO4.out) HRL.out).mono ?_
 have hmne := List.length_pos_iff.2 (motV_ne HV.out)
 have hm8 := motV_len W rows
 have hm63 : ∀ x ∈ motV W rows, x < 9223372036854775808 := fun x hx => mot_63 hx
 obtain ⟨ms, hms⟩ : ∃ ms, motV W rows = ms := ⟨_, rfl⟩
 rw [hms] at hmne hm8 hm63 ⊢
 clear hms
 rintro e w5 ⟨E, p, cE, rfl, hOE, hb5⟩
 have hpl : ms.length = p := by have h := own_len hOE; rw [vI_length] at h; omega
 have hp1 : 1 ≤ p := by omega
 have hp8 : p ≤ 256 := by omega
 have hE : ∀ b, ob E = some b → w4.heap.size ≤ b := fun b e => (own_lt hOE b e).1
 have HE := Lib.hid hE
 have HPL := Lib.hid hpl
 have HM63 := Lib.hid hm63
 have HOE := Lib.hid hOE
 have HN5 := Lib.hid (HN4.out.below hb5)
 have HZ5 := Lib.hid (HZ4.out.below hb5)
 have HO5 := Lib.hid (own_keep HO4.out hb5)
 have HC5 := Lib.hid (HC4.out.below hb5)
 have HB5 := Lib.hid (bel_trans HB4.out hb5)
 have hs5 := hb5.size
 clear hmne hm8 hm63 hpl hE hOE hb5 c0 c1 cl HN4 HZ4 HO4 HC4 HB4
 go_wp2_with fail
 refine (l1Once_s A n c g 4 bs w5 HC5.out hn (by omega) (by omega)).mono ?_
 rintro e w6 ⟨o, rfl, hc6, hg6⟩
 have HN6 := Lib.hid (HN5.out.grown hg6 (fun e => by injection e with e; omega))
 have HZ6 := Lib.hid (HZ5.out.grown hg6 (fun e => by injection e with e; omega))
 have HO6 := Lib.hid (own_keptD HO5.out hg6 (fun b e r => by injection r with r; have := (own_lt HO5.out b e).1; omega))
 have HOE6 := Lib.hid (own_keptD HOE.out hg6 (fun b e r => by injection r with r; have := (own_lt HOE.out b e).1; omega))
 have HC6 := Lib.hid hc6
 have HB6 := Lib.hid (bel_grown HB5.out hg6 (fun b e => by injection e with e; omega))
 have hs6 := hg6.size
 have c0 : w6.cell? ⟨gr, 0, none⟩ = some (.int .i64 W) := by simpa using HN6.out.cell 0
 have c1 : w6.cell? ⟨gr, 1, none⟩ = some (.slice D k cD) := by simpa using HN6.out.cell 1
 have cl := HN6.out.lt
 clear hc6 hg6 HN5 HZ5 HO5 HC5 HB5 HOE
 cases o with
 | true =>
  go_wp2_with fail
  go_region_with (go_at_call 87; refine (l1Below_s A n c g 10 bs _ (HC6.out.below (bel_drew (Below.refl _ _))) hn (by omega) (by omega)).mono ?_; rintro e w10 ⟨r, rfl, hr10, hc10, hg10⟩; have HG10 := Lib.hid (bel_rowO (w := w6) (bel_drew (Below.refl _ _)) hg10); clear hc10 hg10; have HO10 := Lib.hid (own_keptD HO6.out HG10.out (fun b e r => by injection r with r; have := (own_lt HO6.out b e).1; omega)); have hs10 := HG10.out.size; have HN10 := Lib.hid (HN6.out.grown HG10.out (fun e => by injection e with e; omega)); have HZ10 := Lib.hid (HZ6.out.grown HG10.out (fun e => by injection e with e; omega)); have y0 : w10.cell? ⟨gr, 0, none⟩ = some (.int .i64 W) := (by simpa using HN10.out.cell 0); have y1 : w10.cell? ⟨gr, 1, none⟩ = some (.slice D k cD) := (by simpa using HN10.out.cell 1); have yl := HN10.out.lt; have x0 := HZ10.out.cell 0; have x1 := HZ10.out.cell 1; have f0 := HZ10.out.frozen 0; have f1 := HZ10.out.frozen 1; have xl := HZ10.out.lt)
  all_goals
   have hro : IntKind.i64.wrap ((r : Int) - 1) = (r : Int) - 1 := Go.IntWalk.i64_in _ (by omega)
   have ne : ∀ b, ob D = some b → b ≠ w.heap.size := fun b e => by have := (own_lt HO10.out b e).1; omega
   have NE := Lib.hid ne
   clear ne
   have gz : w10.grownBy ((w10.setCell ⟨w.heap.size, 0, none⟩ (.int .i64 W)).setCell ⟨w.heap.size, 1, none⟩ (.slice D k cD)) (some w.heap.size) := grown_set (p := ⟨w.heap.size, 1, none⟩) (grown_set (p := ⟨w.heap.size, 0, none⟩) (World.grownBy.refl _ _) rfl _) rfl _
   have GZ := Lib.hid gz
   have hZf := (HZ10.out.set_ 0 (.int .i64 W)).set_ 1 (.slice D k cD)
   have e0 : ((w10.setCell ⟨w.heap.size, 0, none⟩ (.int .i64 W)).setCell ⟨w.heap.size, 1, none⟩ (.slice D k cD)).cell? ⟨w.heap.size, 0, none⟩ = some (.int .i64 W) := by simpa using hZf.cell 0
   have e1 : ((w10.setCell ⟨w.heap.size, 0, none⟩ (.int .i64 W)).setCell ⟨w.heap.size, 1, none⟩ (.slice D k cD)).cell? ⟨w.heap.size, 1, none⟩ = some (.slice D k cD) := by simpa using hZf.cell 1
   have E0 := Lib.hid e0
   have E1 := Lib.hid e1
   clear hZf e0 e1 gz
   go_wp2_with fail
   have e0 := E0.out
   have e1 := E1.out
   exact bodyPost_ret (v := .tuple #[.agg #[.int .i64 W, .slice D k cD], .int .i64 (IntKind.i64.wrap ((r : Int) - 1))]) (by simp [results, Tryz.results56, go_sem, e0, e1]) rfl
    ⟨W, k, D, cD, rows, IntKind.i64.wrap ((r : Int) - 1), rfl, Rd.of_own (own_set (own_set HO10.out NE.out _) NE.out _), HRL.out, hk6, HV.out, fun b e => by have := (own_lt HO10.out b e).1; omega, by rw [hro]; omega, bel_grown (bel_grown HB6.out HG10.out (fun b e => by injection e with e; omega)) GZ.out (fun b e => by injection e with e; omega)⟩
 | false =>
  go_wp2_with fail
  go_region_with (go_at_call 87; refine (l1Below_s A n c g p bs _ (HC6.out.below (bel_drew (Below.refl _ _))) hn hp1 hp8).mono ?_; rintro e w10 ⟨r, rfl, hr10, hc10, hg10⟩; have HG10 := Lib.hid (bel_rowO (w := w6) (bel_drew (Below.refl _ _)) hg10); clear hc10 hg10; have HO10 := Lib.hid (own_keptD HO6.out HG10.out (fun b e r => by injection r with r; have := (own_lt HO6.out b e).1; omega)); have hs10 := HG10.out.size; have HN10 := Lib.hid (HN6.out.grown HG10.out (fun e => by injection e with e; omega)); have HZ10 := Lib.hid (HZ6.out.grown HG10.out (fun e => by injection e with e; omega)); have y0 : w10.cell? ⟨gr, 0, none⟩ = some (.int .i64 W) := (by simpa using HN10.out.cell 0); have y1 : w10.cell? ⟨gr, 1, none⟩ = some (.slice D k cD) := (by simpa using HN10.out.cell 1); have yl := HN10.out.lt; have x0 := HZ10.out.cell 0; have x1 := HZ10.out.cell 1; have f0 := HZ10.out.frozen 0; have f1 := HZ10.out.frozen 1; have xl := HZ10.out.lt; have hrl : r < ms.length := (by rw [HPL.out]; exact hr10); have hr0 : (0 : Int) ≤ (r : Int) := (by omega); have hr1 : (r : Int) < (p : Int) := (by omega); have HRE := Lib.hid ((Rd.of_own HOE6.out).grown HG10.out (fun b e q => by injection q with q; have := HE.out b e; omega)); obtain ⟨gE, oE, hEe, hgE, d1⟩ := RdI.at_ HRE.out hrl; subst hEe; obtain ⟨mo, hmo⟩ : ∃ mo, ms[r] = mo := ⟨_, rfl⟩; have hmo63 := HM63.out _ (List.getElem_mem hrl); rw [hmo] at d1 hmo63; have HMO := Lib.hid hmo; clear hmo; have hgE1 : gE ≠ w.heap.size := (by have h1 := HE.out gE rfl; have h2 := HS4.out; omega); have hgE2 : w.heap.size ≠ gE := (fun e => hgE1 e.symm))
  all_goals
   have ne : ∀ b, ob D = some b → b ≠ w.heap.size := fun b e => by have := (own_lt HO10.out b e).1; omega
   have NE := Lib.hid ne
   clear ne
   have gz : w10.grownBy ((w10.setCell ⟨w.heap.size, 0, none⟩ (.int .i64 W)).setCell ⟨w.heap.size, 1, none⟩ (.slice D k cD)) (some w.heap.size) := grown_set (p := ⟨w.heap.size, 1, none⟩) (grown_set (p := ⟨w.heap.size, 0, none⟩) (World.grownBy.refl _ _) rfl _) rfl _
   have GZ := Lib.hid gz
   have hZf := (HZ10.out.set_ 0 (.int .i64 W)).set_ 1 (.slice D k cD)
   have e0 : ((w10.setCell ⟨w.heap.size, 0, none⟩ (.int .i64 W)).setCell ⟨w.heap.size, 1, none⟩ (.slice D k cD)).cell? ⟨w.heap.size, 0, none⟩ = some (.int .i64 W) := by simpa using hZf.cell 0
   have e1 : ((w10.setCell ⟨w.heap.size, 0, none⟩ (.int .i64 W)).setCell ⟨w.heap.size, 1, none⟩ (.slice D k cD)).cell? ⟨w.heap.size, 1, none⟩ = some (.slice D k cD) := by simpa using hZf.cell 1
   have E0 := Lib.hid e0
   have E1 := Lib.hid e1
   clear hZf e0 e1 gz
   go_wp2_with fail
   have e0 := E0.out
   have e1 := E1.out
   exact bodyPost_ret (v := .tuple #[.agg #[.int .i64 W, .slice D k cD], .int .i64 mo]) (by simp [results, Tryz.results56, go_sem, e0, e1]) rfl
    ⟨W, k, D, cD, rows, mo, rfl, Rd.of_own (own_set (own_set HO10.out NE.out _) NE.out _), HRL.out, hk6, HV.out, fun b e => by have := (own_lt HO10.out b e).1; omega, hmo63, bel_grown (bel_grown HB6.out HG10.out (fun b e => by injection e with e; omega)) GZ.out (fun b e => by injection e with e; omega)⟩
theorem DrawFixedTilings_s (A : Option Addr) (n c : Nat) (bs : List UInt8) (w : World) (hr : Rd w A (vB bs)) (hl : bs.length = n) (hn : n ≤ 1048576) :
  Calls Tryz.prog 19 #[.slice A n c] w (RetFx w) := by
 have hBZ := Blk.new w 26 #[.int .i64 0, .slice none 0 0]
 have hb0 := bel_alloc (Below.refl w.heap.size w) (.cells #[.int .i64 0, .slice none 0 0] 26)
 have hr0 := hr.below hb0
 obtain ⟨w1, hw1⟩ : ∃ w1, w.alloc (.cells #[.int .i64 0, .slice none 0 0] 26) = w1 := ⟨_, rfl⟩
 have hsz1 : w1.heap.size = w.heap.size + 1 := by rw [← hw1]; simp
 rw [hw1] at hBZ hb0 hr0
 have HW1 := Lib.hid hw1
 have HSZ1 := Lib.hid hsz1
 have HBZ := Lib.hid hBZ
 have HB0 := Lib.hid hb0
 have HR0 := Lib.hid hr0
 have HL := Lib.hid hl
 clear hBZ hb0 hw1 hsz1 hr hr0 hl
 go_enter Tryz.func19, Tryz.ntmps19
 go_wp2_with fail
 rw [HW1.out]
 clear HW1
 go_wp2_with fail
 refine (l1New_s A n c bs w1 HR0.out HL.out hn).mono ?_
 rintro e w2 ⟨g, rfl, hc, hg, hb2⟩
 have HC := Lib.hid hc
 have HB2 := Lib.hid (bel_trans HB0.out hb2)
 have HZ2 := Lib.hid (HBZ.out.below hb2)
 have HR2 := Lib.hid (HR0.out.below hb2)
 have hgl : g < w2.heap.size := by obtain ⟨i, x, hi, hB⟩ := hc.blk; exact hB.lt
 have hgz : w.heap.size < g := by have := HSZ1.out; omega
 have hs2 := HB2.out.size
 clear hc hb2 HR0 HBZ HB0 hg HSZ1
 go_wp2_with fail
 refine (l23Pair_s A n c bs w2 HR2.out HL.out hn).mono ?_
 rintro e w3 ⟨W, k, D, cD, rows, mo, rfl, hr3, hl3, hk6, hv, hD3, hmo, hb3⟩
 have HRL := Lib.hid hl3
 have HV := Lib.hid hv
 have hs3 := hb3.size
 have HD := Lib.hid (fun b e => by have := hD3 b e; omega : ∀ b, ob D = some b → w2.heap.size ≤ b)
 have ba := bel_alloc (Below.refl w3.heap.size w3) (.cells #[.int .i64 W, .slice D k cD] 26)
 have HN4 := Lib.hid (Blk.new w3 26 #[.int .i64 W, .slice D k cD])
 have HO4 := Lib.hid (hr3.below ba)
 have HB4 := Lib.hid (bel_trans (bel_trans HB2.out hb3) ba)
 have HC4 := Lib.hid ((HC.out.below hb3).below ba)
 have HZ4 := Lib.hid ((HZ2.out.below hb3).below ba)
 obtain ⟨w4, hw4⟩ : ∃ w4, w3.alloc (.cells #[.int .i64 W, .slice D k cD] 26) = w4 := ⟨_, rfl⟩
 have hs4 : w4.heap.size = w3.heap.size + 1 := by rw [← hw4]; simp
 rw [hw4] at HN4 HO4 HB4 HC4 HZ4
 have HW4 := Lib.hid hw4
 have HS4 := Lib.hid hs4
 clear ba hw4 hs4
 clear hr3 hl3 hv hD3 hb3 HC HZ2 HB2 HR2
 go_upto_region 3 with fail
 rw [HW4.out]
 clear HW4
 have c0 : w4.cell? ⟨w3.heap.size, 0, none⟩ = some (.int .i64 W) := by simpa using HN4.out.cell 0
 have c1 : w4.cell? ⟨w3.heap.size, 1, none⟩ = some (.slice D k cD) := by simpa using HN4.out.cell 1
 have cl := HN4.out.lt
 obtain ⟨gr, hgr⟩ : ∃ gr, w3.heap.size = gr := ⟨_, rfl⟩
 rw [hgr] at HN4 c0 c1 cl hs3 HS4 ⊢
 clear hgr
 have hne1 : gr ≠ w.heap.size := by omega
 have hg4 : g < w4.heap.size := by have := HS4.out; omega
 go_region_with (go_at_call 58; refine (l7Pieces_s A n c g bs _ (HC4.out.below (bel_drew (Below.refl _ _))) hn).mono ?_; rintro e w10 ⟨B, q, cB, hs, P, rfl, hP10, hq10, hc10, hg10⟩; have HG10 := Lib.hid (bel_rowO (w := w4) (bel_drew (Below.refl _ _)) hg10); have HP10 := Lib.hid hP10; have HO10 := Lib.hid (HO4.out.grown HG10.out (fun b e r => by injection r with r; have := HD.out b e; omega)); have hs10 := HG10.out.size; clear hP10 hc10 hg10; have HN10 := Lib.hid (HN4.out.grown HG10.out (fun e => by injection e with e; omega)); have HZ10 := Lib.hid (HZ4.out.grown HG10.out (fun e => by injection e with e; omega)); have y0 : w10.cell? ⟨gr, 0, none⟩ = some (.int .i64 W) := (by simpa using HN10.out.cell 0); have y1 : w10.cell? ⟨gr, 1, none⟩ = some (.slice D k cD) := (by simpa using HN10.out.cell 1); have yl := HN10.out.lt; have x0 := HZ10.out.cell 0; have x1 := HZ10.out.cell 1; have f0 := HZ10.out.frozen 0; have f1 := HZ10.out.frozen 1; have xl := HZ10.out.lt)
 all_goals
  have gz : w10.grownBy ((w10.setCell ⟨w.heap.size, 0, none⟩ (.int .i64 W)).setCell ⟨w.heap.size, 1, none⟩ (.slice D k cD)) (some w.heap.size) := grown_set (p := ⟨w.heap.size, 1, none⟩) (grown_set (p := ⟨w.heap.size, 0, none⟩) (World.grownBy.refl _ _) rfl _) rfl _
  have GZ := Lib.hid gz
  have hZf := (HZ10.out.set_ 0 (.int .i64 W)).set_ 1 (.slice D k cD)
  have e0 : ((w10.setCell ⟨w.heap.size, 0, none⟩ (.int .i64 W)).setCell ⟨w.heap.size, 1, none⟩ (.slice D k cD)).cell? ⟨w.heap.size, 0, none⟩ = some (.int .i64 W) := by simpa using hZf.cell 0
  have e1 : ((w10.setCell ⟨w.heap.size, 0, none⟩ (.int .i64 W)).setCell ⟨w.heap.size, 1, none⟩ (.slice D k cD)).cell? ⟨w.heap.size, 1, none⟩ = some (.slice D k cD) := by simpa using hZf.cell 1
  have E0 := Lib.hid e0
  have E1 := Lib.hid e1
  clear hZf e0 e1 gz
  go_wp2_with fail
  have e0 := E0.out
  have e1 := E1.out
  exact bodyPost_ret (v := .tuple #[.agg #[.int .i64 W, .slice D k cD], .slice B q cB, .int .i64 mo]) (by simp [results, Tryz.results19, go_sem, e0, e1]) rfl
   ⟨W, k, D, cD, rows, B, q, cB, hs, P, mo, rfl, HO10.out.grown GZ.out (fun b e r => by injection r with r; have := HD.out b e; omega), HRL.out, hk6, (HP10.out.draw GZ.out (by have h : w4.drew.heap.size = w4.heap.size := rfl; omega)).baseO (by have h : w4.drew.heap.size = w4.heap.size := rfl; omega), hq10, hmo, bel_grown (bel_grown HB4.out HG10.out (fun b e => by injection e with e; omega)) GZ.out (fun b e => by injection e with e; omega)⟩
theorem DrawTurnTiling_s (A : Option Addr) (n c : Nat) (bs : List UInt8) (w : World) (hr : Rd w A (vB bs)) (hl : bs.length = n) (hn : n ≤ 1048576) :
  Calls Tryz.prog 6 #[.slice A n c] w (RetTt w) := by
 have hBZ := Blk.new w 26 #[.int .i64 0, .slice none 0 0]
 have hb0 := bel_alloc (Below.refl w.heap.size w) (.cells #[.int .i64 0, .slice none 0 0] 26)
 have hr0 := hr.below hb0
 obtain ⟨w1, hw1⟩ : ∃ w1, w.alloc (.cells #[.int .i64 0, .slice none 0 0] 26) = w1 := ⟨_, rfl⟩
 have hsz1 : w1.heap.size = w.heap.size + 1 := by rw [← hw1]; simp
 rw [hw1] at hBZ hb0 hr0
 have HW1 := Lib.hid hw1
 have HSZ1 := Lib.hid hsz1
 have HBZ := Lib.hid hBZ
 have HB0 := Lib.hid hb0
 have HR0 := Lib.hid hr0
 have HL := Lib.hid hl
 clear hBZ hb0 hw1 hsz1 hr hr0 hl
 go_enter Tryz.func6, Tryz.ntmps6
 go_wp2_with fail
 rw [HW1.out]
 clear HW1
 go_wp2_with fail
 refine (l1New_s A n c bs w1 HR0.out HL.out hn).mono ?_
 rintro e w2 ⟨g, rfl, hc, hg, hb2⟩
 have HC := Lib.hid hc
 have HB2 := Lib.hid (bel_trans HB0.out hb2)
 have HZ2 := Lib.hid (HBZ.out.below hb2)
 have HR2 := Lib.hid (HR0.out.below hb2)
 have hgl : g < w2.heap.size := by obtain ⟨i, x, hi, hB⟩ := hc.blk; exact hB.lt
 have hgz : w.heap.size < g := by have := HSZ1.out; omega
 have hs2 := HB2.out.size
 clear hc hb2 HR0 HBZ HB0 hg HSZ1
 go_wp2_with fail
 refine (l23Pair_s A n c bs w2 HR2.out HL.out hn).mono ?_
 rintro e w3 ⟨W, k, D, cD, rows, mo, rfl, hr3, hl3, hk6, hv, hD3, hmo, hb3⟩
 have HRL := Lib.hid hl3
 have HV := Lib.hid hv
 have hs3 := hb3.size
 have HD := Lib.hid (fun b e => by have := hD3 b e; omega : ∀ b, ob D = some b → w2.heap.size ≤ b)
 have ba := bel_alloc (Below.refl w3.heap.size w3) (.cells #[.int .i64 W, .slice D k cD] 26)
 have HN4 := Lib.hid (Blk.new w3 26 #[.int .i64 W, .slice D k cD])
 have HO4 := Lib.hid (hr3.below ba)
 have HB4 := Lib.hid (bel_trans (bel_trans HB2.out hb3) ba)
 have HC4 := Lib.hid ((HC.out.below hb3).below ba)
 have HZ4 := Lib.hid ((HZ2.out.below hb3).below ba)
 obtain ⟨w4, hw4⟩ : ∃ w4, w3.alloc (.cells #[.int .i64 W, .slice D k cD] 26) = w4 := ⟨_, rfl⟩
 have hs4 : w4.heap.size = w3.heap.size + 1 := by rw [← hw4]; simp
 rw [hw4] at HN4 HO4 HB4 HC4 HZ4
 have HW4 := Lib.hid hw4
 have HS4 := Lib.hid hs4
 clear ba hw4 hs4
 clear hr3 hl3 hv hD3 hb3 HC HZ2 HB2 HR2
 go_upto_region 3 with fail
 rw [HW4.out]
 clear HW4
 have c0 : w4.cell? ⟨w3.heap.size, 0, none⟩ = some (.int .i64 W) := by simpa using HN4.out.cell 0
 have c1 : w4.cell? ⟨w3.heap.size, 1, none⟩ = some (.slice D k cD) := by simpa using HN4.out.cell 1
 have cl := HN4.out.lt
 obtain ⟨gr, hgr⟩ : ∃ gr, w3.heap.size = gr := ⟨_, rfl⟩
 rw [hgr] at HN4 c0 c1 cl hs3 HS4 ⊢
 clear hgr
 have hne1 : gr ≠ w.heap.size := by omega
 have hg4 : g < w4.heap.size := by have := HS4.out; omega
 go_region_with (first | (go_at_call 58; refine (l7Pieces_s A n c g bs _ (HC4.out.below (bel_drew (Below.refl _ _))) hn).mono ?_; rintro e w10 ⟨B, q, cB, hs, P, rfl, hP10, hq10, hc10, hg10⟩; have HG10 := Lib.hid (bel_rowO (w := w4) (bel_drew (Below.refl _ _)) hg10); have HP10 := Lib.hid hP10; have HO10 := Lib.hid (HO4.out.grown HG10.out (fun b e r => by injection r with r; have := HD.out b e; omega)); have hs10 := HG10.out.size; clear hP10 hc10 hg10; have HN10 := Lib.hid (HN4.out.grown HG10.out (fun e => by injection e with e; omega)); have HZ10 := Lib.hid (HZ4.out.grown HG10.out (fun e => by injection e with e; omega)); have y0 : w10.cell? ⟨gr, 0, none⟩ = some (.int .i64 W) := (by simpa using HN10.out.cell 0); have y1 : w10.cell? ⟨gr, 1, none⟩ = some (.slice D k cD) := (by simpa using HN10.out.cell 1); have yl := HN10.out.lt; have x0 := HZ10.out.cell 0; have x1 := HZ10.out.cell 1; have f0 := HZ10.out.frozen 0; have f1 := HZ10.out.frozen 1; have xl := HZ10.out.lt) | (go_at_call 57; have hq5 : q ≤ 1048576 := (by omega); have htm : totC P ≤ 1048576 := (by have := totC_le70O HP10.out hq10; omega); refine (FindTiling_v W D B k cD q cB rows hs P _ HO10.out HRL.out HP10.out.rdp hq5 htm).mono ?_; rintro e w11 ⟨E, kE, cE, l, bb, rfl, hE11, hEl, hkE, hl63, hb11, hlow, hor⟩; have HB11 := Lib.hid hb11; have HE11 := Lib.hid hE11; have HEL := Lib.hid hEl; have HL63 := Lib.hid hl63; have HLOW := Lib.hid hlow; have HOR := Lib.hid hor; clear hE11 hEl hl63 hb11 hlow hor))
 all_goals
  clear c0 c1 cl y0 y1 yl x0 x1 f0 f1 xl
  have HN11 := Lib.hid (HN10.out.below HB11.out)
  have HZ11 := Lib.hid (HZ10.out.below HB11.out)
  have HO11 := Lib.hid (HO10.out.below HB11.out)
  have y0 : w11.cell? ⟨gr, 0, none⟩ = some (.int .i64 W) := by simpa using HN11.out.cell 0
  have y1 : w11.cell? ⟨gr, 1, none⟩ = some (.slice D k cD) := by simpa using HN11.out.cell 1
  have yl := HN11.out.lt
  have x0 : w11.cell? ⟨w.heap.size, 0, none⟩ = some (.int .i64 0) := by simpa using HZ11.out.cell 0
  have x1 : w11.cell? ⟨w.heap.size, 1, none⟩ = some (.slice none 0 0) := by simpa using HZ11.out.cell 1
  have f0 := HZ11.out.frozen 0
  have f1 := HZ11.out.frozen 1
  have xl := HZ11.out.lt
  have hs11 := HB11.out.size
  have gz : w11.grownBy ((w11.setCell ⟨w.heap.size, 0, none⟩ (.int .i64 W)).setCell ⟨w.heap.size, 1, none⟩ (.slice D k cD)) (some w.heap.size) := grown_set (p := ⟨w.heap.size, 1, none⟩) (grown_set (p := ⟨w.heap.size, 0, none⟩) (World.grownBy.refl _ _) rfl _) rfl _
  have GZ := Lib.hid gz
  have hZf := (HZ11.out.set_ 0 (.int .i64 W)).set_ 1 (.slice D k cD)
  have e0 : ((w11.setCell ⟨w.heap.size, 0, none⟩ (.int .i64 W)).setCell ⟨w.heap.size, 1, none⟩ (.slice D k cD)).cell? ⟨w.heap.size, 0, none⟩ = some (.int .i64 W) := by simpa using hZf.cell 0
  have e1 : ((w11.setCell ⟨w.heap.size, 0, none⟩ (.int .i64 W)).setCell ⟨w.heap.size, 1, none⟩ (.slice D k cD)).cell? ⟨w.heap.size, 1, none⟩ = some (.slice D k cD) := by simpa using hZf.cell 1
  have E0 := Lib.hid e0
  have E1 := Lib.hid e1
  clear hZf e0 e1 gz
  go_wp2_with fail
  have e0 := E0.out
  have e1 := E1.out
  exact bodyPost_ret (v := .tuple #[.agg #[.int .i64 W, .slice D k cD], .slice E kE cE, .int .i64 mo]) (by simp [results, Tryz.results6, go_sem, e0, e1]) rfl
   ⟨W, k, D, cD, rows, E, kE, cE, l, mo, rfl, HO11.out.grown GZ.out (fun b e r => by injection r with r; have := HD.out b e; omega), HRL.out, hk6, HE11.out.grown GZ.out (fun b e r => by injection r with r; have := HLOW.out b e; omega), HEL.out, hkE, HL63.out, tls_or HOR.out, hmo, bel_grown (bel_trans (bel_grown HB4.out HG10.out (fun b e => by injection e with e; omega)) HB11.out) GZ.out (fun b e => by injection e with e; omega)⟩
end

section
attribute [local go_sem ↓] Go.wp_at_zero Go.wp_at_succ
theorem DrawTurnMask_s (A : Option Addr) (n c : Nat) (bs : List UInt8) (w : World) (hr : Rd w A (vB bs)) (hl : bs.length = n) (hn : n ≤ 1048576) :
  Calls Tryz.prog 20 #[.slice A n c] w (RetTm w) := by
 have hBZ := Blk.new w 26 #[.int .i64 0, .slice none 0 0]
 have hb0 := bel_alloc (Below.refl w.heap.size w) (.cells #[.int .i64 0, .slice none 0 0] 26)
 have hr0 := hr.below hb0
 obtain ⟨w1, hw1⟩ : ∃ w1, w.alloc (.cells #[.int .i64 0, .slice none 0 0] 26) = w1 := ⟨_, rfl⟩
 have hsz1 : w1.heap.size = w.heap.size + 1 := by rw [← hw1]; simp
 rw [hw1] at hBZ hb0 hr0
 have HW1 := Lib.hid hw1
 have HSZ1 := Lib.hid hsz1
 have HBZ := Lib.hid hBZ
 have HB0 := Lib.hid hb0
 have HR0 := Lib.hid hr0
 have HL := Lib.hid hl
 clear hBZ hb0 hw1 hsz1 hr hr0 hl
 go_enter Tryz.func20, Tryz.ntmps20
 go_wp2_with fail
 rw [HW1.out]
 clear HW1
 go_wp2_with fail
 refine (l23Pair_s A n c bs w1 HR0.out HL.out hn).mono ?_
 rintro e w3 ⟨W, k, D, cD, rows, mo, rfl, hr3, hl3, hk6, hv, hD3, hmo, hb3⟩
 have HRL := Lib.hid hl3
 have HV := Lib.hid hv
 have hs1 : w.heap.size < w1.heap.size := by have := HSZ1.out; omega
 have hs3 := hb3.size
 have HD := Lib.hid (fun b e => by have := hD3 b e; omega : ∀ b, ob D = some b → w.heap.size < b)
 have ba := bel_alloc (Below.refl w3.heap.size w3) (.cells #[.int .i64 W, .slice D k cD] 26)
 have HN4 := Lib.hid (Blk.new w3 26 #[.int .i64 W, .slice D k cD])
 have HO4 := Lib.hid (hr3.below ba)
 have HB4 := Lib.hid (bel_trans (bel_trans HB0.out hb3) ba)
 have HZ4 := Lib.hid ((HBZ.out.below hb3).below ba)
 obtain ⟨w4, hw4⟩ : ∃ w4, w3.alloc (.cells #[.int .i64 W, .slice D k cD] 26) = w4 := ⟨_, rfl⟩
 have hs4 : w4.heap.size = w3.heap.size + 1 := by rw [← hw4]; simp
 rw [hw4] at HN4 HO4 HB4 HZ4
 have HW4 := Lib.hid hw4
 have HS4 := Lib.hid hs4
 clear ba hw4 hs4
 clear hr3 hl3 hv hD3 hb3 HBZ HB0 HR0 HSZ1
 go_upto_region 2 with fail
 rw [HW4.out]
 clear HW4
 have c0 : w4.cell? ⟨w3.heap.size, 0, none⟩ = some (.int .i64 W) := by simpa using HN4.out.cell 0
 have c1 : w4.cell? ⟨w3.heap.size, 1, none⟩ = some (.slice D k cD) := by simpa using HN4.out.cell 1
 have cl := HN4.out.lt
 obtain ⟨gr, hgr⟩ : ∃ gr, w3.heap.size = gr := ⟨_, rfl⟩
 rw [hgr] at HN4 c0 c1 cl hs3 HS4 ⊢
 clear hgr
 have hne1 : gr ≠ w.heap.size := by omega
 go_wp2_with fail
 refine (PlacementsOf_s W D _ k cD 2 2 rows [(0, 0), (1, 0)] _ (HO4.out.alloc _) HRL.out HV.out (rd_new w4 87 _) rfl (by decide)).mono ?_
 have hpm := plV_msk W rows [(0, 0), (1, 0)]
 have hpc := plV_len W rows [(0, 0), (1, 0)]
 obtain ⟨ms, hms⟩ : ∃ ms, plV W rows [(0, 0), (1, 0)] = ms := ⟨_, rfl⟩
 rw [hms] at hpm hpc ⊢
 have hm63 : ∀ x ∈ ms, x < 9223372036854775808 := fun x hx => by obtain ⟨q, rfl, hq⟩ := hpm x hx; omega
 clear hms hpm
 rintro e w5 ⟨gE, p, cE, rfl, hOE, hb5⟩
 have hpl : ms.length = p := by have h := own_len hOE; rw [vI_length] at h; omega
 have hp288 : p ≤ 288 := by omega
 have hgE := (own_lt hOE gE rfl).1
 have hgE1 : gE ≠ w.heap.size := by have h2 := HS4.out; simp at hgE; omega
 have hgE2 : w.heap.size ≠ gE := fun e => hgE1 e.symm
 have hbl := bel_alloc (Below.refl w4.heap.size w4) (.cells #[.int .i64 0, .int .i64 0, .int .i64 1, .int .i64 0] 87)
 have hb45 := bel_trans hbl hb5
 have HPL := Lib.hid hpl
 have HM63 := Lib.hid hm63
 have HRE := Lib.hid (Rd.of_own hOE)
 have HN5 := Lib.hid (HN4.out.below hb45)
 have HZ5 := Lib.hid (HZ4.out.below hb45)
 have HO5 := Lib.hid (HO4.out.below hb45)
 have HB5 := Lib.hid (bel_trans HB4.out hb45)
 have hs5 := hb45.size
 clear hpc hm63 hpl hOE hb5 hbl hb45 hgE c0 c1 cl HN4 HZ4 HO4 HB4
 have c0 : w5.cell? ⟨gr, 0, none⟩ = some (.int .i64 W) := by simpa using HN5.out.cell 0
 have c1 : w5.cell? ⟨gr, 1, none⟩ = some (.slice D k cD) := by simpa using HN5.out.cell 1
 have cl := HN5.out.lt
 have z0 : w5.cell? ⟨w.heap.size, 0, none⟩ = some (.int .i64 0) := by simpa using HZ5.out.cell 0
 have z1 : w5.cell? ⟨w.heap.size, 1, none⟩ = some (.slice none 0 0) := by simpa using HZ5.out.cell 1
 have g0 := HZ5.out.frozen 0
 have g1 := HZ5.out.frozen 1
 have zl := HZ5.out.lt
 obtain ⟨t, ht⟩ : ∃ t, n % 4 = t := ⟨_, rfl⟩
 have htx : (n : Int).tmod 4 = ((n % 4 : Nat) : Int) := (Int.ofNat_tmod n 4).symm
 rw [ht] at htx
 have hty : (n : Int) % 4 = (t : Int) := by omega
 have et : IntKind.i64.wrap (t : Int) = (t : Int) := Go.IntWalk.i64_in _ (by omega)
 have HT := Lib.hid ht
 clear ht
 go_upto_region 3 with fail
 go_cut [26] (fun s wx => ∃ d, s = .bool d ∧ wx = w5 ∧ (d = true → 0 < p))
 case first =>
  by_cases hp0 : 0 < p
  ·have hp1 : (p : Int) > 0 := by omega
   by_cases h0 : 0 < t
   ·have h1 : (t : Int) > 0 := by omega
    go_wp2
    go_meet
    exact ⟨true, rfl, rfl, fun _ => hp0⟩
   ·have h1 : ¬ (t : Int) > 0 := by omega
    go_wp2
    go_meet
    exact ⟨false, rfl, rfl, fun h => by cases h⟩
  ·have hp1 : ¬ (p : Int) > 0 := by omega
   go_wp2
   go_meet
   exact ⟨false, rfl, rfl, fun h => by cases h⟩
 case rest =>
  obtain ⟨d, rfl, hx, hdp⟩ := hcut
  have hx := hx.symm
  subst hx
  clear htx hty et HT
  cases d with
  | true =>
   have hp0 := hdp rfl
   have hpz : ((p : Int) == 0) = false := by simp; omega
   have hpN : ¬ p = 0 := by omega
   obtain ⟨r, hr⟩ : ∃ r, n % p = r := ⟨_, rfl⟩
   have hrp : r < p := by rw [← hr]; exact Nat.mod_lt _ hp0
   have hrI : (n : Int) % (p : Int) = (r : Int) := by rw [← hr]; simp
   have hrT : (n : Int).tmod (p : Int) = (r : Int) := by rw [← hr]; simp [Int.tmod]
   have er : IntKind.i64.wrap (r : Int) = (r : Int) := Go.IntWalk.i64_in _ (by omega)
   have hr0 : (0 : Int) ≤ (r : Int) := by omega
   have hr1 : (r : Int) < (p : Int) := by omega
   have hrl : r < ms.length := by rw [HPL.out]; exact hrp
   obtain ⟨gF, oF, hFe, hgF, d1⟩ := RdI.at_ HRE.out hrl
   injection hFe with hFe
   injection hFe with e1 e2
   subst e1 e2
   obtain ⟨x, hx⟩ : ∃ x, ms[r] = x := ⟨_, rfl⟩
   have hx63 := HM63.out _ (List.getElem_mem hrl)
   rw [hx, Nat.zero_add] at d1
   rw [hx] at hx63
   clear hx hdp
   go_wp2_with fail
   go_region_with fail
   all_goals
    have gz : w5.grownBy ((w5.setCell ⟨w.heap.size, 0, none⟩ (.int .i64 W)).setCell ⟨w.heap.size, 1, none⟩ (.slice D k cD)) (some w.heap.size) := grown_set (p := ⟨w.heap.size, 1, none⟩) (grown_set (p := ⟨w.heap.size, 0, none⟩) (World.grownBy.refl _ _) rfl _) rfl _
    have GZ := Lib.hid gz
    have HBL := Lib.hid (bel_drew (Below.refl ((w5.setCell ⟨w.heap.size, 0, none⟩ (.int .i64 W)).setCell ⟨w.heap.size, 1, none⟩ (.slice D k cD)).heap.size ((w5.setCell ⟨w.heap.size, 0, none⟩ (.int .i64 W)).setCell ⟨w.heap.size, 1, none⟩ (.slice D k cD))))
    have hZf := (((HZ5.out.set_ 0 (.int .i64 W)).set_ 1 (.slice D k cD))).drew
    have e0 : ((((w5.setCell ⟨w.heap.size, 0, none⟩ (.int .i64 W)).setCell ⟨w.heap.size, 1, none⟩ (.slice D k cD))).drew).cell? ⟨w.heap.size, 0, none⟩ = some (.int .i64 W) := by simpa using hZf.cell 0
    have e1 : ((((w5.setCell ⟨w.heap.size, 0, none⟩ (.int .i64 W)).setCell ⟨w.heap.size, 1, none⟩ (.slice D k cD))).drew).cell? ⟨w.heap.size, 1, none⟩ = some (.slice D k cD) := by simpa using hZf.cell 1
    have E0 := Lib.hid e0
    have E1 := Lib.hid e1
    clear hZf e0 e1 gz
    go_wp2_with fail
    have e0 := E0.out
    have e1 := E1.out
    exact bodyPost_ret (v := .tuple #[.agg #[.int .i64 W, .slice D k cD], .int .i64 x, .int .i64 mo]) (by simp [results, Tryz.results20, go_sem, e0, e1]) rfl
     ⟨W, k, D, cD, rows, x, mo, rfl, (HO5.out.grown GZ.out (fun b e r => by injection r with r; have := HD.out b e; omega)).below HBL.out, HRL.out, hk6, hx63, hmo, bel_trans (bel_grown HB5.out GZ.out (fun b e => by injection e with e; omega)) HBL.out⟩
  | false =>
   clear hdp
   obtain ⟨t3, ht3⟩ : ∃ t, n % 3 = t := ⟨_, rfl⟩
   have htx3 : (n : Int).tmod 3 = ((n % 3 : Nat) : Int) := (Int.ofNat_tmod n 3).symm
   rw [ht3] at htx3
   have hty3 : (n : Int) % 3 = (t3 : Int) := by omega
   have h3 : t3 < 3 := by omega
   clear ht3
   rcases t3 with _ | _ | _ | t3
   ·go_wp2_with fail
    go_region_with fail
    all_goals
     have gz : w5.grownBy ((w5.setCell ⟨w.heap.size, 0, none⟩ (.int .i64 W)).setCell ⟨w.heap.size, 1, none⟩ (.slice D k cD)) (some w.heap.size) := grown_set (p := ⟨w.heap.size, 1, none⟩) (grown_set (p := ⟨w.heap.size, 0, none⟩) (World.grownBy.refl _ _) rfl _) rfl _
     have GZ := Lib.hid gz
     have HBL := Lib.hid (bel_drew (bel_alloc (Below.refl ((w5.setCell ⟨w.heap.size, 0, none⟩ (.int .i64 W)).setCell ⟨w.heap.size, 1, none⟩ (.slice D k cD)).heap.size ((w5.setCell ⟨w.heap.size, 0, none⟩ (.int .i64 W)).setCell ⟨w.heap.size, 1, none⟩ (.slice D k cD))) (.cells #[.int .i64 0, .int .i64 (-1), .int .i64 9223372036854775807] 3)))
     have hZf := (((HZ5.out.set_ 0 (.int .i64 W)).set_ 1 (.slice D k cD)).alloc (.cells #[.int .i64 0, .int .i64 (-1), .int .i64 9223372036854775807] 3)).drew
     have e0 : ((((w5.setCell ⟨w.heap.size, 0, none⟩ (.int .i64 W)).setCell ⟨w.heap.size, 1, none⟩ (.slice D k cD)).alloc (.cells #[.int .i64 0, .int .i64 (-1), .int .i64 9223372036854775807] 3)).drew).cell? ⟨w.heap.size, 0, none⟩ = some (.int .i64 W) := by simpa using hZf.cell 0
     have e1 : ((((w5.setCell ⟨w.heap.size, 0, none⟩ (.int .i64 W)).setCell ⟨w.heap.size, 1, none⟩ (.slice D k cD)).alloc (.cells #[.int .i64 0, .int .i64 (-1), .int .i64 9223372036854775807] 3)).drew).cell? ⟨w.heap.size, 1, none⟩ = some (.slice D k cD) := by simpa using hZf.cell 1
     have E0 := Lib.hid e0
     have E1 := Lib.hid e1
     clear hZf e0 e1 gz
     go_wp2_with fail
     have e0 := E0.out
     have e1 := E1.out
     exact bodyPost_ret (v := .tuple #[.agg #[.int .i64 W, .slice D k cD], .int .i64 0, .int .i64 mo]) (by simp [results, Tryz.results20, go_sem, e0, e1]) rfl
      ⟨W, k, D, cD, rows, 0, mo, rfl, (HO5.out.grown GZ.out (fun b e r => by injection r with r; have := HD.out b e; omega)).below HBL.out, HRL.out, hk6, by decide, hmo, bel_trans (bel_grown HB5.out GZ.out (fun b e => by injection e with e; omega)) HBL.out⟩
   ·go_wp2_with fail
    go_region_with fail
    all_goals
     have gz : w5.grownBy ((w5.setCell ⟨w.heap.size, 0, none⟩ (.int .i64 W)).setCell ⟨w.heap.size, 1, none⟩ (.slice D k cD)) (some w.heap.size) := grown_set (p := ⟨w.heap.size, 1, none⟩) (grown_set (p := ⟨w.heap.size, 0, none⟩) (World.grownBy.refl _ _) rfl _) rfl _
     have GZ := Lib.hid gz
     have HBL := Lib.hid (bel_drew (bel_alloc (Below.refl ((w5.setCell ⟨w.heap.size, 0, none⟩ (.int .i64 W)).setCell ⟨w.heap.size, 1, none⟩ (.slice D k cD)).heap.size ((w5.setCell ⟨w.heap.size, 0, none⟩ (.int .i64 W)).setCell ⟨w.heap.size, 1, none⟩ (.slice D k cD))) (.cells #[.int .i64 0, .int .i64 (-1), .int .i64 9223372036854775807] 3)))
     have hZf := (((HZ5.out.set_ 0 (.int .i64 W)).set_ 1 (.slice D k cD)).alloc (.cells #[.int .i64 0, .int .i64 (-1), .int .i64 9223372036854775807] 3)).drew
     have e0 : ((((w5.setCell ⟨w.heap.size, 0, none⟩ (.int .i64 W)).setCell ⟨w.heap.size, 1, none⟩ (.slice D k cD)).alloc (.cells #[.int .i64 0, .int .i64 (-1), .int .i64 9223372036854775807] 3)).drew).cell? ⟨w.heap.size, 0, none⟩ = some (.int .i64 W) := by simpa using hZf.cell 0
     have e1 : ((((w5.setCell ⟨w.heap.size, 0, none⟩ (.int .i64 W)).setCell ⟨w.heap.size, 1, none⟩ (.slice D k cD)).alloc (.cells #[.int .i64 0, .int .i64 (-1), .int .i64 9223372036854775807] 3)).drew).cell? ⟨w.heap.size, 1, none⟩ = some (.slice D k cD) := by simpa using hZf.cell 1
     have E0 := Lib.hid e0
     have E1 := Lib.hid e1
     clear hZf e0 e1 gz
     go_wp2_with fail
     have e0 := E0.out
     have e1 := E1.out
     exact bodyPost_ret (v := .tuple #[.agg #[.int .i64 W, .slice D k cD], .int .i64 (-1), .int .i64 mo]) (by simp [results, Tryz.results20, go_sem, e0, e1]) rfl
      ⟨W, k, D, cD, rows, (-1), mo, rfl, (HO5.out.grown GZ.out (fun b e r => by injection r with r; have := HD.out b e; omega)).below HBL.out, HRL.out, hk6, by decide, hmo, bel_trans (bel_grown HB5.out GZ.out (fun b e => by injection e with e; omega)) HBL.out⟩
   ·go_wp2_with fail
    go_region_with fail
    all_goals
     have gz : w5.grownBy ((w5.setCell ⟨w.heap.size, 0, none⟩ (.int .i64 W)).setCell ⟨w.heap.size, 1, none⟩ (.slice D k cD)) (some w.heap.size) := grown_set (p := ⟨w.heap.size, 1, none⟩) (grown_set (p := ⟨w.heap.size, 0, none⟩) (World.grownBy.refl _ _) rfl _) rfl _
     have GZ := Lib.hid gz
     have HBL := Lib.hid (bel_drew (bel_alloc (Below.refl ((w5.setCell ⟨w.heap.size, 0, none⟩ (.int .i64 W)).setCell ⟨w.heap.size, 1, none⟩ (.slice D k cD)).heap.size ((w5.setCell ⟨w.heap.size, 0, none⟩ (.int .i64 W)).setCell ⟨w.heap.size, 1, none⟩ (.slice D k cD))) (.cells #[.int .i64 0, .int .i64 (-1), .int .i64 9223372036854775807] 3)))
     have hZf := (((HZ5.out.set_ 0 (.int .i64 W)).set_ 1 (.slice D k cD)).alloc (.cells #[.int .i64 0, .int .i64 (-1), .int .i64 9223372036854775807] 3)).drew
     have e0 : ((((w5.setCell ⟨w.heap.size, 0, none⟩ (.int .i64 W)).setCell ⟨w.heap.size, 1, none⟩ (.slice D k cD)).alloc (.cells #[.int .i64 0, .int .i64 (-1), .int .i64 9223372036854775807] 3)).drew).cell? ⟨w.heap.size, 0, none⟩ = some (.int .i64 W) := by simpa using hZf.cell 0
     have e1 : ((((w5.setCell ⟨w.heap.size, 0, none⟩ (.int .i64 W)).setCell ⟨w.heap.size, 1, none⟩ (.slice D k cD)).alloc (.cells #[.int .i64 0, .int .i64 (-1), .int .i64 9223372036854775807] 3)).drew).cell? ⟨w.heap.size, 1, none⟩ = some (.slice D k cD) := by simpa using hZf.cell 1
     have E0 := Lib.hid e0
     have E1 := Lib.hid e1
     clear hZf e0 e1 gz
     go_wp2_with fail
     have e0 := E0.out
     have e1 := E1.out
     exact bodyPost_ret (v := .tuple #[.agg #[.int .i64 W, .slice D k cD], .int .i64 9223372036854775807, .int .i64 mo]) (by simp [results, Tryz.results20, go_sem, e0, e1]) rfl
      ⟨W, k, D, cD, rows, 9223372036854775807, mo, rfl, (HO5.out.grown GZ.out (fun b e r => by injection r with r; have := HD.out b e; omega)).below HBL.out, HRL.out, hk6, by decide, hmo, bel_trans (bel_grown HB5.out GZ.out (fun b e => by injection e with e; omega)) HBL.out⟩
   ·omega
theorem sameInts_b (A B : Option Addr) (n c m cb : Nat) (xs ys : List Int) (w : World) (hr : Rd w A (vI xs)) (hl : xs.length = n) (hr2 : Rd w B (vI ys)) (hl2 : ys.length = m) (hn : n ≤ 1048576) :
  Calls Tryz.prog 11 #[.slice A n c, .slice B m cb] w (Ret w (.bool (decide (xs = ys)))) := by
 by_cases hnm : n = m
 ·subst hnm
  have HR := Lib.hid hr
  have HL := Lib.hid hl
  have HR2 := Lib.hid hr2
  have HL2 := Lib.hid hl2
  have hne0 : ((n : Int) != (n : Int)) = false := by simp
  clear hr hl hr2 hl2
  go_enter Tryz.func11, Tryz.ntmps11
  go_wp2_with fail
  go_loopw [5] (fun e5 wr => ∃ k : Nat, k ≤ n ∧ e5 = .int .i64 k ∧ (∀ j, j < k → xs.getD j 0 = ys.getD j 0) ∧ Below w.heap.size w wr) (fun e5 _ => n - (intOf e5).toNat)
  case atStart => exact ⟨0, Nat.zero_le _, rfl, (fun j h => by omega), Below.refl _ _⟩
  case round =>
   obtain ⟨k, hk1, rfl, hsame, hb⟩ := hrel
   have HSM := Lib.hid hsame
   have HB := Lib.hid hb
   clear hsame hb
   by_cases h1 : k < n
   ·have hi0 : (0 : Int) ≤ (k : Int) := by omega
    have hi1 : (k : Int) < (n : Int) := by omega
    have k1 : k < xs.length := by rw [HL.out]; exact h1
    have k2 : k < ys.length := by rw [HL2.out]; exact h1
    obtain ⟨g1, o1, hA, gl1, d1⟩ := RdI.at_ (HR.out.below HB.out) k1
    obtain ⟨g2, o2, hB, gl2, d2⟩ := RdI.at_ (HR2.out.below HB.out) k2
    have e1 : xs.getD k 0 = xs[k] := by rw [List.getD_eq_getElem?_getD, List.getElem?_eq_getElem k1]; rfl
    have e2 : ys.getD k 0 = ys[k] := by rw [List.getD_eq_getElem?_getD, List.getElem?_eq_getElem k2]; rfl
    obtain ⟨x, hx⟩ : ∃ x, xs[k] = x := ⟨_, rfl⟩
    obtain ⟨y, hy⟩ : ∃ y, ys[k] = y := ⟨_, rfl⟩
    rw [hx] at d1 e1
    rw [hy] at d2 e2
    subst hA
    subst hB
    by_cases hxy : x = y
    ·have HS2 : Hid (∀ j, j < k + 1 → xs.getD j 0 = ys.getD j 0) := fun j hj => by
      by_cases hjk : j = k
      ·rw [hjk, e1, e2, hxy]
      ·exact HSM.out j (by omega)
     have hne : (x != y) = false := by simp [hxy]
     clear hx hy e1 e2 k1 k2 hxy
     go_wp2_with fail
     (refine wp_region_below (by kernel_rfl) (by kernel_rfl) ?_; (repeat (first | go_big_quiet_skip | (refine quietV (v := ?_) (by rfl) rfl (fun w' hbw => ?_) ?_; rotate_left; ((try dsimp only at hbw); have hbc := (bcell hbw).1; have hbf := (bcell hbw).2; go_simp; first | done | with_reducible rfl | fail); simp only [sq1, sq2, sq3]))); refine wpQuiet_nil ?_; intro wq hbq)
     have HBQ := Lib.hid (bel_trans HB.out hbq)
     clear hbq
     go_wp2_with fail
     exact ⟨⟨k + 1, by omega, by go_num, HS2.out, HBQ.out⟩, by simp [intOf]; omega⟩
    ·have HV : Hid (decide (xs = ys) = false) := by
      show _ = _
      rw [decide_eq_false_iff_not]
      intro e
      rw [e, e2] at e1
      exact hxy e1.symm
     have hne : (x != y) = true := by simp [hxy]
     clear hx hy e1 e2 k1 k2 hxy
     go_wp2_with fail
     (refine wp_region_below (by kernel_rfl) (by kernel_rfl) ?_; (repeat (first | go_big_quiet_skip | (refine quietV (v := ?_) (by rfl) rfl (fun w' hbw => ?_) ?_; rotate_left; ((try dsimp only at hbw); have hbc := (bcell hbw).1; have hbf := (bcell hbw).2; go_simp; first | done | with_reducible rfl | fail); simp only [sq1, sq2, sq3]))); refine wpQuiet_nil ?_; intro wq hbq)
     have HBQ := Lib.hid (bel_trans HB.out hbq)
     clear hbq
     go_wp2_with fail
     go_ret
     exact ⟨by rw [HV.out]; rfl, HBQ.out⟩
   ·have hi1 : ¬ (k : Int) < (n : Int) := by omega
    have HV : Hid (decide (xs = ys) = true) := by
     show _ = _
     rw [decide_eq_true_iff]
     apply List.ext_getElem (HL.out.trans HL2.out.symm)
     intro j j1 j2
     have h := HSM.out j (by have := HL.out; omega)
     rw [List.getD_eq_getElem?_getD, List.getElem?_eq_getElem j1, List.getD_eq_getElem?_getD, List.getElem?_eq_getElem j2] at h
     exact h
    clear h1
    go_wp2_with fail
    go_ret
    exact ⟨by rw [HV.out]; rfl, HB.out⟩
 ·have hne0 : ((n : Int) != (m : Int)) = true := by simp; omega
  have HV : Hid (decide (xs = ys) = false) := by
   show _ = _
   rw [decide_eq_false_iff_not]
   intro e
   rw [e] at hl
   omega
  clear hr hl hr2 hl2 hnm
  go_enter Tryz.func11, Tryz.ntmps11
  go_wp2_with fail
  go_ret
  exact ⟨by rw [HV.out]; rfl, Below.refl _ _⟩
end

section
attribute [local go_sem ↓] Go.wp_at_zero Go.wp_at_succ
theorem l23Less_s (A B : Option Addr) (n c m d : Nat) (xs ys : List Int) (w : World) (hr : Rd w A (vI xs)) (hl : xs.length = n) (hr2 : Rd w B (vI ys)) (hl2 : ys.length = m) (hn : n ≤ 1099511627776) (hm : m ≤ 1099511627776) :
  Calls Tryz.prog 68 #[.slice A n c, .slice B m d] w (Ret w (.bool (lxI xs ys))) := by
 have HR := Lib.hid hr
 have HL := Lib.hid hl
 have HR2 := Lib.hid hr2
 have HL2 := Lib.hid hl2
 clear hr hl hr2 hl2
 go_enter Tryz.func68, Tryz.ntmps68
 go_wp2_with fail
 go_loopw [5] (fun e5 wr => ∃ k : Nat, k ≤ n ∧ k ≤ m ∧ e5 = .int .i64 k ∧ (∀ j, j < k → xs.getD j 0 = ys.getD j 0) ∧ Below w.heap.size w wr) (fun e5 _ => n - (intOf e5).toNat)
 case atStart => exact ⟨0, Nat.zero_le _, Nat.zero_le _, rfl, (fun j h => by omega), Below.refl _ _⟩
 case round =>
  obtain ⟨k, hk1, hk2, rfl, hsame, hb⟩ := hrel
  have HSM := Lib.hid hsame
  have HB := Lib.hid hb
  clear hsame hb
  by_cases h1 : k < n
  ·by_cases h2 : k < m
   ·have hi0 : (0 : Int) ≤ (k : Int) := by omega
    have hi1 : (k : Int) < (n : Int) := by omega
    have hi2 : (k : Int) < (m : Int) := by omega
    have k1 : k < xs.length := by rw [HL.out]; exact h1
    have k2 : k < ys.length := by rw [HL2.out]; exact h2
    obtain ⟨g1, o1, hA, gl1, d1⟩ := RdI.at_ (HR.out.below HB.out) k1
    obtain ⟨g2, o2, hB, gl2, d2⟩ := RdI.at_ (HR2.out.below HB.out) k2
    have e1 : xs.getD k 0 = xs[k] := by rw [List.getD_eq_getElem?_getD, List.getElem?_eq_getElem k1]; rfl
    have e2 : ys.getD k 0 = ys[k] := by rw [List.getD_eq_getElem?_getD, List.getElem?_eq_getElem k2]; rfl
    have hdf := fun h => lxI_diff k1 k2 HSM.out h
    obtain ⟨x, hx⟩ : ∃ x, xs[k] = x := ⟨_, rfl⟩
    obtain ⟨y, hy⟩ : ∃ y, ys[k] = y := ⟨_, rfl⟩
    rw [hx] at d1 e1
    rw [hy] at d2 e2
    rw [e1, e2] at hdf
    subst hA
    subst hB
    by_cases hxy : x = y
    ·have HS2 : Hid (∀ j, j < k + 1 → xs.getD j 0 = ys.getD j 0) := fun j hj => by
      by_cases hjk : j = k
      ·rw [hjk, e1, e2, hxy]
      ·exact HSM.out j (by omega)
     have hne : (x != y) = false := by simp [hxy]
     clear hx hy e1 e2 hdf k1 k2 hxy
     go_wp2_with fail
     (refine wp_region_below (by kernel_rfl) (by kernel_rfl) ?_; (repeat (first | go_big_quiet_skip | (refine quietV (v := ?_) (by rfl) rfl (fun w' hbw => ?_) ?_; rotate_left; ((try dsimp only at hbw); have hbc := (bcell hbw).1; have hbf := (bcell hbw).2; go_simp; first | done | with_reducible rfl | fail); simp only [sq1, sq2, sq3]))); refine wpQuiet_nil ?_; intro wq hbq)
     have HBQ := Lib.hid (bel_trans HB.out hbq)
     clear hbq
     go_wp2_with fail
     exact ⟨⟨k + 1, by omega, by omega, by go_num, HS2.out, HBQ.out⟩, by simp [intOf]; omega⟩
    ·have HV : Hid (lxI xs ys = decide (x < y)) := hdf hxy
     have hne : (x != y) = true := by simp [hxy]
     clear hx hy e1 e2 hdf k1 k2 hxy
     go_wp2_with fail
     (refine wp_region_below (by kernel_rfl) (by kernel_rfl) ?_; (repeat (first | go_big_quiet_skip | (refine quietV (v := ?_) (by rfl) rfl (fun w' hbw => ?_) ?_; rotate_left; ((try dsimp only at hbw); have hbc := (bcell hbw).1; have hbf := (bcell hbw).2; go_simp; first | done | with_reducible rfl | fail); simp only [sq1, sq2, sq3]))); refine wpQuiet_nil ?_; intro wq hbq)
     have HBQ := Lib.hid (bel_trans HB.out hbq)
     have c1 := keep_below hbq d1
     have c2 := keep_below hbq d2
     have l1 := World.block_lt_of_cell? _ _ c1
     have l2 := World.block_lt_of_cell? _ _ c2
     clear hbq d1 d2
     go_wp2_with fail
     (refine wp_region_below (by kernel_rfl) (by kernel_rfl) ?_; (repeat (first | go_big_quiet_skip | (refine quietV (v := ?_) (by rfl) rfl (fun w' hbw => ?_) ?_; rotate_left; ((try dsimp only at hbw); have hbc := (bcell hbw).1; have hbf := (bcell hbw).2; go_simp; first | done | with_reducible rfl | fail); simp only [sq1, sq2, sq3]))); refine wpQuiet_nil ?_; intro wp hbp)
     go_wp2_with fail
     go_ret
     exact ⟨by rw [HV.out]; rfl, bel_trans HBQ.out hbp⟩
   ·have hi1 : (k : Int) < (n : Int) := by omega
    have hi2 : ¬ (k : Int) < (m : Int) := by omega
    have HV : Hid (lxI xs ys = decide ((n : Int) < (m : Int))) := by
     show _ = _
     rw [lxI_end (by rw [HL.out]; exact hk1) (by rw [HL2.out]; exact hk2) HSM.out (.inr (by rw [HL2.out]; omega)), HL.out, HL2.out]
     simp
    clear h1 h2
    go_wp2_with fail
    go_ret
    exact ⟨by rw [HV.out]; (first | rfl | simp), HB.out⟩
  ·have hi1 : ¬ (k : Int) < (n : Int) := by omega
   have HV : Hid (lxI xs ys = decide ((n : Int) < (m : Int))) := by
    show _ = _
    rw [lxI_end (by rw [HL.out]; exact hk1) (by rw [HL2.out]; exact hk2) HSM.out (.inl (by rw [HL.out]; omega)), HL.out, HL2.out]
    simp
   clear h1
   go_wp2_with fail
   go_ret
   exact ⟨by rw [HV.out]; (first | rfl | simp), HB.out⟩
theorem CanonicalTiling_s (W : Int) (A : Option Addr) (n c : Nat) (D : Option Addr) (k cd : Nat) (rows l : List Int) (w : World) (hr : Rd w A (vI rows)) (hl : rows.length = n) (hrI : Rd w D (vI l)) (hlI : l.length = k) (hx : ∀ x ∈ l, x < 9223372036854775808) (hk : k ≤ 1048576) :
  Calls Tryz.prog 10 #[.agg #[.int .i64 W, .slice A n c], .slice D k cd] w (RetS2 w 3 1 (vI (canV W rows l)) (.bool (canOk W rows l))) := by
 have HL := Lib.hid hl
 have HR := Lib.hid hr
 have HRI := Lib.hid hrI
 have HLI := Lib.hid hlI
 have HX := Lib.hid hx
 have hml := motV_len W rows
 obtain ⟨M, hM⟩ : ∃ M, motV W rows = M := ⟨_, rfl⟩
 have hMm : ∀ m ∈ M, ttOk W rows l m = l.all (okMask W rows) := fun m h => ttOk_mem (by rw [hM]; exact h)
 have hTl : ∀ m, (ttV W rows l m).length ≤ k := fun m => by have := ttV_len W rows l m; omega
 have hTl := Lib.hid hTl
 have HB0 := Lib.hid ((Blk.new w 26 #[.int .i64 W, .slice A n c]).alloc (.cells #[] 3))
 have ho0 := own_blk (cs := #[]) (Blk.new (w.alloc (.cells #[.int .i64 W, .slice A n c] 26)) 3 #[]) (base := w.heap.size) (size := 1) (n := 0) rfl (by simp) (Nat.zero_le _)
 rw [World.size_alloc] at ho0
 have HO0 := Lib.hid ho0
 have hbe0 := bel_alloc (bel_alloc (Below.refl w.heap.size w) (.cells #[.int .i64 W, .slice A n c] 26)) (.cells #[] 3)
 have HBE0 := Lib.hid hbe0
 have HR0 := Lib.hid (hr.below hbe0)
 clear hr hl hrI hlI hx ho0 hbe0
 obtain ⟨ok, hok⟩ : ∃ ok, l.all (okMask W rows) = ok := ⟨_, rfl⟩
 have HOK := Lib.hid hok
 rw [hok] at hMm
 cases ok with
 | false =>
  have HMM := Lib.hid hMm
  have HMV := Lib.hid hM
  have HV : Hid (canV W rows l = []) := by show _ = _; unfold canV; rw [hok]; rfl
  have HO : Hid (canOk W rows l = false) := by show _ = _; unfold canOk; rw [hok]; rfl
  clear hok hMm hM
  go_enter Tryz.func10, Tryz.ntmps10
  go_wp2_with fail
  refine (RegionMotions_s W A n c rows _ HR0.out HL.out).mono ?_
  rw [HMV.out]
  rintro e w1 ⟨G, q, cq, rfl, hoG, hb1⟩
  have HQ := Lib.hid (by have := own_len hoG; rw [vI_length] at this; omega : M.length = q)
  have hq8 : q ≤ 8 := by have h1 := HQ.out; have h2 := HMV.out; rw [h2] at hml; omega
  have HRG := Lib.hid (Rd.of_own hoG)
  have HBX := Lib.hid (HB0.out.below hb1)
  have HB1 := Lib.hid (bel_trans HBE0.out hb1)
  have HO1 := Lib.hid (own_keep HO0.out hb1)
  clear hoG hb1
  go_wp2_with fail
  go_loopw [9, 6, 7] (fun e9 e6 e7 wr => e9 = .int .i64 0 ∧ e6 = .slice (some ⟨w.heap.size + 1, 0, none⟩) 0 0 ∧ e7 = .bool false ∧ wr = w1) (fun _ _ _ _ => 0)
  case atStart => exact ⟨rfl, by simp, rfl, rfl⟩
  case round =>
   obtain ⟨rfl, rfl, rfl, rfl⟩ := hrel
   have b0 : wr.cell? ⟨w.heap.size, 0, none⟩ = some (.int .i64 W) := by simpa using HBX.out.cell 0
   have b1 : wr.cell? ⟨w.heap.size, 1, none⟩ = some (.slice A n c) := by simpa using HBX.out.cell 1
   have bl := HBX.out.lt
   by_cases h0 : 0 < q
   ·have hi1 : (0 : Int) < (q : Int) := by omega
    have hil : 0 < M.length := by rw [HQ.out]; exact h0
    obtain ⟨gg, off, hA, hgg, d1⟩ := RdI.at_ HRG.out hil
    obtain ⟨m, hm⟩ : ∃ m, M[0] = m := ⟨_, rfl⟩
    have hmm := HMM.out m (by rw [← hm]; exact List.getElem_mem hil)
    rw [hm, Nat.add_zero] at d1
    have HTO := Lib.hid hmm
    clear hm hmm hil
    subst hA
    go_wp2_with fail
    refine wp_region_rg 12 rfl (by kernel_rfl) ?_
    (refine rgT (i := 0) (v := ?_) rfl rfl (by kernel_rfl) (by kernel_rfl) (by kernel_rfl) (by rfl) (fun w' hcw => ?_) ?_; rotate_left; ((try dsimp only at hcw); have hbc := hcw.cells; go_simp; first | done | with_reducible rfl); simp only [sq1, sq2, sq3])
    (refine rgT (i := 1) (v := ?_) rfl rfl (by kernel_rfl) (by kernel_rfl) (by kernel_rfl) (by rfl) (fun w' hcw => ?_) ?_; rotate_left; ((try dsimp only at hcw); have hbc := hcw.cells; go_simp; first | done | with_reducible rfl); simp only [sq1, sq2, sq3])
    (refine rgT (i := 2) (v := ?_) rfl rfl (by kernel_rfl) (by kernel_rfl) (by kernel_rfl) (by rfl) (fun w' hcw => ?_) ?_; rotate_left; ((try dsimp only at hcw); have hbc := hcw.cells; go_simp; first | done | with_reducible rfl); simp only [sq1, sq2, sq3])
    (refine rgT (i := 3) (v := ?_) rfl rfl (by kernel_rfl) (by kernel_rfl) (by kernel_rfl) (by rfl) (fun w' hcw => ?_) ?_; rotate_left; ((try dsimp only at hcw); have hbc := hcw.cells; go_simp; first | done | with_reducible rfl); simp only [sq1, sq2, sq3])
    (refine rgT (i := 4) (v := ?_) rfl rfl (by kernel_rfl) (by kernel_rfl) (by kernel_rfl) (by rfl) (fun w' hcw => ?_) ?_; rotate_left; ((try dsimp only at hcw); have hbc := hcw.cells; go_simp; first | done | with_reducible rfl); simp only [sq1, sq2, sq3])
    (refine rgT (i := 5) (v := ?_) rfl rfl (by kernel_rfl) (by kernel_rfl) (by kernel_rfl) (by rfl) (fun w' hcw => ?_) ?_; rotate_left; ((try dsimp only at hcw); have hbc := hcw.cells; go_simp; first | done | with_reducible rfl); simp only [sq1, sq2, sq3])
    refine rgK_one (i := 6) (by kernel_rfl) rfl rfl (fun u1 hc1 he1 K hK => ?_)
    go_simp
    refine (TurnTiling_s W A n c D k cd rows l m _ ((HR.out.below HB1.out).below hc1) HL.out ((HRI.out.below HB1.out).below hc1) HLI.out HX.out hk).mono ?_
    rw [HTO.out]
    rintro e v1 ⟨X, qx, cx, rfl, hoX, hbX⟩
    refine hK _ _ (bel_trans hc1 hbX) ?_
    clear hK K hoX
    (refine rgT (i := 7) (v := ?_) rfl rfl (by kernel_rfl) (by kernel_rfl) (by kernel_rfl) (by rfl) (fun w' hcw => ?_) ?_; rotate_left; ((try dsimp only at hcw); have hbc := hcw.cells; go_simp; first | done | with_reducible rfl); simp only [sq1, sq2, sq3])
    (refine rgT (i := 8) (v := ?_) rfl rfl (by kernel_rfl) (by kernel_rfl) (by kernel_rfl) (by rfl) (fun w' hcw => ?_) ?_; rotate_left; ((try dsimp only at hcw); have hbc := hcw.cells; go_simp; first | done | with_reducible rfl); simp only [sq1, sq2, sq3])
    (refine rgT (i := 9) (v := ?_) rfl rfl (by kernel_rfl) (by kernel_rfl) (by kernel_rfl) (by rfl) (fun w' hcw => ?_) ?_; rotate_left; ((try dsimp only at hcw); have hbc := hcw.cells; go_simp; first | done | with_reducible rfl); simp only [sq1, sq2, sq3])
    (refine rgT (i := 10) (v := ?_) rfl rfl (by kernel_rfl) (by kernel_rfl) (by kernel_rfl) (by rfl) (fun w' hcw => ?_) ?_; rotate_left; ((try dsimp only at hcw); have hbc := hcw.cells; go_simp; first | done | with_reducible rfl); simp only [sq1, sq2, sq3])
    (refine rgT (i := 11) (v := ?_) rfl rfl (by kernel_rfl) (by kernel_rfl) (by kernel_rfl) (by rfl) (fun w' hcw => ?_) ?_; rotate_left; ((try dsimp only at hcw); have hbc := hcw.cells; go_simp; first | done | with_reducible rfl); simp only [sq1, sq2, sq3])
    refine ⟨by kernel_rfl, fun wz hcz hez => NoPanic.normal ?_⟩
    have hbz := bel_trans HB1.out hcz
    have HBZ := Lib.hid (bel_alloc hbz (.cells #[] 3))
    have HOZ := Lib.hid (own_blk (cs := #[]) (Blk.new wz 3 #[]) (base := w.heap.size) (size := 1) (n := 0) rfl hbz.size (Nat.zero_le _))
    clear hbz hcz hez
    go_wp2_with fail
    go_ret2
    exact ⟨_, _, _, by rw [HO.out]; rfl, by rw [HV.out]; exact HOZ.out, HBZ.out⟩
   ·have hi1 : ¬ (0 : Int) < (q : Int) := by omega
    go_wp2_with fail
    go_ret2
    exact ⟨_, _, _, by rw [HO.out]; rfl, by rw [HV.out]; exact HO1.out, HB1.out⟩
 | true =>
  obtain ⟨T, hT0⟩ : ∃ T, M.map (ttV W rows l) = T := ⟨_, rfl⟩
  have HV : Hid (canV W rows l = (canL T).getD []) := by show _ = _; unfold canV; rw [HOK.out, hM, hT0]; rfl
  have HO : Hid (canOk W rows l = decide (M ≠ [])) := by show _ = _; unfold canOk; rw [HOK.out, hM]; rfl
  have HTM : Hid (T.length = M.length) := by show _ = _; rw [← hT0, List.length_map]
  have HTA : Hid (∀ i (h : i < T.length) (h2 : i < M.length), T[i] = ttV W rows l M[i]) := fun i h h2 => by subst hT0; simp
  have HMM := Lib.hid hMm
  have HMV := Lib.hid hM
  clear hok hMm hM hT0
  go_enter Tryz.func10, Tryz.ntmps10
  go_wp2_with fail
  refine (RegionMotions_s W A n c rows _ HR0.out HL.out).mono ?_
  rw [HMV.out]
  rintro e w1 ⟨G, q, cq, rfl, hoG, hb1⟩
  have HQ := Lib.hid (by have := own_len hoG; rw [vI_length] at this; omega : M.length = q)
  have hq8 : q ≤ 8 := by have h1 := HQ.out; have h2 := HMV.out; rw [h2] at hml; omega
  have HRG := Lib.hid (Rd.of_own hoG)
  have HBX := Lib.hid (HB0.out.below hb1)
  have HB1 := Lib.hid (bel_trans HBE0.out hb1)
  have HO1 := Lib.hid (own_keep HO0.out hb1)
  clear hoG hb1
  go_wp2_with fail
  go_loopw [9, 6, 7] (fun e9 e6 e7 wr => ∃ (i : Nat) (Z : Option Addr) (z cz : Nat), i ≤ q ∧ e9 = .int .i64 i ∧ e6 = .slice Z z cz ∧ e7 = .bool (canL (T.take i)).isSome ∧ wr.ownsRow w.heap.size 3 1 (.slice Z z cz) z (vI ((canL (T.take i)).getD [])) ∧ z ≤ k ∧ Below w1.heap.size w1 wr) (fun e9 _ _ _ => q - (intOf e9).toNat)
  case atStart => exact ⟨0, some ⟨w.heap.size + 1, 0, none⟩, 0, 0, Nat.zero_le _, rfl, by simp, rfl, HO1.out, Nat.zero_le _, Below.refl _ _⟩
  case round =>
   obtain ⟨i, Z, z, cz, hiq, rfl, rfl, rfl, hown, hzk, hb⟩ := hrel
   have HOW := Lib.hid hown
   have HB := Lib.hid hb
   have hbx := HBX.out.below hb
   have b0 : wr.cell? ⟨w.heap.size, 0, none⟩ = some (.int .i64 W) := by simpa using hbx.cell 0
   have b1 : wr.cell? ⟨w.heap.size, 1, none⟩ = some (.slice A n c) := by simpa using hbx.cell 1
   have bl := hbx.lt
   clear hown hb hbx
   by_cases hlt : i < q
   ·have hi0 : (0 : Int) ≤ (i : Int) := by omega
    have hi1 : (i : Int) < (q : Int) := by omega
    have hil : i < M.length := by rw [HQ.out]; exact hlt
    have hit : i < T.length := by rw [HTM.out]; exact hil
    obtain ⟨gg, off, hA, hgg, d1⟩ := RdI.at_ (HRG.out.below HB.out) hil
    have hta := HTA.out i hit hil
    have htk := canL_take hit
    obtain ⟨m, hm⟩ : ∃ m, M[i] = m := ⟨_, rfl⟩
    have hmm := HMM.out m (by rw [← hm]; exact List.getElem_mem hil)
    rw [hm] at d1 hta
    rw [hta] at htk
    obtain ⟨t, ht⟩ : ∃ t, ttV W rows l m = t := ⟨_, rfl⟩
    rw [ht] at htk
    have HTV := Lib.hid ht
    have HTO := Lib.hid hmm
    have HTK := Lib.hid htk
    clear hm hmm hil hit hta htk ht
    subst hA
    go_wp2_with fail
    refine wp_region_rg 12 rfl (by kernel_rfl) ?_
    (refine rgT (i := 0) (v := ?_) rfl rfl (by kernel_rfl) (by kernel_rfl) (by kernel_rfl) (by rfl) (fun w' hcw => ?_) ?_; rotate_left; ((try dsimp only at hcw); have hbc := hcw.cells; go_simp; first | done | with_reducible rfl); simp only [sq1, sq2, sq3])
    (refine rgT (i := 1) (v := ?_) rfl rfl (by kernel_rfl) (by kernel_rfl) (by kernel_rfl) (by rfl) (fun w' hcw => ?_) ?_; rotate_left; ((try dsimp only at hcw); have hbc := hcw.cells; go_simp; first | done | with_reducible rfl); simp only [sq1, sq2, sq3])
    (refine rgT (i := 2) (v := ?_) rfl rfl (by kernel_rfl) (by kernel_rfl) (by kernel_rfl) (by rfl) (fun w' hcw => ?_) ?_; rotate_left; ((try dsimp only at hcw); have hbc := hcw.cells; go_simp; first | done | with_reducible rfl); simp only [sq1, sq2, sq3])
    (refine rgT (i := 3) (v := ?_) rfl rfl (by kernel_rfl) (by kernel_rfl) (by kernel_rfl) (by rfl) (fun w' hcw => ?_) ?_; rotate_left; ((try dsimp only at hcw); have hbc := hcw.cells; go_simp; first | done | with_reducible rfl); simp only [sq1, sq2, sq3])
    (refine rgT (i := 4) (v := ?_) rfl rfl (by kernel_rfl) (by kernel_rfl) (by kernel_rfl) (by rfl) (fun w' hcw => ?_) ?_; rotate_left; ((try dsimp only at hcw); have hbc := hcw.cells; go_simp; first | done | with_reducible rfl); simp only [sq1, sq2, sq3])
    (refine rgT (i := 5) (v := ?_) rfl rfl (by kernel_rfl) (by kernel_rfl) (by kernel_rfl) (by rfl) (fun w' hcw => ?_) ?_; rotate_left; ((try dsimp only at hcw); have hbc := hcw.cells; go_simp; first | done | with_reducible rfl); simp only [sq1, sq2, sq3])
    refine rgK_one (i := 6) (by kernel_rfl) rfl rfl (fun u1 hc1 he1 K hK => ?_)
    go_simp
    refine (TurnTiling_s W A n c D k cd rows l m _ (((HR.out.below HB1.out).below HB.out).below hc1) HL.out (((HRI.out.below HB1.out).below HB.out).below hc1) HLI.out HX.out hk).mono ?_
    rw [HTO.out, HTV.out]
    rintro e v1 ⟨X, qx, cx, rfl, hoX, hbX⟩
    refine hK _ _ (bel_trans hc1 hbX) ?_
    clear hK K
    (refine rgT (i := 7) (v := ?_) rfl rfl (by kernel_rfl) (by kernel_rfl) (by kernel_rfl) (by rfl) (fun w' hcw => ?_) ?_; rotate_left; ((try dsimp only at hcw); have hbc := hcw.cells; go_simp; first | done | with_reducible rfl); simp only [sq1, sq2, sq3])
    (refine rgT (i := 8) (v := ?_) rfl rfl (by kernel_rfl) (by kernel_rfl) (by kernel_rfl) (by rfl) (fun w' hcw => ?_) ?_; rotate_left; ((try dsimp only at hcw); have hbc := hcw.cells; go_simp; first | done | with_reducible rfl); simp only [sq1, sq2, sq3])
    (refine rgT (i := 9) (v := ?_) rfl rfl (by kernel_rfl) (by kernel_rfl) (by kernel_rfl) (by rfl) (fun w' hcw => ?_) ?_; rotate_left; ((try dsimp only at hcw); have hbc := hcw.cells; go_simp; first | done | with_reducible rfl); simp only [sq1, sq2, sq3])
    (refine rgT (i := 10) (v := ?_) rfl rfl (by kernel_rfl) (by kernel_rfl) (by kernel_rfl) (by rfl) (fun w' hcw => ?_) ?_; rotate_left; ((try dsimp only at hcw); have hbc := hcw.cells; go_simp; first | done | with_reducible rfl); simp only [sq1, sq2, sq3])
    (refine rgT (i := 11) (v := ?_) rfl rfl (by kernel_rfl) (by kernel_rfl) (by kernel_rfl) (by rfl) (fun w' hcw => ?_) ?_; rotate_left; ((try dsimp only at hcw); have hbc := hcw.cells; go_simp; first | done | with_reducible rfl); simp only [sq1, sq2, sq3])
    refine ⟨by kernel_rfl, fun wz hcz hez => NoPanic.normal ?_⟩
    have htq : t.length = qx := by have := own_len hoX; rw [vI_length] at this; omega
    have hqk : qx ≤ k := by have := hTl.out m; rw [HTV.out] at this; omega
    have HTQ := Lib.hid htq
    have HOX := Lib.hid (own_base (own_keep hoX hez) (by have h1 := hc1.size; have h2 := HB.out.size; have h3 := HB1.out.size; omega : w.heap.size ≤ _))
    have HBZ := Lib.hid (bel_trans HB.out hcz)
    have HOW2 := Lib.hid (own_keep HOW.out hcz)
    clear hcz hez hc1 he1 hoX hbX htq d1 b0 b1 bl
    cases hcl : canL (T.take i) with
    | none =>
     have HN : Hid (canL (T.take (i + 1)) = some t) := by show _ = _; rw [HTK.out, hcl]; rfl
     rw [show (none : Option (List Int)).isSome = false from rfl]
     clear hcl
     go_wp2_with fail
     exact ⟨⟨i + 1, X, qx, cx, by omega, by go_num, rfl, by rw [HN.out]; rfl, by rw [HN.out]; exact HOX.out, hqk, HBZ.out⟩, by simp [intOf]; omega⟩
    | some b =>
     have hbz : b.length = z := by have h := HOW.out; rw [hcl] at h; have h2 := own_len h; rw [vI_length] at h2; simp only [Option.getD_some, Nat.mul_one] at h2; exact h2
     have hrb := Rd.of_own HOW2.out
     rw [hcl] at hrb
     have HBL := Lib.hid hbz
     have HRB : Hid (Rd wz Z (vI b)) := hrb
     have HLX := Lib.hid (l23Less_s X Z qx cx z cz t b wz (Rd.of_own HOX.out) HTQ.out HRB.out HBL.out (by omega) (by omega))
     have HN : Hid (canL (T.take (i + 1)) = some (if lxI t b then t else b)) := by show _ = _; rw [HTK.out, hcl]; rfl
     have HCL := Lib.hid hcl
     rw [show (some b : Option (List Int)).isSome = true from rfl]
     clear hcl hbz hrb
     cases hlx : lxI t b with
     | true =>
      rw [hlx] at HLX HN
      have HN2 : Hid (canL (T.take (i + 1)) = some t) := HN.out
      clear HN
      go_wp2_with fail
      refine HLX.out.mono ?_
      rintro e w7 ⟨rfl, hb7⟩
      go_wp2_with fail
      exact ⟨⟨i + 1, X, qx, cx, by omega, by go_num, rfl, by rw [HN2.out]; rfl, by rw [HN2.out]; exact own_keep HOX.out hb7, hqk, bel_trans HBZ.out hb7⟩, by simp [intOf]; omega⟩
     | false =>
      rw [hlx] at HLX HN
      have HN2 : Hid (canL (T.take (i + 1)) = some b) := HN.out
      have HOB : Hid (wz.ownsRow w.heap.size 3 1 (.slice Z z cz) z (vI b)) := by have h := HOW2.out; rw [HCL.out] at h; exact h
      clear HN
      go_wp2_with fail
      refine HLX.out.mono ?_
      rintro e w7 ⟨rfl, hb7⟩
      go_wp2_with fail
      exact ⟨⟨i + 1, Z, z, cz, by omega, by go_num, rfl, by rw [HN2.out]; rfl, by rw [HN2.out]; exact own_keep HOB.out hb7, hzk, bel_trans HBZ.out hb7⟩, by simp [intOf]; omega⟩
   ·obtain rfl : i = q := by omega
    have hi1 : ¬ (i : Int) < (i : Int) := by omega
    have HTL : Hid (T.take i = T) := List.take_of_length_le (by rw [HTM.out, HQ.out]; exact Nat.le_refl _)
    have hown := HOW.out
    have hfo : (canL (T.take i)).isSome = decide (M ≠ []) := by
     by_cases h0 : i = 0
     ·rw [h0, decide_eq_false (by intro h; exact h (List.eq_nil_of_length_eq_zero (by rw [HQ.out, h0])))]; rfl
     ·obtain ⟨j, hj⟩ : ∃ j, i = j + 1 := ⟨i - 1, by omega⟩
      rw [hj, canL_some (by rw [HTM.out, HQ.out]; omega), decide_eq_true (by intro h; rw [h] at HQ; have h3 := HQ.out; simp at h3; omega)]
    rw [HTL.out] at hown
    have HOWE := Lib.hid hown
    have HFO := Lib.hid hfo
    clear hown hfo
    go_wp2_with fail
    go_ret2
    exact ⟨_, _, _, by rw [HO.out, ← HFO.out]; rfl, by rw [HV.out]; exact HOWE.out, bel_trans HB1.out HB.out⟩
end

section
attribute [local go_sem ↓] Go.wp_at_zero Go.wp_at_succ
structure FmI (base : Nat) (w : World) (B : Option Addr) (q cB : Nat) (hs : List H) (F : List (List Int)) : Prop where
 own : w.ownsRow base 24 1 (.slice B q cB) q (vS hs)
 len : hs.length = F.length
 row : ∀ k (a : k < hs.length) (b : k < F.length), F[k].length = hs[k].2.1 ∧ F[k].length ≤ 36 ∧ Rd w hs[k].1 (vI F[k])
 off : ∀ k (a : k < hs.length) (b : k < F.length), 0 < F[k].length → ∀ g, ob hs[k].1 = some g → ob B ≠ some g
section
variable {base : Nat} {w w' : World} {B : Option Addr} {q cB : Nat} {hs : List H} {F : List (List Int)}
theorem rdI_len {f : List Int} {A : Option Addr} (h : Rd w A (vI f)) (h0 : 0 < f.length) : ∀ g, ob A = some g → g < w.heap.size := fun g e => by
 obtain ⟨g1, o1, rfl, hg, _⟩ := RdI.at_ h h0
 simp only [ob, Option.map_some, Option.some.injEq] at e
 omega
theorem FmI.qlen (h : FmI base w B q cB hs F) : hs.length = q := by have := own_len h.own; rw [vS_length] at this; omega
theorem FmI.flen (h : FmI base w B q cB hs F) : F.length = q := by rw [← h.len, h.qlen]
theorem FmI.below (h : FmI base w B q cB hs F) (hb : Below w.heap.size w w') : FmI base w' B q cB hs F :=
 ⟨own_keep h.own hb, h.len, fun k a b => ⟨(h.row k a b).1, (h.row k a b).2.1, (h.row k a b).2.2.below hb⟩, h.off⟩
theorem FmI.nil (h : w.ownsRow base 24 1 (.slice B 0 cB) 0 []) : FmI base w B 0 cB [] [] :=
 ⟨h, rfl, fun k a => (Nat.not_lt_zero k a).elim, fun k a => (Nat.not_lt_zero k a).elim⟩
theorem FmI.at_ (h : FmI base w B q cB hs F) {k : Nat} (a : k < q) : ∃ (D : Option Addr) (m c : Nat) (f : List Int) (g off : Nat), F[k]? = some f ∧ B = some ⟨g, off, none⟩ ∧ g < w.heap.size ∧ w.cell? ⟨g, off + k, none⟩ = some (.slice D m c) ∧ f.length = m ∧ m ≤ 36 ∧ Rd w D (vI f) := by
 have a1 : k < hs.length := by rw [h.qlen]; exact a
 have a2 : k < F.length := by rw [h.flen]; exact a
 obtain ⟨g, off, e, hg, c1⟩ := RdS.at_ (Rd.of_own h.own) a1
 obtain ⟨r1, r2, r3⟩ := h.row k a1 a2
 exact ⟨hs[k].1, hs[k].2.1, hs[k].2.2, F[k], g, off, List.getElem?_eq_getElem a2, e, hg, c1, r1, by omega, r3⟩
theorem FmI.push {D : Option Addr} {k cD : Nat} {xs : List Int} {B' : Option Addr} {c' : Nat} {w2 : World} (h : FmI base w B q cB hs F) (hr : Rd w D (vI xs)) (hl : xs.length = k) (hk : k ≤ 36) (hD : ∀ b, ob D = some b → ob B ≠ some b)
  (ho : w2.ownsRow base 24 1 (.slice B' (q + 1) c') (q + 1) (vS (hs ++ [(D, k, cD)]))) (hg : w.grownBy w2 (ob B)) (ha : ob B' = ob B ∨ ∀ g, ob B' = some g → w.heap.size ≤ g) : FmI base w2 B' (q + 1) c' (hs ++ [(D, k, cD)]) (F ++ [xs]) := by
 have hlen : (hs ++ [(D, k, cD)]).length = (F ++ [xs]).length := by simp [h.len]
 have hrow : ∀ j (a : j < (hs ++ [(D, k, cD)]).length) (b : j < (F ++ [xs]).length), (F ++ [xs])[j].length = (hs ++ [(D, k, cD)])[j].2.1 ∧ (F ++ [xs])[j].length ≤ 36 ∧ Rd w (hs ++ [(D, k, cD)])[j].1 (vI (F ++ [xs])[j]) ∧ (0 < (F ++ [xs])[j].length → ∀ g, ob (hs ++ [(D, k, cD)])[j].1 = some g → ob B ≠ some g) := fun j a b => by
  by_cases hj : j < hs.length
  ·have hj2 : j < F.length := h.len ▸ hj
   simp only [List.getElem_append_left hj, List.getElem_append_left hj2]
   exact ⟨(h.row j hj hj2).1, (h.row j hj hj2).2.1, (h.row j hj hj2).2.2, h.off j hj hj2⟩
  ·have e : j = hs.length := by simp at a; omega
   subst e
   have e3 : (hs ++ [((D, k, cD) : H)])[hs.length]'a = (D, k, cD) := by simp
   have e4 : (F ++ [xs])[hs.length]'b = xs := by rw [List.getElem_append_right (Nat.le_of_eq h.len.symm)]; simp
   rw [e3, e4]
   exact ⟨hl, by omega, hr, fun _ g e => hD g e⟩
 refine ⟨ho, hlen, fun j a b => ?_, fun j a b h0 g e r => ?_⟩
 ·obtain ⟨h1, h2, h3, h4⟩ := hrow j a b
  refine ⟨h1, h2, ?_⟩
  by_cases h0 : 0 < (F ++ [xs])[j].length
  ·exact h3.grown hg (fun g e r => h4 h0 g e r.symm)
  ·left
   rw [List.eq_nil_of_length_eq_zero (by omega : (F ++ [xs])[j].length = 0)]
   rfl
 ·obtain ⟨h1, h2, h3, h4⟩ := hrow j a b
  rcases ha with ha | ha
  ·rw [ha] at r
   exact h4 h0 g e r
  ·have h5 := ha g r
   have h6 := rdI_len h3 h0 g e
   omega
end
theorem has_succ {F : List (List Int)} {f x : List Int} {j : Nat} (h : F[j]? = some x) : (decide (f ∈ F.take j) || decide (x = f)) = decide (f ∈ F.take (j + 1)) := by
 obtain ⟨hj, rfl⟩ := List.getElem?_eq_some_iff.1 h
 rw [List.take_succ_eq_append_getElem hj, ← Bool.decide_or]
 refine decide_eq_decide.2 ?_
 rw [List.mem_append, List.mem_singleton]
 constructor
 ·rintro (h | h)
  ·exact .inl h
  ·exact .inr h.symm
 ·rintro (h | h)
  ·exact .inl h
  ·exact .inr h.symm
noncomputable def orbOut : Code := ((Tryz.f3.body.map loopsIn).getD []).getD 0 .skip
theorem orbLoop {Q : Exit → Act → World → Prop} {s0 s1 s2 s3 s4 s5 s6 s7 s8 s9 s10 s11 s12 s13 s14 s15 s18 s22 s23 s24 s25 s26 s27 s28 s29 s30 s31 s32 s33 s34 s35 s36 s37 s38 s39 s40 s41 s42 s43 s44 s45 s46 s47 s48 s49 s50 s51 s52 s53 s54 s55 s56 s57 s58 s59 s60 s61 s62 s63 s64 s65 s66 s67 s68 s69 s70 s71 s72 s73 s74 s75 s76 s77 s78 s79 s80 s81 s82 s83 s84 s85 s86 s87 s88 s89 s90 s91 s92 s93 s94 s95 s96 s97 s98 s99 s100 s101 s102 s103 s104 s105 s106 s107 s108 s109 s110 s111 s112 s113 s114 s115 s116 s117 s118 s119 s120 s121 s122 s123 s124 s125 s126 s127 s128 s129 s130 s131 s132 s133 s134 s135 s136 s137 s138 s139 s140 s141 s142 s143 s144 s145 s146 s147 s148 s149 s150 s151 s152 s153 s154 s155 s156 s157 s158 s159 s160 s161 s162 s163 s164 s165 s166 s167 s168 s169 s170 s171 s172 s173 s174 s175 s176 s177 s178 s179 s180 s181 s182 s183 s184 s185 s186 s187 s188 s189 s190 s191 s192 s193 s194 s195 s196 s197 s198 s199 s200 s201 s202 s203 s204 s205 s206 s207 s208 s209 s210 s211 s212 s213 s214 s215 s216 s217 s218 s219 s220 s221 s222 s223 s224 s225 s226 s227 s228 s229 s230 s231 s232 s233 s234 s235 s236 s237 s238 s239 : Value} {W : Int} {D B B0 : Option Addr} {k cD q cB c0 gr K : Nat} {rows : List Int} {hs : List H} {P : List (List C)} {w w0 : World}
  (hN : Blk w gr 26 #[.int .i64 W, .slice D k cD]) (hr : Rd w D (vI rows)) (hl : rows.length = k) (hp : RdP w B q hs P) (hq : q ≤ 1048576) (hm : totC P ≤ 1048576) (hv : isReg W rows = true) (hpc : pcs P = true)
  (hK : (tilA W rows P).length = K) (hK40 : K ≤ 40) (hI : FmI w.heap.size w0 B0 0 c0 [] []) (hb0 : Below w.heap.size w w0)
  (hexit : ∀ (v22 v23 v24 v25 v26 v27 v141 v142 v143 v144 v145 v146 v147 v148 v149 v150 v151 v152 v153 v154 v155 v156 v157 v158 v159 v160 v161 v162 v163 v164 v165 v166 v167 v168 v169 v170 v171 v172 v173 v174 v175 v176 v177 v178 v179 : Value) (B1 : Option Addr) (q1 c1 : Nat) (w3 : World), (frm W rows P K).length = q1 → Below w.heap.size w w3 → Q (.exit 0) ⟨List.toArray (s0 :: s1 :: s2 :: s3 :: s4 :: s5 :: s6 :: s7 :: s8 :: s9 :: s10 :: s11 :: s12 :: s13 :: s14 :: s15 :: (.pointer (some ⟨gr, 0, none⟩)) :: (.slice B q cB) :: s18 :: (.int .i64 (K : Int)) :: (.slice B1 q1 c1) :: (.int .i64 (K : Int)) :: v22 :: v23 :: v24 :: v25 :: v26 :: v27 :: s28 :: s29 :: s30 :: s31 :: s32 :: s33 :: s34 :: s35 :: s36 :: s37 :: s38 :: s39 :: s40 :: s41 :: s42 :: s43 :: s44 :: s45 :: s46 :: s47 :: s48 :: s49 :: s50 :: s51 :: s52 :: s53 :: s54 :: s55 :: s56 :: s57 :: s58 :: s59 :: s60 :: s61 :: s62 :: s63 :: s64 :: s65 :: s66 :: s67 :: s68 :: s69 :: s70 :: s71 :: s72 :: s73 :: s74 :: s75 :: s76 :: s77 :: s78 :: s79 :: s80 :: s81 :: s82 :: s83 :: s84 :: s85 :: s86 :: s87 :: s88 :: s89 :: s90 :: s91 :: s92 :: s93 :: s94 :: s95 :: s96 :: s97 :: s98 :: s99 :: s100 :: s101 :: s102 :: s103 :: s104 :: s105 :: s106 :: s107 :: s108 :: s109 :: s110 :: s111 :: s112 :: s113 :: s114 :: s115 :: s116 :: s117 :: s118 :: s119 :: s120 :: s121 :: s122 :: s123 :: s124 :: s125 :: s126 :: s127 :: s128 :: s129 :: s130 :: s131 :: s132 :: s133 :: s134 :: s135 :: s136 :: s137 :: s138 :: s139 :: s140 :: v141 :: v142 :: v143 :: v144 :: v145 :: v146 :: v147 :: v148 :: v149 :: v150 :: v151 :: v152 :: v153 :: v154 :: v155 :: v156 :: v157 :: v158 :: v159 :: v160 :: v161 :: v162 :: v163 :: v164 :: v165 :: v166 :: v167 :: v168 :: v169 :: v170 :: v171 :: v172 :: v173 :: v174 :: v175 :: v176 :: v177 :: v178 :: v179 :: s180 :: s181 :: s182 :: s183 :: s184 :: s185 :: s186 :: s187 :: s188 :: s189 :: s190 :: s191 :: s192 :: s193 :: s194 :: s195 :: s196 :: s197 :: s198 :: s199 :: s200 :: s201 :: s202 :: s203 :: s204 :: s205 :: s206 :: s207 :: s208 :: s209 :: s210 :: s211 :: s212 :: s213 :: s214 :: s215 :: s216 :: s217 :: s218 :: s219 :: s220 :: s221 :: s222 :: s223 :: s224 :: s225 :: s226 :: s227 :: s228 :: s229 :: s230 :: s231 :: s232 :: s233 :: s234 :: s235 :: s236 :: s237 :: s238 :: s239 :: []), []⟩ w3) :
  Code.wp Tryz.prog (Code.loop orbOut) Q ⟨List.toArray (s0 :: s1 :: s2 :: s3 :: s4 :: s5 :: s6 :: s7 :: s8 :: s9 :: s10 :: s11 :: s12 :: s13 :: s14 :: s15 :: (.pointer (some ⟨gr, 0, none⟩)) :: (.slice B q cB) :: s18 :: (.int .i64 (K : Int)) :: (.slice B0 0 c0) :: (.int .i64 0) :: s22 :: s23 :: s24 :: s25 :: s26 :: s27 :: s28 :: s29 :: s30 :: s31 :: s32 :: s33 :: s34 :: s35 :: s36 :: s37 :: s38 :: s39 :: s40 :: s41 :: s42 :: s43 :: s44 :: s45 :: s46 :: s47 :: s48 :: s49 :: s50 :: s51 :: s52 :: s53 :: s54 :: s55 :: s56 :: s57 :: s58 :: s59 :: s60 :: s61 :: s62 :: s63 :: s64 :: s65 :: s66 :: s67 :: s68 :: s69 :: s70 :: s71 :: s72 :: s73 :: s74 :: s75 :: s76 :: s77 :: s78 :: s79 :: s80 :: s81 :: s82 :: s83 :: s84 :: s85 :: s86 :: s87 :: s88 :: s89 :: s90 :: s91 :: s92 :: s93 :: s94 :: s95 :: s96 :: s97 :: s98 :: s99 :: s100 :: s101 :: s102 :: s103 :: s104 :: s105 :: s106 :: s107 :: s108 :: s109 :: s110 :: s111 :: s112 :: s113 :: s114 :: s115 :: s116 :: s117 :: s118 :: s119 :: s120 :: s121 :: s122 :: s123 :: s124 :: s125 :: s126 :: s127 :: s128 :: s129 :: s130 :: s131 :: s132 :: s133 :: s134 :: s135 :: s136 :: s137 :: s138 :: s139 :: s140 :: s141 :: s142 :: s143 :: s144 :: s145 :: s146 :: s147 :: s148 :: s149 :: s150 :: s151 :: s152 :: s153 :: s154 :: s155 :: s156 :: s157 :: s158 :: s159 :: s160 :: s161 :: s162 :: s163 :: s164 :: s165 :: s166 :: s167 :: s168 :: s169 :: s170 :: s171 :: s172 :: s173 :: s174 :: s175 :: s176 :: s177 :: s178 :: s179 :: s180 :: s181 :: s182 :: s183 :: s184 :: s185 :: s186 :: s187 :: s188 :: s189 :: s190 :: s191 :: s192 :: s193 :: s194 :: s195 :: s196 :: s197 :: s198 :: s199 :: s200 :: s201 :: s202 :: s203 :: s204 :: s205 :: s206 :: s207 :: s208 :: s209 :: s210 :: s211 :: s212 :: s213 :: s214 :: s215 :: s216 :: s217 :: s218 :: s219 :: s220 :: s221 :: s222 :: s223 :: s224 :: s225 :: s226 :: s227 :: s228 :: s229 :: s230 :: s231 :: s232 :: s233 :: s234 :: s235 :: s236 :: s237 :: s238 :: s239 :: []), []⟩ w0 := by
 have HN := Lib.hid hN
 have HR := Lib.hid hr
 have HL := Lib.hid hl
 have HP := Lib.hid hp
 have HV := Lib.hid hv
 have HPC := Lib.hid hpc
 have HK := Lib.hid hK
 have HI0 := Lib.hid hI
 have HX := Lib.hid @hexit
 clear hN hr hl hp hv hpc hK hI hexit
 conv => arg 2; arg 1; whnf
 go_loopw [21, 20] (fun e21 e20 wr => ∃ (i q1 cq : Nat) (B1 : Option Addr) (ho : List H), i ≤ K ∧ e21 = .int .i64 i ∧ e20 = .slice B1 q1 cq ∧ FmI w.heap.size wr B1 q1 cq ho (frm W rows P i) ∧ Below w.heap.size w wr) (fun e21 _ _ => K - (intOf e21).toNat)
 case atStart => exact ⟨0, 0, c0, B0, [], Nat.zero_le _, rfl, rfl, HI0.out, hb0⟩
 case round =>
  clear HI0
  obtain ⟨i, q1, cq, B1, ho, hi, rfl, rfl, hO, hb⟩ := hrel
  have hq1 : q1 ≤ 40 := by have h1 := hO.flen; have h2 := frm_le W rows P i; omega
  have HO := Lib.hid hO
  have HB := Lib.hid hb
  have hN := HN.out.below hb
  have c0 : wr.cell? ⟨gr, 0, none⟩ = some (.int .i64 W) := by simpa using hN.cell 0
  have c1 : wr.cell? ⟨gr, 1, none⟩ = some (.slice D k cD) := by simpa using hN.cell 1
  have cl := hN.lt
  clear hO hb hb0 hN
  by_cases hlt : i < K
  ·have hi1 : (i : Int) < (K : Int) := by omega
   have hil : i < (tilA W rows P).length := by rw [HK.out]; exact hlt
   obtain ⟨t, ht⟩ : ∃ t, (tilA W rows P)[i]? = some t := ⟨_, List.getElem?_eq_getElem hil⟩
   obtain ⟨ht36, ht63⟩ := til_len36 (List.mem_of_getElem? ht) HV.out
   have hst := frm_step ht
   have HT := Lib.hid ht
   have HST := Lib.hid hst
   have HT63 := Lib.hid ht63
   clear ht hst hil ht63
   go_wp2_with fail
   refine (TilingNumber_s W D B k cD q cB rows hs P wr (HR.out.below HB.out) HL.out (HP.out.below HB.out) hq hm i t (by omega) HT.out HV.out HPC.out).mono ?_
   rintro e w1 ⟨D5, k5, c5, rfl, hr5, hl5, hb5, _⟩
   have HR5 := Lib.hid hr5
   have HL5 := Lib.hid hl5
   have HB5 := Lib.hid (bel_trans HB.out hb5)
   have HO5 := Lib.hid (HO.out.below hb5)
   have hN := HN.out.below HB5.out
   clear c0 c1 cl
   have c0 : w1.cell? ⟨gr, 0, none⟩ = some (.int .i64 W) := by simpa using hN.cell 0
   have c1 : w1.cell? ⟨gr, 1, none⟩ = some (.slice D k cD) := by simpa using hN.cell 1
   have cl := hN.lt
   have hk5 : k5 ≤ 36 := by omega
   clear hr5 hl5 hb5 hN HO HB ht36
   go_wp2_with fail
   refine (CanonicalTiling_s W D k cD D5 k5 c5 rows t w1 (HR.out.below HB5.out) HL.out HR5.out HL5.out HT63.out (by omega)).mono ?_
   have hcl := canV_len W rows t
   obtain ⟨ok, hok⟩ : ∃ ok, canOk W rows t = ok := ⟨_, rfl⟩
   obtain ⟨f, hf⟩ : ∃ f, canV W rows t = f := ⟨_, rfl⟩
   rw [hf] at HST hcl
   rw [hok, hf]
   rintro e w2 ⟨E, n6, c6, rfl, ho6, hb6⟩
   have hn6 : f.length = n6 := by have h := own_len ho6; rw [vI_length] at h; omega
   have hn636 : n6 ≤ 36 := by have := HL5.out; omega
   have hE : ∀ b, ob E = some b → ob B1 ≠ some b := fun b e r => by
    have h1 := (own_lt ho6 b e).1
    have h2 := (own_lt HO5.out.own b r).2
    omega
   have HE := Lib.hid hE
   have HF6 := Lib.hid (Rd.of_own ho6)
   have HN6 := Lib.hid hn6
   have HB6 := Lib.hid (bel_trans HB5.out hb6)
   have HO6 := Lib.hid (HO5.out.below hb6)
   clear hok hf hcl ho6 hb6 hn6 hE HO5 HB5 HR5 HL5 HT63 HT c0 c1 cl
   obtain ⟨F, hF⟩ : ∃ F, frm W rows P i = F := ⟨_, rfl⟩
   rw [hF] at HST HO6
   have HFE := Lib.hid hF
   clear hF
   go_wp2_with fail
   go_loopw [27, 26] (fun e27 e26 wq => ∃ j : Nat, j ≤ q1 ∧ e27 = .int .i64 j ∧ e26 = .bool (decide (f ∈ F.take j)) ∧ Below w2.heap.size w2 wq) (fun e27 _ _ => q1 - (intOf e27).toNat)
   case atStart => exact ⟨0, Nat.zero_le _, rfl, by simp, Below.refl _ _⟩
   case round =>
    obtain ⟨j, hj, rfl, rfl, hbq⟩ := hrel
    have HBQ := Lib.hid hbq
    clear hbq
    by_cases hjl : j < q1
    ·have hj0 : (0 : Int) ≤ (j : Int) := by omega
     have hj1 : (j : Int) < (q1 : Int) := by omega
     obtain ⟨Dj, mj, cj, fj, g, off, hfj, hBe, hg, d1, hlj, hm36, hrj⟩ := (HO6.out.below HBQ.out).at_ hjl
     have hhs := has_succ (f := f) hfj
     obtain ⟨b0, hb0⟩ : ∃ b0, decide (f ∈ F.take j) = b0 := ⟨_, rfl⟩
     rw [hb0] at hhs ⊢
     have HHS := Lib.hid hhs
     clear hhs hb0 hfj
     cases b0 with
     | true =>
      go_wp2_with fail
      exact ⟨⟨j + 1, by omega, by go_num, by rw [← HHS.out]; rfl, HBQ.out⟩, by simp [intOf]; omega⟩
     | false =>
      have HRJ := Lib.hid hrj
      have HLJ := Lib.hid hlj
      subst hBe
      clear hrj hlj
      go_wp2_with fail
      refine (sameInts_b Dj E mj cj n6 c6 fj f _ HRJ.out HLJ.out (HF6.out.below HBQ.out) HN6.out (by omega)).mono ?_
      rintro e w4 ⟨rfl, hb4⟩
      have HB4 := Lib.hid (bel_trans HBQ.out hb4)
      clear hb4
      go_wp2_with fail
      exact ⟨⟨j + 1, by omega, by go_num, by rw [← HHS.out]; rfl, HB4.out⟩, by simp [intOf]; omega⟩
    ·obtain rfl : j = q1 := by omega
     have hj1 : ¬ (j : Int) < (j : Int) := by omega
     have hall : F.take j = F := List.take_of_length_le (by rw [HO6.out.flen]; exact Nat.le_refl _)
     rw [hall]
     have HOq := Lib.hid (HO6.out.below HBQ.out)
     have HFq := Lib.hid (HF6.out.below HBQ.out)
     have HBq := Lib.hid (bel_trans HB6.out HBQ.out)
     clear hall HO6 HF6 HB6 HBQ
     by_cases hmem : f ∈ F
     ·have hd : decide (f ∈ F) = true := decide_eq_true hmem
      have hnx : frm W rows P (i + 1) = F := by rw [HST.out]; exact if_pos hmem
      rw [hd]
      have HNX := Lib.hid hnx
      clear hd hmem hnx
      go_wp2_with fail
      exact ⟨⟨i + 1, j, cq, B1, ho, by omega, by go_num, rfl, by rw [HNX.out]; exact HOq.out, HBq.out⟩, by simp [intOf]; omega⟩
     ·have hd : decide (f ∈ F) = false := decide_eq_false hmem
      have hnx : frm W rows P (i + 1) = F ++ [f] := by rw [HST.out]; exact if_neg hmem
      rw [hd]
      have HNX := Lib.hid hnx
      have hsz := HBq.out.size
      clear hd hmem hnx
      go_wp2_with (at_builtin; go_must (refine app_S _ rfl _ _ rfl w.heap.size _ _ _ ho rfl (HOq.out.own.alloc _) _ _ _ [(E, n6, c6)] rfl (rd_newS _ _ _) rfl (by omega) (by simp; omega) ?_); intro B4 c4 u4 ho4 hgx4 hat4; have HO4 := Lib.hid ho4; have HG4 := Lib.hid hgx4; have HAT4 := Lib.hid hat4; clear ho4 hgx4 hat4)
      have hPf := FmI.push (HOq.out.below (bel_alloc (Below.refl _ _) (.cells #[.slice E n6 c6] 24))) (HFq.out.alloc _) HN6.out hn636 HE.out HO4.out HG4.out (at_or HAT4.out (Nat.le_refl _))
      have hlo4 : ∀ b, ob B1 = some b → w.heap.size ≤ b := fun b e => (own_lt HOq.out.own b e).1
      have hbf := bel_grown (bel_alloc HBq.out (.cells #[.slice E n6 c6] 24)) HG4.out hlo4
      have HPF := Lib.hid hPf
      have HBF := Lib.hid hbf
      clear hPf hlo4 hbf
      go_wp2_with fail
      exact ⟨⟨i + 1, j + 1, c4, B4, _, by omega, by go_num, rfl, by rw [HNX.out]; exact HPF.out, HBF.out⟩, by simp [intOf]; omega⟩
  ·obtain rfl : i = K := by omega
   have hi1 : ¬ (i : Int) < (i : Int) := by omega
   have HFL := Lib.hid HO.out.flen
   go_wp2_with fail
   exact HX.out _ _ _ _ _ _ _ _ _ _ _ _ _ _ _ _ _ _ _ _ _ _ _ _ _ _ _ _ _ _ _ _ _ _ _ _ _ _ _ _ _ _ _ _ _ _ _ _ _ HFL.out HB.out
end

section
open Go.RowKit Go.Shelf
attribute [local go_sem ↓] Go.wp_at_zero Go.wp_at_succ
theorem swrT (sf : Nat) (th : Value) (base g n c B : Nat) (hsw : SwT sf th base g n c B) (a b m : Nat) (d0 : Nat → Int) (w : World) (h : SS w base g n c B d0) (ha : a + m ≤ b) (hb : b + m ≤ n) (hn : n ≤ 1099511627776) :
  Calls Tryz.prog 207 #[.agg #[.func (.func 63) #[] #[.pointer (some ⟨B, 0, none⟩)], .func (.func sf) #[] #[.slice (some ⟨g, 0, none⟩) n c, th]], .int .i64 (a : Int), .int .i64 (b : Int), .int .i64 (m : Int)] w (StP w base g n c B fun d' => d' = StM.sw d0 a b m) := by
 have hgl := h.lt.2
 have HS := Lib.hid h
 have HSW := Lib.hid hsw
 have HBB := Lib.hid (Blk.new w 120 #[.func (.func 63) #[] #[.pointer (some ⟨B, 0, none⟩)], .func (.func sf) #[] #[.slice (some ⟨g, 0, none⟩) n c, th]])
 clear hsw h
 go_enter Tryz.func207, Tryz.ntmps207
 go_wp2
 go_loopw [8] (fun e6 wr => ∃ (i : Nat), i ≤ m ∧ e6 = .int .i64 i ∧ SS wr base g n c B (StM.sw d0 a b i) ∧ (w.alloc (.cells #[.func (.func 63) #[] #[.pointer (some ⟨B, 0, none⟩)], .func (.func sf) #[] #[.slice (some ⟨g, 0, none⟩) n c, th]] 120)).grownBy wr (some g)) (fun e6 _ => m - (intOf e6).toNat)
 case atStart => exact ⟨0, Nat.zero_le _, rfl, by rw [StM.sw_zero]; exact HS.out.keep (by (repeat (first | with_reducible exact Below.refl _ _ | with_reducible assumption | with_reducible apply bel_alloc | with_reducible apply bel_drew | with_reducible apply bel_drewN | ((with_reducible refine bel_set ?_ ?_); rotate_left; (simp <;> omega)) | (with_reducible refine bel_trans ?_ (by with_reducible assumption))))), World.grownBy.refl _ _⟩
 case round =>
  obtain ⟨i, him, rfl, hown, hg⟩ := hrel
  have HOW := Lib.hid hown
  have HG := Lib.hid hg
  have hBB := HBB.out.grown HG.out (fun e => by injection e with e; omega)
  have b1 : wr.cell? ⟨w.heap.size, 1, none⟩ = some (.func (.func sf) #[] #[.slice (some ⟨g, 0, none⟩) n c, th]) := by simpa using hBB.cell 1
  have bl := hBB.lt
  clear hown hg hBB
  by_cases hlt : i < m
  ·have hiI : (i : Int) < (m : Int) := by omega
   obtain ⟨x, hx⟩ : ∃ x, a + i = x := ⟨_, rfl⟩
   obtain ⟨y, hy⟩ : ∃ y, b + i = y := ⟨_, rfl⟩
   have hxI : (a : Int) + (i : Int) = (x : Int) := by omega
   have hyI : (b : Int) + (i : Int) = (y : Int) := by omega
   have hxw : IntKind.i64.wrap (x : Int) = (x : Int) := Go.IntWalk.i64_in _ (by omega)
   have hyw : IntKind.i64.wrap (y : Int) = (y : Int) := Go.IntWalk.i64_in _ (by omega)
   obtain ⟨w2, hrun, ho2, hg2⟩ := HSW.out wr _ x y HOW.out (by omega) (by omega)
   have HO2 : Hid (SS w2 base g n c B (StM.sw d0 a b (i + 1))) := by
    rw [← StM.sw2_sw d0 a b i (by omega), hx, hy]
    exact ho2
   have HG2 := Lib.hid (hg2 _ HG.out)
   clear ho2 hg2 hx hy
   go_wp2_with fail
   exact ⟨⟨i + 1, by omega, by go_num, HO2.out, HG2.out⟩, by simp [intOf]; omega⟩
  ·obtain rfl : i = m := by omega
   have hiI : ¬ (i : Int) < (i : Int) := by omega
   go_wp2_with fail
   go_end0
   exact ⟨rfl, _, HOW.out, grown_allocT HG.out, rfl⟩
theorem rotT (sf : Nat) (th : Value) (base g n c B : Nat) (hsw : SwT sf th base g n c B) (a m b : Nat) (d0 : Nat → Int) (w : World) (h : SS w base g n c B d0) (ha : a < m) (hm : m < b) (hb : b ≤ n) (hn : n ≤ 1099511627776) :
  Calls Tryz.prog 191 #[.agg #[.func (.func 63) #[] #[.pointer (some ⟨B, 0, none⟩)], .func (.func sf) #[] #[.slice (some ⟨g, 0, none⟩) n c, th]], .int .i64 (a : Int), .int .i64 (m : Int), .int .i64 (b : Int)] w (StP w base g n c B fun d' => d' = StM.rot d0 a m b) := by
 have hgl := h.lt.2
 have HS := Lib.hid h
 have HSW := Lib.hid hsw
 have HBB := Lib.hid (Blk.new w 120 #[.func (.func 63) #[] #[.pointer (some ⟨B, 0, none⟩)], .func (.func sf) #[] #[.slice (some ⟨g, 0, none⟩) n c, th]])
 obtain ⟨i0, hi0⟩ : ∃ i0, m - a = i0 := ⟨_, rfl⟩
 obtain ⟨j0, hj0⟩ : ∃ j0, b - m = j0 := ⟨_, rfl⟩
 have hiI : (m : Int) - (a : Int) = (i0 : Int) := by omega
 have hjI : (b : Int) - (m : Int) = (j0 : Int) := by omega
 have hiw : IntKind.i64.wrap (i0 : Int) = (i0 : Int) := Go.IntWalk.i64_in _ (by omega)
 have hjw : IntKind.i64.wrap (j0 : Int) = (j0 : Int) := Go.IntWalk.i64_in _ (by omega)
 have HI := Lib.hid hi0
 have HJ := Lib.hid hj0
 clear hsw h hi0 hj0
 go_enter Tryz.func191, Tryz.ntmps191
 go_wp2_with fail
 go_loopw [8, 9] (fun e6 e7 wr => ∃ (i j : Nat) (d : Nat → Int), 0 < i ∧ 0 < j ∧ i ≤ m - a ∧ j ≤ b - m ∧ e6 = .int .i64 i ∧ e7 = .int .i64 j ∧ StM.rot d (m - i) m (m + j) = StM.rot d0 a m b ∧ SS wr base g n c B d ∧ (w.alloc (.cells #[.func (.func 63) #[] #[.pointer (some ⟨B, 0, none⟩)], .func (.func sf) #[] #[.slice (some ⟨g, 0, none⟩) n c, th]] 120)).grownBy wr (some g)) (fun e6 e7 _ => (intOf e6).toNat + (intOf e7).toNat)
 case atStart => exact ⟨i0, j0, d0, by have := HI.out; omega, by have := HJ.out; omega, by have := HI.out; omega, by have := HJ.out; omega, rfl, rfl, by rw [show m - i0 = a by have := HI.out; omega, show m + j0 = b by have := HJ.out; omega], HS.out.keep (by (repeat (first | with_reducible exact Below.refl _ _ | with_reducible assumption | with_reducible apply bel_alloc | with_reducible apply bel_drew | with_reducible apply bel_drewN | ((with_reducible refine bel_set ?_ ?_); rotate_left; (simp <;> omega)) | (with_reducible refine bel_trans ?_ (by with_reducible assumption))))), World.grownBy.refl _ _⟩
 case round =>
  clear hiI hjI hiw hjw HI HJ
  obtain ⟨i, j, d, hi, hj, hia, hjb, rfl, rfl, hrot, hown, hg⟩ := hrel
  have HR := Lib.hid hrot
  have HOW := Lib.hid hown
  have HG := Lib.hid hg
  have hBB := HBB.out.grown HG.out (fun e => by injection e with e; omega)
  have b0 : wr.cell? ⟨w.heap.size, 0, none⟩ = some (.func (.func 63) #[] #[.pointer (some ⟨B, 0, none⟩)]) := by simpa using hBB.cell 0
  have b1 : wr.cell? ⟨w.heap.size, 1, none⟩ = some (.func (.func sf) #[] #[.slice (some ⟨g, 0, none⟩) n c, th]) := by simpa using hBB.cell 1
  have bl := hBB.lt
  clear hown hg hBB hrot
  obtain ⟨p, hp⟩ : ∃ p, m - i = p := ⟨_, rfl⟩
  have hpI : (m : Int) - (i : Int) = (p : Int) := by omega
  have hpw : IntKind.i64.wrap (p : Int) = (p : Int) := Go.IntWalk.i64_in _ (by omega)
  have HP := Lib.hid hp
  clear hp
  rcases Nat.lt_trichotomy i j with hlt | heq | hgt
  ·have hne : ((i : Int) == (j : Int)) = false := by simp; omega
   have hgtI : ¬ (i : Int) > (j : Int) := by omega
   obtain ⟨q, hq⟩ : ∃ q, m + j - i = q := ⟨_, rfl⟩
   obtain ⟨s, hs⟩ : ∃ s, m + j = s := ⟨_, rfl⟩
   have hsI : (m : Int) + (j : Int) = (s : Int) := by omega
   have hsw : IntKind.i64.wrap (s : Int) = (s : Int) := Go.IntWalk.i64_in _ (by omega)
   have hqI : (s : Int) - (i : Int) = (q : Int) := by omega
   have hqw : IntKind.i64.wrap (q : Int) = (q : Int) := Go.IntWalk.i64_in _ (by omega)
   obtain ⟨k, hk⟩ : ∃ k, j - i = k := ⟨_, rfl⟩
   have hkI : (j : Int) - (i : Int) = (k : Int) := by omega
   have hkw : IntKind.i64.wrap (k : Int) = (k : Int) := Go.IntWalk.i64_in _ (by omega)
   have HQ := Lib.hid hq
   have HK := Lib.hid hk
   clear hq hs hk
   go_wp2_with fail
   refine (swrT sf th base g n c B HSW.out p q i d _ HOW.out (by have := HP.out; have := HQ.out; omega) (by have := HP.out; have := HQ.out; omega) hn).mono ?_
   rintro e w1 ⟨rfl, d1, hS1, hg1, rfl⟩
   have HS1 := Lib.hid hS1
   have HG1 := Lib.hid (HG.out.trans hg1)
   have HR1 : Hid (StM.rot (StM.sw d p q i) (m - i) m (m + k) = StM.rot d0 a m b) := by
    show _ = _
    rw [← HR.out, ← StM.rot_lt d m i j hlt (by omega), HP.out, HQ.out, HK.out]
   clear hS1 hg1
   go_wp2_with fail
   exact ⟨⟨i, k, _, hi, by have := HK.out; omega, hia, by have := HK.out; omega, rfl, rfl, HR1.out, HS1.out, HG1.out⟩, by have := HK.out; simp [intOf]; omega⟩
  ·subst heq
   have hne : ((i : Int) == (i : Int)) = true := by simp
   go_wp2_with fail
   refine (swrT sf th base g n c B HSW.out p m i d _ HOW.out (by have := HP.out; omega) (by omega) hn).mono ?_
   rintro e w1 ⟨rfl, d1, hS1, hg1, rfl⟩
   have HS1 := Lib.hid hS1
   have HG1 := Lib.hid (HG.out.trans hg1)
   have HR1 : Hid (StM.sw d p m i = StM.rot d0 a m b) := by
    show _ = _
    rw [← HR.out, ← HP.out]
    exact StM.rot_eq d m i (by omega)
   clear hS1 hg1
   go_wp2_with fail
   go_end0
   exact ⟨rfl, _, HS1.out, grown_allocT HG1.out, HR1.out⟩
  ·have hne : ((i : Int) == (j : Int)) = false := by simp; omega
   have hgtI : (i : Int) > (j : Int) := by omega
   obtain ⟨k, hk⟩ : ∃ k, i - j = k := ⟨_, rfl⟩
   have hkI : (i : Int) - (j : Int) = (k : Int) := by omega
   have hkw : IntKind.i64.wrap (k : Int) = (k : Int) := Go.IntWalk.i64_in _ (by omega)
   have HK := Lib.hid hk
   clear hk
   go_wp2_with fail
   refine (swrT sf th base g n c B HSW.out p m j d _ HOW.out (by have := HP.out; omega) (by omega) hn).mono ?_
   rintro e w1 ⟨rfl, d1, hS1, hg1, rfl⟩
   have HS1 := Lib.hid hS1
   have HG1 := Lib.hid (HG.out.trans hg1)
   have HR1 : Hid (StM.rot (StM.sw d p m j) (m - k) m (m + j) = StM.rot d0 a m b) := by
    show _ = _
    rw [← HR.out, ← StM.rot_gt d m i j hgt (by omega), HP.out, HK.out]
   clear hS1 hg1
   go_wp2_with fail
   exact ⟨⟨k, j, _, by have := HK.out; omega, hj, by have := HK.out; omega, hjb, rfl, rfl, HR1.out, HS1.out, HG1.out⟩, by have := HK.out; simp [intOf]; omega⟩
end

section
namespace StM
variable {key : Int → Nat}
theorem Srt.le {a b i j : Nat} {d : Nat → Int} (h : Srt key a b d) (h1 : a ≤ i) (h2 : i ≤ j) (h3 : j < b) : key (d i) ≤ key (d j) := by
 by_cases e : i = j
 ·rw [e]; exact Nat.le_refl _
 ·exact h i j h1 (by omega) h3
theorem bs1_lo {m b h : Nat} {x : Nat} {d : Nat → Int} (hs : Srt key m b d) (hh : h < b) (hl : key (d h) < x) : ∀ k, m ≤ k → k < h + 1 → key (d k) < x := fun k h1 h2 =>
 Nat.lt_of_le_of_lt (hs.le h1 (by omega) hh) hl
theorem bs1_hi {m b h : Nat} {x : Nat} {d : Nat → Int} (hs : Srt key m b d) (hm : m ≤ h) (hl : ¬ key (d h) < x) : ∀ k, h ≤ k → k < b → x ≤ key (d k) := fun k h1 h2 =>
 Nat.le_trans (Nat.le_of_not_lt hl) (hs.le hm h1 h2)
theorem bs2_lo {a m h : Nat} {x : Nat} {d : Nat → Int} (hs : Srt key a m d) (hh : h < m) (hl : ¬ x < key (d h)) : ∀ k, a ≤ k → k < h + 1 → key (d k) ≤ x := fun k h1 h2 =>
 Nat.le_trans (hs.le h1 (by omega) hh) (Nat.le_of_not_lt hl)
theorem bs2_hi {a m h : Nat} {x : Nat} {d : Nat → Int} (hs : Srt key a m d) (hm : a ≤ h) (hl : x < key (d h)) : ∀ k, h ≤ k → k < m → x < key (d k) := fun k h1 h2 =>
 Nat.lt_of_lt_of_le hl (hs.le hm h1 h2)
def Mid (a m b mid s0 r0 : Nat) : Prop := (mid < m ∧ s0 = mid + m - b ∧ r0 = mid) ∨ (m ≤ mid ∧ s0 = a ∧ r0 = m)
theorem bs3_lo {a m b mid s0 r0 c : Nat} {d : Nat → Int} (hab : a < m) (hmb : m < b) (hmid : mid = (a + b) / 2) (h0 : Mid a m b mid s0 r0) (h5 : Srt key a m d) (h6 : Srt key m b d) (h1 : s0 ≤ c) (h2 : c < r0)
  (hl : ¬ key (d (mid + m - 1 - c)) < key (d c)) : ∀ k, s0 ≤ k → k < c + 1 → key (d k) ≤ key (d (mid + m - 1 - k)) := fun k k1 k2 => by
 unfold Mid at h0
 exact Nat.le_trans (h5.le (by omega) (by omega : k ≤ c) (by omega)) (Nat.le_trans (Nat.le_of_not_lt hl) (h6.le (by omega) (by omega) (by omega)))
theorem bs3_hi {a m b mid s0 r0 c : Nat} {d : Nat → Int} (hab : a < m) (hmb : m < b) (hmid : mid = (a + b) / 2) (h0 : Mid a m b mid s0 r0) (h5 : Srt key a m d) (h6 : Srt key m b d) (h1 : s0 ≤ c) (h2 : c < r0)
  (hl : key (d (mid + m - 1 - c)) < key (d c)) : ∀ k, c ≤ k → k < r0 → key (d (mid + m - 1 - k)) < key (d k) := fun k k1 k2 => by
 unfold Mid at h0
 exact Nat.lt_of_le_of_lt (h6.le (by omega) (by omega : mid + m - 1 - k ≤ mid + m - 1 - c) (by omega)) (Nat.lt_of_lt_of_le hl (h5.le (by omega) k1 (by omega)))
theorem Mid.at_ {a m b mid s0 r0 c : Nat} (hab : a < m) (hmb : m < b) (hmid : mid = (a + b) / 2) (h0 : Mid a m b mid s0 r0) (h1 : s0 ≤ c) (h2 : c < r0) : c < m ∧ c + 1 ≤ mid + m ∧ m ≤ mid + m - 1 - c ∧ mid + m - 1 - c < b := by
 unfold Mid at h0
 omega
theorem Mid.le {a m b mid s0 r0 : Nat} (hab : a < m) (hmb : m < b) (hmid : mid = (a + b) / 2) (h0 : Mid a m b mid s0 r0) : a ≤ s0 ∧ s0 ≤ r0 ∧ r0 ≤ m ∧ r0 ≤ mid := by
 unfold Mid at h0
 omega
end StM
end

section
open Go.RowKit Go.Shelf
attribute [local go_sem ↓] Go.wp_at_zero Go.wp_at_succ
theorem symA (sf : Nat) (th : Value) (base g n c B : Nat) (hsw : SwT sf th base g n c B) (hn : n ≤ 1099511627776) (a m b : Nat) (d0 : Nat → Int) (w : World) (h : SS w base g n c B d0) (hm : m = a + 1) (hmb : m < b) (hb : b ≤ n) (h6 : StM.Srt keyT m b d0) :
  Calls Tryz.prog 171 #[.agg #[.func (.func 63) #[] #[.pointer (some ⟨B, 0, none⟩)], .func (.func sf) #[] #[.slice (some ⟨g, 0, none⟩) n c, th]], .int .i64 (a : Int), .int .i64 (m : Int), .int .i64 (b : Int)] w (StP w base g n c B fun d' => StM.Stb keyT a b d0 d' ∧ StM.Srt keyT a b d') := by
 have hgl := h.lt.2
 have HS := Lib.hid h
 have HSW := Lib.hid hsw
 have HBB := Lib.hid (Blk.new w 120 #[.func (.func 63) #[] #[.pointer (some ⟨B, 0, none⟩)], .func (.func sf) #[] #[.slice (some ⟨g, 0, none⟩) n c, th]])
 have H6 := Lib.hid h6
 have hdI : (m : Int) - (a : Int) = 1 := by omega
 have ham : a < m := by omega
 have HM := Lib.hid hm
 clear hsw h h6 hm
 go_enter Tryz.func171, Tryz.ntmps171
 go_wp2_with fail
 go_loopw [8, 9] (fun e8 e9 wr => ∃ (i j : Nat), m ≤ i ∧ i ≤ j ∧ j ≤ b ∧ e8 = .int .i64 i ∧ e9 = .int .i64 j ∧ (∀ k, m ≤ k → k < i → keyT (d0 k) < keyT (d0 a)) ∧ (∀ k, j ≤ k → k < b → keyT (d0 a) ≤ keyT (d0 k)) ∧ SS wr base g n c B d0 ∧ (w.alloc (.cells #[.func (.func 63) #[] #[.pointer (some ⟨B, 0, none⟩)], .func (.func sf) #[] #[.slice (some ⟨g, 0, none⟩) n c, th]] 120)).grownBy wr (some g)) (fun e8 e9 _ => (intOf e9).toNat - (intOf e8).toNat)
 case atStart => exact ⟨m, b, Nat.le_refl _, by omega, Nat.le_refl _, rfl, rfl, (fun k h1 h2 => by omega), (fun k h1 h2 => by omega), HS.out.keep (by (repeat (first | with_reducible exact Below.refl _ _ | with_reducible assumption | with_reducible apply bel_alloc | with_reducible apply bel_drew | with_reducible apply bel_drewN | ((with_reducible refine bel_set ?_ ?_); rotate_left; (simp <;> omega)) | (with_reducible refine bel_trans ?_ (by with_reducible assumption))))), World.grownBy.refl _ _⟩
 case round =>
  obtain ⟨i, j, hmi, hij, hjb, rfl, rfl, hlo, hhi, hown, hg⟩ := hrel
  have HLO := Lib.hid hlo
  have HHI := Lib.hid hhi
  have HOW := Lib.hid hown
  have HG := Lib.hid hg
  clear hlo hhi hown hg
  by_cases hlt : i < j
  ·have hltI : (i : Int) < (j : Int) := by omega
   obtain ⟨s, hs⟩ : ∃ s, i + j = s := ⟨_, rfl⟩
   have hsI : (i : Int) + (j : Int) = (s : Int) := by omega
   have hsw : IntKind.i64.wrap (s : Int) = (s : Int) := Go.IntWalk.i64_in _ (by omega)
   have hsu : IntKind.u64.wrap (s : Int) = (s : Int) := by rw [IntKind.wrap_u64]; omega
   obtain ⟨q, hq⟩ : ∃ q, s / 2 = q := ⟨_, rfl⟩
   have hqI : (s : Int) / 2 = (q : Int) := by omega
   have hqw : IntKind.i64.wrap (q : Int) = (q : Int) := Go.IntWalk.i64_in _ (by omega)
   have hqu : IntKind.u64.wrap (q : Int) = (q : Int) := by rw [IntKind.wrap_u64]; omega
   have HQ := Lib.hid (show i ≤ q ∧ q < j by omega)
   have hBB := HBB.out.grown HG.out (fun e => by injection e with e; omega)
   have b0 : wr.cell? ⟨w.heap.size, 0, none⟩ = some (.func (.func 63) #[] #[.pointer (some ⟨B, 0, none⟩)]) := by simpa using hBB.cell 0
   have b1 : wr.cell? ⟨w.heap.size, 1, none⟩ = some (.func (.func sf) #[] #[.slice (some ⟨g, 0, none⟩) n c, th]) := by simpa using hBB.cell 1
   have bl := hBB.lt
   clear hBB
   have hqn : q < n := by omega
   have han : a < n := by omega
   clear hs hq
   by_cases hl : keyT (d0 q) < keyT (d0 a)
   ·have HLO2 := Lib.hid (StM.bs1_lo H6.out (by have := HQ.out; omega : q < b) hl)
    have HL := Lib.hid hl
    clear hl
    go_wp2_with fail
    refine (lessT HOW.out hqn han true (by rw [decide_eq_true HL.out])).mono ?_
    rintro e w1 ⟨rfl, hb1⟩
    go_wp2_with fail
    exact ⟨⟨q + 1, j, by have := HQ.out; omega, by have := HQ.out; omega, hjb, by go_num, rfl, HLO2.out, HHI.out, HOW.out.keep hb1, grown_below HG.out hb1⟩, by have := HQ.out; simp [intOf]; omega⟩
   ·have HHI2 := Lib.hid (StM.bs1_hi H6.out (by have := HQ.out; omega : m ≤ q) hl)
    have HL := Lib.hid hl
    clear hl
    go_wp2_with fail
    refine (lessT HOW.out hqn han false (by rw [decide_eq_false HL.out])).mono ?_
    rintro e w1 ⟨rfl, hb1⟩
    go_wp2_with fail
    exact ⟨⟨i, q, hmi, HQ.out.1, by have := HQ.out; omega, rfl, rfl, HLO.out, HHI2.out, HOW.out.keep hb1, grown_below HG.out hb1⟩, by have := HQ.out; simp [intOf]; omega⟩
  ·obtain rfl : i = j := by omega
   have hltI : ¬ (i : Int) < (i : Int) := by omega
   obtain ⟨p, hp⟩ : ∃ p, i = p + 1 := ⟨i - 1, by omega⟩
   have hpI : (i : Int) - 1 = (p : Int) := by omega
   have hpw : IntKind.i64.wrap (p : Int) = (p : Int) := Go.IntWalk.i64_in _ (by omega)
   have HP := Lib.hid hp
   clear hp
   go_wp2_with fail
   go_loopw [11] (fun e11 wq => ∃ (k : Nat), a ≤ k ∧ k ≤ p ∧ e11 = .int .i64 k ∧ SS wq base g n c B (StM.rot d0 a m (k + 1)) ∧ (w.alloc (.cells #[.func (.func 63) #[] #[.pointer (some ⟨B, 0, none⟩)], .func (.func sf) #[] #[.slice (some ⟨g, 0, none⟩) n c, th]] 120)).grownBy wq (some g)) (fun e11 _ => p - (intOf e11).toNat)
   case atStart => exact ⟨a, Nat.le_refl _, by have := HP.out; omega, rfl, by rw [← HM.out, StM.rot_idr _ _ _ (by omega)]; exact HOW.out, HG.out⟩
   case round =>
    clear HOW HG
    obtain ⟨k, hak, hkp, rfl, hown, hg⟩ := hrel
    have HOW := Lib.hid hown
    have HG := Lib.hid hg
    clear hown hg
    by_cases hlt2 : k < p
    ·have hkI : (k : Int) < (p : Int) := by omega
     obtain ⟨y, hy⟩ : ∃ y, k + 1 = y := ⟨_, rfl⟩
     have hyI : (k : Int) + 1 = (y : Int) := by omega
     have hyw : IntKind.i64.wrap (y : Int) = (y : Int) := Go.IntWalk.i64_in _ (by have := HP.out; omega)
     have hBB := HBB.out.grown HG.out (fun e => by injection e with e; omega)
     have b0 : wr.cell? ⟨w.heap.size, 0, none⟩ = some (.func (.func 63) #[] #[.pointer (some ⟨B, 0, none⟩)]) := by simpa using hBB.cell 0
     have b1 : wr.cell? ⟨w.heap.size, 1, none⟩ = some (.func (.func sf) #[] #[.slice (some ⟨g, 0, none⟩) n c, th]) := by simpa using hBB.cell 1
     have bl := hBB.lt
     clear hBB
     obtain ⟨w2, hrun, ho2, hg2⟩ := HSW.out wr _ k y HOW.out (by have := HP.out; omega) (by have := HP.out; omega)
     have HO2 : Hid (SS w2 base g n c B (StM.rot d0 a m (y + 1))) := by
      have e := StM.rot_up d0 HM.out hak
      rw [hy, show k + 2 = y + 1 by omega] at e
      have h2 := ho2
      rw [hy, e] at h2
      exact h2
     have HG2 := Lib.hid (hg2 _ HG.out)
     have hky : k < y := by omega
     have hyp : y ≤ p := by omega
     clear ho2 hg2 hy
     go_wp2_with fail
     exact ⟨⟨y, by omega, hyp, rfl, HO2.out, HG2.out⟩, by simp [intOf]; omega⟩
    ·obtain rfl : k = p := by omega
     have hkI : ¬ (k : Int) < (k : Int) := by omega
     go_wp2_with fail
     (try simp only [Exit.inBlock, Exit.then])
     refine bodyPost_ret (results_none rfl _ _ _) rfl ?_
     refine ⟨rfl, _, HOW.out, grown_allocT HG.out, ?_⟩
     have e := HP.out
     rw [← e]
     exact StM.merge1 HM.out hmi hjb H6.out HLO.out HHI.out
theorem symB (sf : Nat) (th : Value) (base g n c B : Nat) (hsw : SwT sf th base g n c B) (hn : n ≤ 1099511627776) (a m b : Nat) (d0 : Nat → Int) (w : World) (h : SS w base g n c B d0) (ham : a + 1 < m) (hbm : b = m + 1) (hb : b ≤ n) (h5 : StM.Srt keyT a m d0) :
  Calls Tryz.prog 171 #[.agg #[.func (.func 63) #[] #[.pointer (some ⟨B, 0, none⟩)], .func (.func sf) #[] #[.slice (some ⟨g, 0, none⟩) n c, th]], .int .i64 (a : Int), .int .i64 (m : Int), .int .i64 (b : Int)] w (StP w base g n c B fun d' => StM.Stb keyT a b d0 d' ∧ StM.Srt keyT a b d') := by
 have hgl := h.lt.2
 have HS := Lib.hid h
 have HSW := Lib.hid hsw
 have HBB := Lib.hid (Blk.new w 120 #[.func (.func 63) #[] #[.pointer (some ⟨B, 0, none⟩)], .func (.func sf) #[] #[.slice (some ⟨g, 0, none⟩) n c, th]])
 have H5 := Lib.hid h5
 obtain ⟨z, hz⟩ : ∃ z, m - a = z := ⟨_, rfl⟩
 have hzI : (m : Int) - (a : Int) = (z : Int) := by omega
 have hzw : IntKind.i64.wrap (z : Int) = (z : Int) := Go.IntWalk.i64_in _ (by omega)
 have hz1 : ((z : Int) == 1) = false := by rw [beq_eq_false_iff_ne]; omega
 have hdI : (b : Int) - (m : Int) = 1 := by omega
 have hmn : m < n := by omega
 have HM := Lib.hid hbm
 clear hsw h h5 hbm hz
 go_enter Tryz.func171, Tryz.ntmps171
 go_wp2_with fail
 go_loopw [12, 13] (fun e8 e9 wr => ∃ (i j : Nat), a ≤ i ∧ i ≤ j ∧ j ≤ m ∧ e8 = .int .i64 i ∧ e9 = .int .i64 j ∧ (∀ k, a ≤ k → k < i → keyT (d0 k) ≤ keyT (d0 m)) ∧ (∀ k, j ≤ k → k < m → keyT (d0 m) < keyT (d0 k)) ∧ SS wr base g n c B d0 ∧ (w.alloc (.cells #[.func (.func 63) #[] #[.pointer (some ⟨B, 0, none⟩)], .func (.func sf) #[] #[.slice (some ⟨g, 0, none⟩) n c, th]] 120)).grownBy wr (some g)) (fun e8 e9 _ => (intOf e9).toNat - (intOf e8).toNat)
 case atStart => exact ⟨a, m, Nat.le_refl _, by omega, Nat.le_refl _, rfl, rfl, (fun k h1 h2 => by omega), (fun k h1 h2 => by omega), HS.out.keep (by (repeat (first | with_reducible exact Below.refl _ _ | with_reducible assumption | with_reducible apply bel_alloc | with_reducible apply bel_drew | with_reducible apply bel_drewN | ((with_reducible refine bel_set ?_ ?_); rotate_left; (simp <;> omega)) | (with_reducible refine bel_trans ?_ (by with_reducible assumption))))), World.grownBy.refl _ _⟩
 case round =>
  obtain ⟨i, j, hmi, hij, hjb, rfl, rfl, hlo, hhi, hown, hg⟩ := hrel
  have HLO := Lib.hid hlo
  have HHI := Lib.hid hhi
  have HOW := Lib.hid hown
  have HG := Lib.hid hg
  clear hlo hhi hown hg
  by_cases hlt : i < j
  ·have hltI : (i : Int) < (j : Int) := by omega
   obtain ⟨s, hs⟩ : ∃ s, i + j = s := ⟨_, rfl⟩
   have hsI : (i : Int) + (j : Int) = (s : Int) := by omega
   have hsw : IntKind.i64.wrap (s : Int) = (s : Int) := Go.IntWalk.i64_in _ (by omega)
   have hsu : IntKind.u64.wrap (s : Int) = (s : Int) := by rw [IntKind.wrap_u64]; omega
   obtain ⟨q, hq⟩ : ∃ q, s / 2 = q := ⟨_, rfl⟩
   have hqI : (s : Int) / 2 = (q : Int) := by omega
   have hqw : IntKind.i64.wrap (q : Int) = (q : Int) := Go.IntWalk.i64_in _ (by omega)
   have hqu : IntKind.u64.wrap (q : Int) = (q : Int) := by rw [IntKind.wrap_u64]; omega
   have HQ := Lib.hid (show i ≤ q ∧ q < j by omega)
   have hBB := HBB.out.grown HG.out (fun e => by injection e with e; omega)
   have b0 : wr.cell? ⟨w.heap.size, 0, none⟩ = some (.func (.func 63) #[] #[.pointer (some ⟨B, 0, none⟩)]) := by simpa using hBB.cell 0
   have b1 : wr.cell? ⟨w.heap.size, 1, none⟩ = some (.func (.func sf) #[] #[.slice (some ⟨g, 0, none⟩) n c, th]) := by simpa using hBB.cell 1
   have bl := hBB.lt
   clear hBB
   have hqn : q < n := by omega
   clear hs hq
   by_cases hl : keyT (d0 m) < keyT (d0 q)
   ·have HHI2 := Lib.hid (StM.bs2_hi H5.out (by have := HQ.out; omega : a ≤ q) hl)
    have HL := Lib.hid hl
    clear hl
    go_wp2_with fail
    refine (lessT HOW.out hmn hqn true (by rw [decide_eq_true HL.out])).mono ?_
    rintro e w1 ⟨rfl, hb1⟩
    go_wp2_with fail
    exact ⟨⟨i, q, hmi, HQ.out.1, by have := HQ.out; omega, rfl, rfl, HLO.out, HHI2.out, HOW.out.keep hb1, grown_below HG.out hb1⟩, by have := HQ.out; simp [intOf]; omega⟩
   ·have HLO2 := Lib.hid (StM.bs2_lo H5.out (by have := HQ.out; omega : q < m) hl)
    have HL := Lib.hid hl
    clear hl
    go_wp2_with fail
    refine (lessT HOW.out hmn hqn false (by rw [decide_eq_false HL.out])).mono ?_
    rintro e w1 ⟨rfl, hb1⟩
    go_wp2_with fail
    exact ⟨⟨q + 1, j, by have := HQ.out; omega, by have := HQ.out; omega, hjb, by go_num, rfl, HLO2.out, HHI.out, HOW.out.keep hb1, grown_below HG.out hb1⟩, by have := HQ.out; simp [intOf]; omega⟩
  ·obtain rfl : i = j := by omega
   have hltI : ¬ (i : Int) < (i : Int) := by omega
   go_wp2_with fail
   go_loopw [15] (fun e11 wq => ∃ (k : Nat), i ≤ k ∧ k ≤ m ∧ e11 = .int .i64 k ∧ SS wq base g n c B (StM.rot d0 k m b) ∧ (w.alloc (.cells #[.func (.func 63) #[] #[.pointer (some ⟨B, 0, none⟩)], .func (.func sf) #[] #[.slice (some ⟨g, 0, none⟩) n c, th]] 120)).grownBy wq (some g)) (fun e11 _ => (intOf e11).toNat)
   case atStart => exact ⟨m, hjb, Nat.le_refl _, rfl, by rw [StM.rot_idl _ _ _ (by have := HM.out; omega)]; exact HOW.out, HG.out⟩
   case round =>
    clear HOW HG
    obtain ⟨k, hik, hkm, rfl, hown, hg⟩ := hrel
    have HOW := Lib.hid hown
    have HG := Lib.hid hg
    clear hown hg
    by_cases hlt2 : i < k
    ·have hkI : (k : Int) > (i : Int) := by omega
     obtain ⟨p, hp⟩ : ∃ p, k = p + 1 := ⟨k - 1, by omega⟩
     have hpI : (k : Int) - 1 = (p : Int) := by omega
     have hpw : IntKind.i64.wrap (p : Int) = (p : Int) := Go.IntWalk.i64_in _ (by omega)
     have hBB := HBB.out.grown HG.out (fun e => by injection e with e; omega)
     have b0 : wr.cell? ⟨w.heap.size, 0, none⟩ = some (.func (.func 63) #[] #[.pointer (some ⟨B, 0, none⟩)]) := by simpa using hBB.cell 0
     have b1 : wr.cell? ⟨w.heap.size, 1, none⟩ = some (.func (.func sf) #[] #[.slice (some ⟨g, 0, none⟩) n c, th]) := by simpa using hBB.cell 1
     have bl := hBB.lt
     clear hBB
     obtain ⟨w2, hrun, ho2, hg2⟩ := HSW.out wr _ k p HOW.out (by omega) (by omega)
     have HO2 : Hid (SS w2 base g n c B (StM.rot d0 p m b)) := by
      rw [← StM.rot_dn d0 HM.out hp hkm]
      exact ho2
     have HG2 := Lib.hid (hg2 _ HG.out)
     have hpk : p < k := by omega
     have hip : i ≤ p := by omega
     clear ho2 hg2 hp
     go_wp2_with fail
     exact ⟨⟨p, hip, by omega, rfl, HO2.out, HG2.out⟩, by simp [intOf]; omega⟩
    ·obtain rfl : k = i := by omega
     have hkI : ¬ (k : Int) > (k : Int) := by omega
     go_wp2_with fail
     (try simp only [Exit.inBlock, Exit.then])
     refine bodyPost_ret (results_none rfl _ _ _) rfl ?_
     exact ⟨rfl, _, HOW.out, grown_allocT HG.out, StM.merge2 HM.out hmi hjb H5.out HLO.out HHI.out⟩
end

section
open Go.RowKit Go.Shelf
attribute [local go_sem ↓] Go.wp_at_zero Go.wp_at_succ
theorem symC (sf : Nat) (th : Value) (base g n c B : Nat) (hsw : SwT sf th base g n c B) (hn : n ≤ 1099511627776) (a m b : Nat) (d0 : Nat → Int) (w : World)
  (IH : ∀ (a' m' b' : Nat) (d' : Nat → Int) (w' : World), b' - a' < b - a → SS w' base g n c B d' → a' < m' → m' < b' → b' ≤ n → StM.Srt keyT a' m' d' → StM.Srt keyT m' b' d' → Calls Tryz.prog 171 #[.agg #[.func (.func 63) #[] #[.pointer (some ⟨B, 0, none⟩)], .func (.func sf) #[] #[.slice (some ⟨g, 0, none⟩) n c, th]], .int .i64 (a' : Int), .int .i64 (m' : Int), .int .i64 (b' : Int)] w' (StP w' base g n c B fun d2 => StM.Stb keyT a' b' d' d2 ∧ StM.Srt keyT a' b' d2))
  (h : SS w base g n c B d0) (ham : a + 1 < m) (hbm : m + 1 < b) (hb : b ≤ n) (h5 : StM.Srt keyT a m d0) (h6 : StM.Srt keyT m b d0) :
  Calls Tryz.prog 171 #[.agg #[.func (.func 63) #[] #[.pointer (some ⟨B, 0, none⟩)], .func (.func sf) #[] #[.slice (some ⟨g, 0, none⟩) n c, th]], .int .i64 (a : Int), .int .i64 (m : Int), .int .i64 (b : Int)] w (StP w base g n c B fun d' => StM.Stb keyT a b d0 d' ∧ StM.Srt keyT a b d') := by
 have hgl := h.lt.2
 have HS := Lib.hid (h.keep (bel_alloc (Below.refl _ _) (.cells #[.func (.func 63) #[] #[.pointer (some ⟨B, 0, none⟩)], .func (.func sf) #[] #[.slice (some ⟨g, 0, none⟩) n c, th]] 120)))
 have HSW := Lib.hid hsw
 have HBB := Lib.hid (Blk.new w 120 #[.func (.func 63) #[] #[.pointer (some ⟨B, 0, none⟩)], .func (.func sf) #[] #[.slice (some ⟨g, 0, none⟩) n c, th]])
 have HIH := Lib.hid @IH
 have H5 := Lib.hid h5
 have H6 := Lib.hid h6
 obtain ⟨W0, hW0⟩ : ∃ W0, (w.alloc (.cells #[.func (.func 63) #[] #[.pointer (some ⟨B, 0, none⟩)], .func (.func sf) #[] #[.slice (some ⟨g, 0, none⟩) n c, th]] 120)) = W0 := ⟨_, rfl⟩
 rw [hW0] at HS HBB
 have hw0 : w.grownBy W0 (some g) := by rw [← hW0]; exact grown_allocT (World.grownBy.refl _ _)
 have HW0 := Lib.hid hW0
 have HG0 := Lib.hid hw0
 obtain ⟨z, hz⟩ : ∃ z, m - a = z := ⟨_, rfl⟩
 have hzI : (m : Int) - (a : Int) = (z : Int) := by omega
 have hzw : IntKind.i64.wrap (z : Int) = (z : Int) := Go.IntWalk.i64_in _ (by omega)
 have hz1 : ((z : Int) == 1) = false := by rw [beq_eq_false_iff_ne]; omega
 obtain ⟨v, hv⟩ : ∃ v, b - m = v := ⟨_, rfl⟩
 have hvI : (b : Int) - (m : Int) = (v : Int) := by omega
 have hvw : IntKind.i64.wrap (v : Int) = (v : Int) := Go.IntWalk.i64_in _ (by omega)
 have hv1 : ((v : Int) == 1) = false := by rw [beq_eq_false_iff_ne]; omega
 obtain ⟨t, ht⟩ : ∃ t, a + b = t := ⟨_, rfl⟩
 have htI : (a : Int) + (b : Int) = (t : Int) := by omega
 have htw : IntKind.i64.wrap (t : Int) = (t : Int) := Go.IntWalk.i64_in _ (by omega)
 have htu : IntKind.u64.wrap (t : Int) = (t : Int) := by rw [IntKind.wrap_u64]; omega
 obtain ⟨mid, hmid⟩ : ∃ mid, t / 2 = mid := ⟨_, rfl⟩
 have hmidI : (t : Int) / 2 = (mid : Int) := by omega
 have hmidw : IntKind.i64.wrap (mid : Int) = (mid : Int) := Go.IntWalk.i64_in _ (by omega)
 have hmidu : IntKind.u64.wrap (mid : Int) = (mid : Int) := by rw [IntKind.wrap_u64]; omega
 obtain ⟨N, hN⟩ : ∃ N, mid + m = N := ⟨_, rfl⟩
 have hNI : (mid : Int) + (m : Int) = (N : Int) := by omega
 have hNw : IntKind.i64.wrap (N : Int) = (N : Int) := Go.IntWalk.i64_in _ (by omega)
 obtain ⟨p, hp⟩ : ∃ p, N - 1 = p := ⟨_, rfl⟩
 have hpI : (N : Int) - 1 = (p : Int) := by omega
 have hpw : IntKind.i64.wrap (p : Int) = (p : Int) := Go.IntWalk.i64_in _ (by omega)
 have hm2 : mid = (a + b) / 2 := by omega
 obtain ⟨s0, r0, hs0⟩ : ∃ s0 r0, StM.Mid a m b mid s0 r0 := by
  rcases Nat.lt_or_ge mid m with hc | hc
  ·exact ⟨mid + m - b, mid, .inl ⟨hc, rfl, rfl⟩⟩
  ·exact ⟨a, m, .inr ⟨hc, rfl, rfl⟩⟩
 have hsle := StM.Mid.le (by omega) (by omega) hm2 hs0
 have HMID := Lib.hid hs0
 have HM2 := Lib.hid hm2
 have HN := Lib.hid hN
 have HP := Lib.hid hp
 have hab : a < m := by omega
 have hmb : m < b := by omega
 have hmida : a < mid := by omega
 have hmidb : mid < b := by omega
 clear hsw h h5 h6 hz hv ht hmid hW0 hw0 IH hs0 hm2 hN hp
 go_enter Tryz.func171, Tryz.ntmps171
 go_upto_if 106 with fail
 go_cut [18, 19] (fun e18 e19 wc => e18 = .int .i64 (s0 : Int) ∧ e19 = .int .i64 (r0 : Int) ∧ wc = (w.alloc (.cells #[.func (.func 63) #[] #[.pointer (some ⟨B, 0, none⟩)], .func (.func sf) #[] #[.slice (some ⟨g, 0, none⟩) n c, th]] 120)))
 case first =>
  rcases HMID.out with ⟨hc, hs, hr⟩ | ⟨hc, hs, hr⟩
  ·have hcI : (m : Int) > (mid : Int) := by omega
   have hsI : (N : Int) - (b : Int) = (s0 : Int) := by have := HN.out; omega
   have hsw : IntKind.i64.wrap (s0 : Int) = (s0 : Int) := Go.IntWalk.i64_in _ (by omega)
   have HR := Lib.hid hr
   clear hs hr hc
   go_wp2_with fail
   go_meet
   exact ⟨rfl, by rw [HR.out], rfl⟩
  ·have hcI : ¬ (m : Int) > (mid : Int) := by omega
   have HSS := Lib.hid hs
   have HR := Lib.hid hr
   clear hs hr hc
   go_wp2_with fail
   go_meet
   exact ⟨by rw [HSS.out], by rw [HR.out], rfl⟩
 case rest =>
  obtain ⟨rfl, rfl, hwc⟩ := hcut
  rw [HW0.out] at hwc
  have hwc2 := hwc.symm
  clear hwc
  subst hwc2
  clear hzI hzw hz1 hvI hvw hv1 htI htw htu hmidI hmidw hmidu hNI
  go_wp2_with fail
  go_loopw [18, 19] (fun e8 e9 wr => ∃ (s r : Nat), s0 ≤ s ∧ s ≤ r ∧ r ≤ r0 ∧ e8 = .int .i64 s ∧ e9 = .int .i64 r ∧ (∀ k, s0 ≤ k → k < s → keyT (d0 k) ≤ keyT (d0 (mid + m - 1 - k))) ∧ (∀ k, r ≤ k → k < r0 → keyT (d0 (mid + m - 1 - k)) < keyT (d0 k)) ∧ SS wr base g n c B d0 ∧ W0.grownBy wr (some g)) (fun e8 e9 _ => (intOf e9).toNat - (intOf e8).toNat)
  case atStart => exact ⟨s0, r0, Nat.le_refl _, hsle.2.1, Nat.le_refl _, rfl, rfl, (fun k h1 h2 => by omega), (fun k h1 h2 => by omega), HS.out, World.grownBy.refl _ _⟩
  case round =>
   obtain ⟨s, r, hss, hsr, hrr, rfl, rfl, hlo, hhi, hown, hg⟩ := hrel
   have HLO := Lib.hid hlo
   have HHI := Lib.hid hhi
   have HOW := Lib.hid hown
   have HG := Lib.hid hg
   clear hlo hhi hown hg
   by_cases hlt : s < r
   ·have hltI : (s : Int) < (r : Int) := by omega
    obtain ⟨u, hu⟩ : ∃ u, s + r = u := ⟨_, rfl⟩
    have huI : (s : Int) + (r : Int) = (u : Int) := by omega
    have huw : IntKind.i64.wrap (u : Int) = (u : Int) := Go.IntWalk.i64_in _ (by omega)
    have huu : IntKind.u64.wrap (u : Int) = (u : Int) := by rw [IntKind.wrap_u64]; omega
    obtain ⟨q, hq⟩ : ∃ q, u / 2 = q := ⟨_, rfl⟩
    have hqI : (u : Int) / 2 = (q : Int) := by omega
    have hqw : IntKind.i64.wrap (q : Int) = (q : Int) := Go.IntWalk.i64_in _ (by omega)
    have hqu : IntKind.u64.wrap (q : Int) = (q : Int) := by rw [IntKind.wrap_u64]; omega
    have hat := StM.Mid.at_ hab hmb HM2.out HMID.out (by omega : s0 ≤ q) (by omega : q < r0)
    have HQ := Lib.hid (show s ≤ q ∧ q < r by omega)
    obtain ⟨y, hy⟩ : ∃ y, p - q = y := ⟨_, rfl⟩
    have hyI : (p : Int) - (q : Int) = (y : Int) := by have := HN.out; have := HP.out; omega
    have hyw : IntKind.i64.wrap (y : Int) = (y : Int) := Go.IntWalk.i64_in _ (by have := HN.out; have := HP.out; omega)
    have hye : mid + m - 1 - q = y := by have := HN.out; have := HP.out; omega
    have HYE := Lib.hid hye
    have hBB := HBB.out.grown HG.out (fun e => by injection e with e; omega)
    have b0 : wr.cell? ⟨w.heap.size, 0, none⟩ = some (.func (.func 63) #[] #[.pointer (some ⟨B, 0, none⟩)]) := by simpa using hBB.cell 0
    have bl := hBB.lt
    have hqn : q < n := by omega
    have hyn : y < n := by omega
    clear hBB hu hq hat hy hye
    by_cases hl : keyT (d0 y) < keyT (d0 q)
    ·have HHI2 := Lib.hid (StM.bs3_hi hab hmb HM2.out HMID.out H5.out H6.out (by have := HQ.out; omega : s0 ≤ q) (by have := HQ.out; omega) (by rw [HYE.out]; exact hl))
     have HL := Lib.hid hl
     clear hl
     go_wp2_with fail
     refine (lessT HOW.out hyn hqn true (by rw [decide_eq_true HL.out])).mono ?_
     rintro e w1 ⟨rfl, hb1⟩
     go_wp2_with fail
     exact ⟨⟨s, q, hss, HQ.out.1, by have := HQ.out; omega, rfl, rfl, HLO.out, HHI2.out, HOW.out.keep hb1, grown_below HG.out hb1⟩, by have := HQ.out; simp [intOf]; omega⟩
    ·have HLO2 := Lib.hid (StM.bs3_lo hab hmb HM2.out HMID.out H5.out H6.out (by have := HQ.out; omega : s0 ≤ q) (by have := HQ.out; omega) (by rw [HYE.out]; exact hl))
     have HL := Lib.hid hl
     clear hl
     go_wp2_with fail
     refine (lessT HOW.out hyn hqn false (by rw [decide_eq_false HL.out])).mono ?_
     rintro e w1 ⟨rfl, hb1⟩
     go_wp2_with fail
     exact ⟨⟨q + 1, r, by have := HQ.out; omega, by have := HQ.out; omega, hrr, by go_num, rfl, HLO2.out, HHI.out, HOW.out.keep hb1, grown_below HG.out hb1⟩, by have := HQ.out; simp [intOf]; omega⟩
   ·obtain rfl : s = r := by omega
    have hltI : ¬ (s : Int) < (s : Int) := by omega
    obtain ⟨f1, f2, f3, f4, f5, f6, f7⟩ := StM.start_lo hab hmb HM2.out HMID.out hss hrr H5.out H6.out HLO.out HHI.out
    obtain ⟨E, hE⟩ : ∃ E, N - s = E := ⟨_, rfl⟩
    have hEe : mid + m - s = E := by have := HN.out; omega
    rw [hEe] at f3 f4 f5 f6 f7
    have hEI : (N : Int) - (s : Int) = (E : Int) := by have := HN.out; omega
    have hEw : IntKind.i64.wrap (E : Int) = (E : Int) := Go.IntWalk.i64_in _ (by omega)
    obtain ⟨k1, k2, k3, k4, k5, k6⟩ := StM.half f1 f2 f3 f4 f5 H5.out H6.out f6 f7
    have F6 := Lib.hid f6
    have F7 := Lib.hid f7
    have F5 := Lib.hid f5
    have K2 := Lib.hid k2
    have K3 := Lib.hid k3
    have K4 := Lib.hid k4
    have K5 := Lib.hid k5
    have hsmid : s ≤ mid := by omega
    have hmidE : mid ≤ E := by omega
    clear f5 f6 f7 k1 k2 k3 k4 k5 k6 hE hEe HLO HHI
    have hBB := HBB.out.grown HG.out (fun e => by injection e with e; omega)
    have b0 : wr.cell? ⟨w.heap.size, 0, none⟩ = some (.func (.func 63) #[] #[.pointer (some ⟨B, 0, none⟩)]) := by simpa using hBB.cell 0
    have b1 : wr.cell? ⟨w.heap.size, 1, none⟩ = some (.func (.func sf) #[] #[.slice (some ⟨g, 0, none⟩) n c, th]) := by simpa using hBB.cell 1
    have bl := hBB.lt
    clear hBB
    go_upto_region 40 with fail
    go_cut [145] (fun ec wx => ec = .bool (decide ((s : Int) < (m : Int)) && decide ((m : Int) < (E : Int))) ∧ wx = wr)
    case first =>
     by_cases hc1 : (s : Int) < (m : Int)
     ·by_cases hc2 : (m : Int) < (E : Int)
      ·go_wp2_with fail
       go_meet
       exact ⟨by rw [decide_eq_true (by omega : (s : Int) < (m : Int)), decide_eq_true (by omega : (m : Int) < (E : Int))]; rfl, rfl⟩
      ·go_wp2_with fail
       go_meet
       exact ⟨by rw [decide_eq_true (by omega : (s : Int) < (m : Int)), decide_eq_false (by omega : ¬ (m : Int) < (E : Int))]; rfl, rfl⟩
     ·go_wp2_with fail
      go_meet
      exact ⟨by rw [decide_eq_false (by omega : ¬ (s : Int) < (m : Int))]; rfl, rfl⟩
    case rest =>
    obtain ⟨rfl, hwx⟩ := hcut
    have hwx2 := hwx.symm
    clear hwx
    subst hwx2
    go_upto_if 145 with fail
    go_cut [22] (fun e22 wd => e22 = .int .i64 (E : Int) ∧ SS wd base g n c B (StM.rot d0 s m E) ∧ W0.grownBy wd (some g))
    case first =>
     by_cases hc1 : s < m
     ·have hc1I : (s : Int) < (m : Int) := by omega
      by_cases hc2 : m < E
      ·have hc2I : (m : Int) < (E : Int) := by omega
       go_wp2_with fail
       refine (rotT sf th base g n c B HSW.out s m E d0 _ HOW.out hc1 hc2 (by omega) hn).mono ?_
       rintro e w1 ⟨rfl, d1, hS1, hg1, rfl⟩
       have HS1 := Lib.hid hS1
       have HG1 := Lib.hid (HG.out.trans hg1)
       clear hS1 hg1
       go_wp2_with fail
       go_meet
       exact ⟨rfl, HS1.out, HG1.out⟩
      ·have hc2I : ¬ (m : Int) < (E : Int) := by omega
       have HRI : Hid (StM.rot d0 s m E = d0) := by show _ = _; rw [show E = m by omega]; exact StM.rot_idr _ _ _ f2
       clear hc2
       go_wp2_with fail
       go_meet
       exact ⟨rfl, by rw [HRI.out]; exact HOW.out, HG.out⟩
     ·have hc1I : ¬ (s : Int) < (m : Int) := by omega
      have HRI : Hid (StM.rot d0 s m E = d0) := by show _ = _; rw [show s = m by omega]; exact StM.rot_idl _ _ _ f3
      clear hc1
      go_wp2_with fail
      go_meet
      exact ⟨rfl, by rw [HRI.out]; exact HOW.out, HG.out⟩
    case rest =>
     clear HOW HG b0 b1 bl
     obtain ⟨rfl, hown, hg⟩ := hcut
     obtain ⟨d1, hd1⟩ : ∃ d1, StM.rot d0 s m E = d1 := ⟨_, rfl⟩
     rw [hd1] at hown K2 K3 K4 K5
     have HD1 := Lib.hid hd1
     have HOW := Lib.hid hown
     have HG := Lib.hid hg
     clear hown hg hd1
     obtain ⟨wd, hwd⟩ : ∃ wd, wd = wc := ⟨_, rfl⟩
     subst hwd
     have hBB := HBB.out.grown HG.out (fun e => by injection e with e; omega)
     have b0 : wd.cell? ⟨w.heap.size, 0, none⟩ = some (.func (.func 63) #[] #[.pointer (some ⟨B, 0, none⟩)]) := by simpa using hBB.cell 0
     have b1 : wd.cell? ⟨w.heap.size, 1, none⟩ = some (.func (.func sf) #[] #[.slice (some ⟨g, 0, none⟩) n c, th]) := by simpa using hBB.cell 1
     have bl := hBB.lt
     clear hBB
     go_upto_region 42 with fail
     go_cut [158] (fun ec wx => ec = .bool (decide ((a : Int) < (s : Int)) && decide ((s : Int) < (mid : Int))) ∧ wx = wd)
     case first =>
      by_cases hc1 : (a : Int) < (s : Int)
      ·by_cases hc2 : (s : Int) < (mid : Int)
       ·go_wp2_with fail
        go_meet
        exact ⟨by rw [decide_eq_true (by omega : (a : Int) < (s : Int)), decide_eq_true (by omega : (s : Int) < (mid : Int))]; rfl, rfl⟩
       ·go_wp2_with fail
        go_meet
        exact ⟨by rw [decide_eq_true (by omega : (a : Int) < (s : Int)), decide_eq_false (by omega : ¬ (s : Int) < (mid : Int))]; rfl, rfl⟩
      ·go_wp2_with fail
       go_meet
       exact ⟨by rw [decide_eq_false (by omega : ¬ (a : Int) < (s : Int))]; rfl, rfl⟩
     case rest =>
     obtain ⟨rfl, hwx⟩ := hcut
     have hwx2 := hwx.symm
     clear hwx
     subst hwx2
     go_upto_if 158 with fail
     go_cut [22] (fun e22 wd => e22 = .int .i64 (E : Int) ∧ ∃ d2, SS wd base g n c B d2 ∧ W0.grownBy wd (some g) ∧ StM.Stb keyT a mid d1 d2 ∧ StM.Srt keyT a mid d2)
     case first =>
      by_cases hc1 : a < s
      ·have hc1I : (a : Int) < (s : Int) := by omega
       by_cases hc2 : s < mid
       ·have hc2I : (s : Int) < (mid : Int) := by omega
        go_wp2_with fail
        refine (HIH.out a s mid d1 _ (by omega) HOW.out hc1 hc2 (by omega) K2.out K3.out).mono ?_
        rintro e w1 ⟨rfl, d2, hS1, hg1, t1, t2⟩
        have HS1 := Lib.hid hS1
        have HG1 := Lib.hid (HG.out.trans hg1)
        have T1 := Lib.hid t1
        have T2 := Lib.hid t2
        clear hS1 hg1 t1 t2
        go_wp2_with fail
        go_meet
        exact ⟨rfl, d2, HS1.out, HG1.out, T1.out, T2.out⟩
       ·have hc2I : ¬ (s : Int) < (mid : Int) := by omega
        have T2 : Hid (StM.Srt keyT a mid d1) := by show StM.Srt _ _ _ _; rw [show mid = s by omega]; exact K2.out
        clear hc2
        go_wp2_with fail
        go_meet
        exact ⟨rfl, d1, HOW.out, HG.out, StM.Stb.refl _ _ _, T2.out⟩
      ·have hc1I : ¬ (a : Int) < (s : Int) := by omega
       have T2 : Hid (StM.Srt keyT a mid d1) := by show StM.Srt _ _ _ _; rw [show a = s by omega]; exact K3.out
       clear hc1
       go_wp2_with fail
       go_meet
       exact ⟨rfl, d1, HOW.out, HG.out, StM.Stb.refl _ _ _, T2.out⟩
     case rest =>
      clear HOW HG b0 b1 bl
      obtain ⟨rfl, d2, hown, hg, t1, t2⟩ := hcut
      have HOW := Lib.hid hown
      have HG := Lib.hid hg
      have T1 := Lib.hid t1
      have T2 := Lib.hid t2
      have T3 : Hid (StM.Srt keyT mid E d2) := K4.out.eq fun k h1 h2 => T1.out.out k (.inr h1)
      have T4 : Hid (StM.Srt keyT E b d2) := K5.out.eq fun k h1 h2 => T1.out.out k (.inr (by omega))
      have FIN : Hid (∀ d3, StM.Stb keyT mid b d2 d3 ∧ StM.Srt keyT mid b d3 → StM.Stb keyT a b d0 d3 ∧ StM.Srt keyT a b d3) := fun d3 h3 =>
       StM.merge3 f1 f2 f3 f4 F5.out H5.out H6.out F6.out F7.out (by rw [HD1.out]; exact ⟨T1.out, T2.out⟩) h3
      clear hown hg t1 t2
      obtain ⟨we, hwe⟩ : ∃ we, we = wc := ⟨_, rfl⟩
      subst hwe
      have hBB := HBB.out.grown HG.out (fun e => by injection e with e; omega)
      have b0 : we.cell? ⟨w.heap.size, 0, none⟩ = some (.func (.func 63) #[] #[.pointer (some ⟨B, 0, none⟩)]) := by simpa using hBB.cell 0
      have b1 : we.cell? ⟨w.heap.size, 1, none⟩ = some (.func (.func sf) #[] #[.slice (some ⟨g, 0, none⟩) n c, th]) := by simpa using hBB.cell 1
      have bl := hBB.lt
      clear hBB
      by_cases hc1 : mid < E
      ·have hc1I : (mid : Int) < (E : Int) := by omega
       by_cases hc2 : E < b
       ·have hc2I : (E : Int) < (b : Int) := by omega
        go_wp2_with fail
        refine (HIH.out mid E b d2 _ (by omega) HOW.out hc1 hc2 hb T3.out T4.out).mono ?_
        rintro e w1 ⟨rfl, d3, hS1, hg1, t1, t2⟩
        have HS1 := Lib.hid hS1
        have HG1 := Lib.hid (HG0.out.trans (HG.out.trans hg1))
        have T5 := Lib.hid (FIN.out d3 ⟨t1, t2⟩)
        clear hS1 hg1 t1 t2
        go_wp2_with fail
        go_end0
        exact ⟨rfl, d3, HS1.out, HG1.out, T5.out⟩
       ·have hc2I : ¬ (E : Int) < (b : Int) := by omega
        have T5 := Lib.hid (FIN.out d2 ⟨StM.Stb.refl _ _ _, by rw [show b = E by omega]; exact T3.out⟩)
        clear hc2
        go_wp2_with fail
        go_end0
        exact ⟨rfl, d2, HOW.out, HG0.out.trans HG.out, T5.out⟩
      ·have hc1I : ¬ (mid : Int) < (E : Int) := by omega
       have T5 := Lib.hid (FIN.out d2 ⟨StM.Stb.refl _ _ _, by rw [show mid = E by omega]; exact T4.out⟩)
       clear hc1
       go_wp2_with fail
       go_end0
       exact ⟨rfl, d2, HOW.out, HG0.out.trans HG.out, T5.out⟩
theorem symT (sf : Nat) (th : Value) (base g n c B : Nat) (hsw : SwT sf th base g n c B) (hn : n ≤ 1099511627776) : ∀ (k a m b : Nat) (d0 : Nat → Int) (w : World), b - a ≤ k → SS w base g n c B d0 → a < m → m < b → b ≤ n → StM.Srt keyT a m d0 → StM.Srt keyT m b d0 →
  Calls Tryz.prog 171 #[.agg #[.func (.func 63) #[] #[.pointer (some ⟨B, 0, none⟩)], .func (.func sf) #[] #[.slice (some ⟨g, 0, none⟩) n c, th]], .int .i64 (a : Int), .int .i64 (m : Int), .int .i64 (b : Int)] w (StP w base g n c B fun d' => StM.Stb keyT a b d0 d' ∧ StM.Srt keyT a b d')
 | 0, a, m, b, d0, w, hk, h, h1, h2, h3, h5, h6 => by omega
 | k + 1, a, m, b, d0, w, hk, h, h1, h2, h3, h5, h6 => by
  by_cases c1 : m = a + 1
  ·exact symA sf th base g n c B hsw hn a m b d0 w h c1 h2 h3 h6
  ·by_cases c2 : b = m + 1
   ·exact symB sf th base g n c B hsw hn a m b d0 w h (by omega) c2 h3 h5
   ·exact symC sf th base g n c B hsw hn a m b d0 w (fun a' m' b' d' w' hlt => symT sf th base g n c B hsw hn k a' m' b' d' w' (by omega)) h (by omega) (by omega) h3 h5 h6
end
end Go.Proofs.YtkcgdnnipohehaaGreatDoor
