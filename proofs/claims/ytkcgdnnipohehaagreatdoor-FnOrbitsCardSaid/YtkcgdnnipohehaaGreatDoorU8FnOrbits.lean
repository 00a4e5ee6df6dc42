/- Texts of this claim, one behind the other: part 8. -/
import Derived.Test.YtkcgdnnipohehaaGreatDoorU7FnOrbits
import Derived.Outline
import Derived.WalkLawsBesides
import Derived.WalkSpells
import Derived.BigQuiet
import Derived.Deep.QuietTactic
import Derived.Deep.RegionHeld3
import Derived.Deep.RegionWith
import Derived.Deep.DeepCutAuto
import Derived.Deep.CutBlock
import Derived.Deep.DrawnRows
import Derived.Test.YtkcgdnnipohehaaGreatDoorRows
import Derived.Lib.LaidTab
import Derived.LaidMore
import Derived.Stop.LaidErr
import Derived.MakeChecks
namespace Go.Proofs.YtkcgdnnipohehaaGreatDoor
open Go.RowKit
set_option linter.unusedVariables false
set_option maxRecDepth 100000
set_option maxHeartbeats 6400000
section
attribute [local go_sem ↓] Go.wp_at_zero Go.wp_at_succ
theorem sameInts_i (A B : Option Addr) (n c m d : Nat) (xs ys : List Int) (w : World) (hr : Rd w A (vI xs)) (hl : xs.length = n) (hr2 : Rd w B (vI ys)) (hl2 : ys.length = m) (hn : n ≤ 1099511627776) :
  Calls Tryz.prog 134 #[.slice A n c, .slice B m d] w (Ret w (.bool (decide (xs = ys)))) := by
 by_cases hnm : n = m
 ·subst hnm
  have HR := Lib.hid hr
  have HL := Lib.hid hl
  have HR2 := Lib.hid hr2
  have HL2 := Lib.hid hl2
  have hne0 : ((n : Int) != (n : Int)) = false := by simp
  clear hr hl hr2 hl2
  go_enter Tryz.func134, Tryz.ntmps134
  go_wp2_with fail
  go_loopw [13] (fun e13 wr => ∃ k : Nat, k ≤ n ∧ e13 = .int .i64 k ∧ (∀ j, j < k → xs.getD j 0 = ys.getD j 0) ∧ Below w.heap.size w wr) (fun e13 _ => n - (intOf e13).toNat)
  case atStart => exact ⟨0, Nat.zero_le _, rfl, (fun j h => by omega), Below.refl _ _⟩
  case round =>
   obtain ⟨k, hk1, rfl, hsame, hb⟩ := hrel
   have HSM := Lib.hid hsame
   have HB := Lib.hid hb
   clear hsame hb
   by_cases h1 : k < n
   ·have hi0 : (0 : Int) ≤ (k : Int) := by omega
    have hi1 : (k : Int) < (n : Int) := by omega
    have k1 : k < xs.length := by rw [HL.out]; exact h1
    have k2 : k < ys.length := by rw [HL2.out]; exact h1
    obtain ⟨g1, o1, hA, gl1, d1⟩ := RdI.at_ (HR.out.below HB.out) k1
    obtain ⟨g2, o2, hB, gl2, d2⟩ := RdI.at_ (HR2.out.below HB.out) k2
    have e1 : xs.getD k 0 = xs[k] := by rw [List.getD_eq_getElem?_getD, List.getElem?_eq_getElem k1]; rfl
    have e2 : ys.getD k 0 = ys[k] := by rw [List.getD_eq_getElem?_getD, List.getElem?_eq_getElem k2]; rfl
    obtain ⟨x, hx⟩ : ∃ x, xs[k] = x := ⟨_, rfl⟩
    obtain ⟨y, hy⟩ : ∃ y, ys[k] = y := ⟨_, rfl⟩
    rw [hx] at d1 e1
    rw [hy] at d2 e2
    subst hA
    subst hB
    by_cases hxy : x = y
    ·have HS2 : Hid (∀ j, j < k + 1 → xs.getD j 0 = ys.getD j 0) := fun j hj => by
      by_cases hjk : j = k
      ·rw [hjk, e1, e2, hxy]
      ·exact HSM.out j (by omega)
     have hne : (x != y) = false := by simp [hxy]
     clear hx hy e1 e2 k1 k2 hxy
     go_wp2_with fail
     (refine wp_region_below (by kernel_rfl) (by kernel_rfl) ?_; (repeat (first | go_big_quiet_skip | (refine quietV (v := ?_) (by rfl) rfl (fun w' hbw => ?_) ?_; rotate_left; ((try dsimp only at hbw); have hbc := (bcell hbw).1; have hbf := (bcell hbw).2; go_simp; first | done | with_reducible rfl | fail); simp only [sq1, sq2, sq3]))); refine wpQuiet_nil ?_; intro wq hbq)
     have HBQ := Lib.hid (bel_trans HB.out hbq)
     clear hbq
     go_wp2_with fail
     exact ⟨⟨k + 1, by omega, by go_num, HS2.out, HBQ.out⟩, by simp [intOf]; omega⟩
    ·have HV : Hid (decide (xs = ys) = false) := by
      show _ = _
      rw [decide_eq_false_iff_not]
      intro e
      rw [e, e2] at e1
      exact hxy e1.symm
     have hne : (x != y) = true := by simp [hxy]
     clear hx hy e1 e2 k1 k2 hxy
     go_wp2_with fail
     (refine wp_region_below (by kernel_rfl) (by kernel_rfl) ?_; (repeat (first | go_big_quiet_skip | (refine quietV (v := ?_) (by rfl) rfl (fun w' hbw => ?_) ?_; rotate_left; ((try dsimp only at hbw); have hbc := (bcell hbw).1; have hbf := (bcell hbw).2; go_simp; first | done | with_reducible rfl | fail); simp only [sq1, sq2, sq3]))); refine wpQuiet_nil ?_; intro wq hbq)
     have HBQ := Lib.hid (bel_trans HB.out hbq)
     clear hbq
     go_wp2_with fail
     go_ret
     exact ⟨by rw [HV.out]; rfl, HBQ.out⟩
   ·have hi1 : ¬ (k : Int) < (n : Int) := by omega
    have HV : Hid (decide (xs = ys) = true) := by
     show _ = _
     rw [decide_eq_true_iff]
     apply List.ext_getElem (HL.out.trans HL2.out.symm)
     intro j j1 j2
     have h := HSM.out j (by have := HL.out; omega)
     rw [List.getD_eq_getElem?_getD, List.getElem?_eq_getElem j1, List.getD_eq_getElem?_getD, List.getElem?_eq_getElem j2] at h
     exact h
    clear h1
    go_wp2_with fail
    go_ret
    exact ⟨by rw [HV.out]; rfl, HB.out⟩
 ·have hne0 : ((n : Int) != (m : Int)) = true := by simp; omega
  have HV : Hid (decide (xs = ys) = false) := by
   show _ = _
   rw [decide_eq_false_iff_not]
   intro e
   rw [e] at hl
   omega
  clear hr hl hr2 hl2 hnm
  go_enter Tryz.func134, Tryz.ntmps134
  go_wp2_with fail
  go_ret
  exact ⟨by rw [HV.out]; rfl, Below.refl _ _⟩
theorem fixed_i (W : Int) (A B : Option Addr) (n c u cu : Nat) (rows : List Int) (m : Int) (hs : List H) (F : List (List Int)) (w : World) (hr : Rd w A (vI rows)) (hl : rows.length = n) (hO : Rd2I w B u hs F) (hu : u ≤ 500) (hF : ∀ f ∈ F, f.length ≤ 36 ∧ Msk 36 f) (hok : ∀ f ∈ F, ttOk W rows f m = true) (hT : Tb w) :
  Calls Tryz.prog 78 #[.agg #[.int .i64 W, .slice A n c], .slice B u cu, .int .i64 m] w (Ret w (.int .i64 ((F.countP (keptB W rows m) : Nat) : Int))) := by
 have HL := Lib.hid hl
 have HR := Lib.hid (hr.alloc (.cells #[.int .i64 W, .slice A n c] 26))
 have HRF := Lib.hid (hO.below (bel_alloc (Below.refl w.heap.size w) (.cells #[.int .i64 W, .slice A n c] 26)))
 have HB0 := Lib.hid (Blk.new w 26 #[.int .i64 W, .slice A n c])
 have hbw0 : Below w.heap.size w (w.alloc (.cells #[.int .i64 W, .slice A n c] 26)) := bel_alloc (Below.refl _ _) _
 have HBW0 := Lib.hid hbw0
 have HT := Lib.hid (hT.below hbw0)
 have HUL := Lib.hid hO.flen
 have HMSK := Lib.hid hF
 have HOK := Lib.hid hok
 clear hr hl hO hF hok hT hbw0
 obtain ⟨W0, hW0⟩ : ∃ W0, w.alloc (.cells #[.int .i64 W, .slice A n c] 26) = W0 := ⟨_, rfl⟩
 rw [hW0] at HR HRF HB0 HT HBW0
 have HW0 := Lib.hid hW0
 have HBX : Hid (∀ {w1 : World}, Below W0.heap.size W0 w1 → w1.cell? ⟨w.heap.size, 0, none⟩ = some (.int .i64 W) ∧ w1.cell? ⟨w.heap.size, 1, none⟩ = some (.slice A n c) ∧ w.heap.size < w1.heap.size) := fun h => by
  have hB := HB0.out.below h
  exact ⟨by simpa using hB.cell 0, by simpa using hB.cell 1, hB.lt⟩
 clear hW0
 go_enter Tryz.func78, Tryz.ntmps78
 go_wp2_with fail
 rw [HW0.out]
 go_loopw [14, 7] (fun e9 e7 wr => ∃ (i z : Nat), i ≤ u ∧ e9 = .int .i64 i ∧ e7 = .int .i64 z ∧ z = (F.take i).countP (keptB W rows m) ∧ z ≤ i ∧ Below W0.heap.size W0 wr) (fun e9 _ _ => u - (intOf e9).toNat)
 case atStart => exact ⟨0, 0, Nat.zero_le _, rfl, rfl, by simp, Nat.le_refl _, Below.refl _ _⟩
 case round =>
  obtain ⟨i, z, hiu, rfl, rfl, hz, hzi, hb⟩ := hrel
  have HZ := Lib.hid hz
  have HB := Lib.hid hb
  clear hz hb
  (try clear b0 b1 bl)
  obtain ⟨b0, b1, bl⟩ := HBX.out (HB.out)
  by_cases hlt : i < u
  ·have hi0 : (0 : Int) ≤ (i : Int) := by omega
   have hi1 : (i : Int) < (u : Int) := by omega
   have hil : i < F.length := by rw [HUL.out]; exact hlt
   obtain ⟨h0, f, g, off, hfx, hEe, hge, d0, l1, r1⟩ := (HRF.out.below HB.out).at_ hlt
   obtain ⟨C1, m1, k1⟩ := h0
   dsimp only at d0 l1 r1
   have hf : F[i] = f := by rw [List.getElem?_eq_getElem hil] at hfx; exact Option.some.inj hfx
   have hcp := countP_snoc (keptB W rows m) hil
   rw [hf] at hcp
   have hfmem : f ∈ F := by rw [← hf]; exact List.getElem_mem hil
   obtain ⟨hf36, hfm⟩ := HMSK.out f hfmem
   have hto := HOK.out f hfmem
   have hm36 : m1 ≤ 36 := by omega
   have HCP := Lib.hid hcp
   have HFM := Lib.hid hfm
   have HR1 := Lib.hid r1
   have HL1 := Lib.hid l1
   have HTO := Lib.hid hto
   subst hEe
   clear hfx hil hf hcp hf36 hfm r1 l1 hfmem hto
   go_wp2_with fail
   refine (TurnTiling_i W A n c C1 m1 k1 rows f m _ (HR.out.below HB.out) HL.out HR1.out HL1.out (msk_63 HFM.out) (by omega) (HT.out.below HB.out)).mono ?_
   rw [HTO.out]
   rintro e wz ⟨X, qx, cx, rfl, hoX, hbX⟩
   have htl := ttV_len W rows f m
   have HTQ := Lib.hid (by have := own_len hoX; rw [vI_length] at this; omega : (ttV W rows f m).length = qx)
   have HRX := Lib.hid (Rd.of_own hoX)
   have HBZ := Lib.hid (bel_trans HB.out hbX)
   have d1 := keep_below hbX d0
   have dl := World.block_lt_of_cell? _ _ d1
   have hqx : qx ≤ 1099511627776 := by have := HTQ.out; have := HL1.out; omega
   have HSM := Lib.hid (sameInts_i X C1 qx cx m1 k1 (ttV W rows f m) f wz HRX.out HTQ.out (HR1.out.below hbX) HL1.out hqx)
   clear hoX hbX htl d0 b0 b1 bl
   by_cases hk : ttV W rows f m = f
   ·have hkb : keptB W rows m f = true := by unfold keptB; exact decide_eq_true hk
    have hsm := HSM.out
    rw [decide_eq_true hk] at hsm
    have HSM := Lib.hid hsm
    have HZ2 : Hid (z + 1 = (F.take (i + 1)).countP (keptB W rows m)) := by show _ = _; rw [HCP.out, hkb, if_pos rfl, HZ.out]
    clear hk hkb hsm
    go_wp2_with fail
    refine HSM.out.mono ?_
    rintro e w7 ⟨rfl, hb7⟩
    go_wp2_with fail
    exact ⟨⟨i + 1, z + 1, by omega, by go_num, by go_num, HZ2.out, by omega, bel_trans HBZ.out hb7⟩, by simp [intOf]; omega⟩
   ·have hkb : keptB W rows m f = false := by unfold keptB; exact decide_eq_false hk
    have hsm := HSM.out
    rw [decide_eq_false hk] at hsm
    have HSM := Lib.hid hsm
    have HZ2 : Hid (z = (F.take (i + 1)).countP (keptB W rows m)) := by show _ = _; rw [HCP.out, hkb, HZ.out]; rfl
    clear hk hkb hsm
    go_wp2_with fail
    refine HSM.out.mono ?_
    rintro e w7 ⟨rfl, hb7⟩
    go_wp2_with fail
    exact ⟨⟨i + 1, z, by omega, by go_num, rfl, HZ2.out, by omega, bel_trans HBZ.out hb7⟩, by simp [intOf]; omega⟩
  ·have hi1 : ¬ (i : Int) < (u : Int) := by omega
   have HE : Hid (((F.countP (keptB W rows m) : Nat) : Int) = (z : Int)) := by
    show _ = _
    rw [HZ.out, List.take_of_length_le (by rw [HUL.out]; omega)]
   go_wp2_with fail
   go_ret
   exact ⟨by rw [HE.out]; rfl, bel_trans HBW0.out HB.out⟩
theorem FixedTilings_i (W : Int) (A B : Option Addr) (n c q cb : Nat) (rows : List Int) (m : Int) (hs : List H) (P : List (List C)) (w : World) (hr : Rd w A (vI rows)) (hl : rows.length = n) (hp : RdP w B q hs P) (hq : q ≤ 1048576) (hm : totC P ≤ 1048576) (_h63 : m < 9223372036854775808) (hT : Tb w) :
  Calls Tryz.prog 23 #[.agg #[.int .i64 W, .slice A n c], .slice B q cb, .int .i64 m] w (Ret w (.int .i64 (fxdV W rows P m))) := by
 have HL := Lib.hid hl
 have HR := Lib.hid (hr.alloc (.cells #[.int .i64 W, .slice A n c] 26))
 have HP := Lib.hid (hp.alloc (.cells #[.int .i64 W, .slice A n c] 26))
 have HB0 := Lib.hid (Blk.new w 26 #[.int .i64 W, .slice A n c])
 have HM := Lib.hid hm
 have hbw0 : Below w.heap.size w (w.alloc (.cells #[.int .i64 W, .slice A n c] 26)) := bel_alloc (Below.refl _ _) _
 have HBW0 := Lib.hid hbw0
 have hml := motV_len W rows
 have HT := Lib.hid (hT.below hbw0)
 clear hl hr hp hm hbw0 _h63 hT
 obtain ⟨W0, hW0⟩ : ∃ W0, w.alloc (.cells #[.int .i64 W, .slice A n c] 26) = W0 := ⟨_, rfl⟩
 rw [hW0] at HR HP HB0 HT HBW0
 have HW0 := Lib.hid hW0
 have HBX : Hid (∀ {w1 : World}, Below W0.heap.size W0 w1 → w1.cell? ⟨w.heap.size, 0, none⟩ = some (.int .i64 W) ∧ w1.cell? ⟨w.heap.size, 1, none⟩ = some (.slice A n c) ∧ w.heap.size < w1.heap.size) := fun h => by
  have hB := HB0.out.below h
  exact ⟨by simpa using hB.cell 0, by simpa using hB.cell 1, hB.lt⟩
 clear hW0
 (try clear b0 b1 bl)
 obtain ⟨b0, b1, bl⟩ := HBX.out (Below.refl _ _)
 obtain ⟨ip, hip⟩ : ∃ b, (isReg W rows && pcs P) = b := ⟨_, rfl⟩
 have HIP := Lib.hid hip
 cases ip with
 | false =>
  have HF : Hid (fxdV W rows P m = -1) := by show _ = _; unfold fxdV; rw [hip]; rfl
  clear hip
  go_enter Tryz.func23, Tryz.ntmps23
  go_wp2_with fail
  rw [HW0.out]
  refine (isProblem_i W A B n c q cb rows hs P _ HR.out HL.out HP.out hq HM.out).mono ?_
  rw [HIP.out]
  rintro e w1 ⟨rfl, hb1⟩
  have HB1 := Lib.hid (bel_trans HBW0.out hb1)
  clear hb1
  go_wp2_with fail
  go_ret
  exact ⟨by rw [HF.out]; rfl, HB1.out⟩
 | true =>
  have h2 := hip
  simp only [Bool.and_eq_true] at h2
  obtain ⟨hv, hpc⟩ := h2
  obtain ⟨an, han⟩ : ∃ an, (motV W rows).any (· == m) = an := ⟨_, rfl⟩
  have HAN := Lib.hid han
  have HF : Hid (fxdV W rows P m = if an then ((fixN W rows P m : Nat) : Int) else -1) := by show _ = _; unfold fxdV; rw [hip, han]; rfl
  have hLm := allV_msk W rows P
  have hLl := allV_len W rows P
  have hp5 := (pcs_at hpc).1
  have hM36 : maskV W rows < 2 ^ 36 := maskV_62 hv
  obtain ⟨L, hL⟩ : ∃ L, allV W rows P = L := ⟨_, rfl⟩
  obtain ⟨M, hMM⟩ : ∃ M, maskV W rows = M := ⟨_, rfl⟩
  have hL15 : l15V W rows P = (tilV L M).take 500 := by unfold l15V; rw [hL, hMM]
  rw [hL] at hLm hLl
  rw [hMM] at hM36
  have hL5 : L.length ≤ 1440 := by omega
  have HLE := Lib.hid hL
  have HLM := Lib.hid hLm
  have HL5 := Lib.hid hL5
  have HMM := Lib.hid hMM
  have HM36 := Lib.hid hM36
  have HL15 := Lib.hid hL15
  have HV := Lib.hid hv
  have HPC := Lib.hid hpc
  clear hip hv hpc han hLm hLl hp5 hL hMM hL5 hM36 hL15
  go_enter Tryz.func23, Tryz.ntmps23
  go_wp2_with fail
  rw [HW0.out]
  refine (isProblem_i W A B n c q cb rows hs P _ HR.out HL.out HP.out hq HM.out).mono ?_
  rw [HIP.out]
  rintro e w2 ⟨rfl, hb2⟩
  have HB2 := Lib.hid hb2
  clear hb2
  (try clear b0 b1 bl)
  obtain ⟨b0, b1, bl⟩ := HBX.out (HB2.out)
  go_wp2_with fail
  refine (RegionMotions_i W A n c rows _ (HR.out.below HB2.out) HL.out).mono ?_
  rintro e w3 ⟨G, qg, cq, rfl, hoG, hb3⟩
  have HQ := Lib.hid (by have := own_len hoG; rw [vI_length] at this; omega : (motV W rows).length = qg)
  have hqg : qg ≤ 1099511627776 := by have := HQ.out; omega
  have HB3 := Lib.hid (bel_trans HB2.out hb3)
  have HRG := Lib.hid (Rd.of_own hoG)
  clear hoG hb3 hml
  go_wp2_with fail
  refine (hasInt_i G qg cq _ m _ HRG.out HQ.out hqg).mono ?_
  rw [HAN.out]
  rintro e w4 ⟨rfl, hb4⟩
  have HB4 := Lib.hid (bel_trans HB3.out hb4)
  clear hb4
  (try clear b0 b1 bl)
  obtain ⟨b0, b1, bl⟩ := HBX.out (HB4.out)
  cases an with
  | false =>
   go_wp2_with fail
   go_ret
   exact ⟨by rw [HF.out]; rfl, bel_trans HBW0.out HB4.out⟩
  | true =>
   have hmsk := til_msk (P := P) HV.out
   have hokk : ∀ f ∈ l15V W rows P, ttOk W rows f m = true := fun f hf => by
    unfold ttOk
    rw [HAN.out, l15_ok HV.out (allV_msk W rows P) hf]
    rfl
   have hu500 : (l15V W rows P).length ≤ 500 := by unfold l15V; rw [List.length_take]; omega
   have HMSK := Lib.hid hmsk
   have HOKK := Lib.hid hokk
   have HU5 := Lib.hid hu500
   clear hmsk hokk hu500
   go_wp2_with fail
   refine wp_region_rg 10 rfl (by kernel_rfl) ?_
   (refine rgT (i := 0) (v := ?_) rfl rfl (by kernel_rfl) (by kernel_rfl) (by kernel_rfl) (by rfl) (fun w' hcw => ?_) ?_; rotate_left; ((try dsimp only at hcw); have hbc := hcw.cells; go_simp; first | done | with_reducible rfl); simp only [sq1, sq2, sq3])
   (refine rgT (i := 1) (v := ?_) rfl rfl (by kernel_rfl) (by kernel_rfl) (by kernel_rfl) (by rfl) (fun w' hcw => ?_) ?_; rotate_left; ((try dsimp only at hcw); have hbc := hcw.cells; go_simp; first | done | with_reducible rfl); simp only [sq1, sq2, sq3])
   (refine rgT (i := 2) (v := ?_) rfl rfl (by kernel_rfl) (by kernel_rfl) (by kernel_rfl) (by rfl) (fun w' hcw => ?_) ?_; rotate_left; ((try dsimp only at hcw); have hbc := hcw.cells; go_simp; first | done | with_reducible rfl); simp only [sq1, sq2, sq3])
   (refine rgT (i := 4) (v := ?_) rfl rfl (by kernel_rfl) (by kernel_rfl) (by kernel_rfl) (by rfl) (fun w' hcw => ?_) ?_; rotate_left; ((try dsimp only at hcw); have hbc := hcw.cells; go_simp; first | done | with_reducible rfl); simp only [sq1, sq2, sq3])
   (refine rgT (i := 7) (v := ?_) rfl rfl (by kernel_rfl) (by kernel_rfl) (by kernel_rfl) (by rfl) (fun w' hcw => ?_) ?_; rotate_left; ((try dsimp only at hcw); have hbc := hcw.cells; go_simp; first | done | with_reducible rfl); simp only [sq1, sq2, sq3])
   refine rgK_one (i := 3) (by kernel_rfl) rfl rfl (fun u1 hc1 he1 K hK => ?_)
   go_simp
   refine (all_i W A B n c q cb rows hs P _ (HR.out.below (bel_trans HB4.out hc1)) HL.out HV.out (HP.out.below (bel_trans HB4.out hc1)) HPC.out).mono ?_
   rw [HLE.out]
   rintro e u2 ⟨gE, q3, c3, rfl, hO, hb2⟩
   have hq3 : L.length = q3 := by have := own_len hO; rw [vI_length] at this; omega
   have hc2 : Below w4.heap.size w4 u2 := bel_trans hc1 hb2
   refine hK _ _ hc2 ?_
   clear hK K
   have HQ3 := Lib.hid hq3
   have HRE := Lib.hid (Rd.of_own hO)
   have hq4 : q3 ≤ 1440 := by have := HL5.out; omega
   clear hO hq3
   refine rgK_one (i := 5) (by kernel_rfl) rfl rfl (fun u5 hc5 he5 K hK => ?_)
   go_simp
   refine (mask_i W A n c rows _ (HR.out.below (bel_trans HB4.out hc5)) HL.out HV.out).mono ?_
   rw [HMM.out]
   rintro e u6 ⟨rfl, hb6⟩
   refine hK _ _ (bel_trans hc5 hb6) ?_
   clear hK K
   have he6 := bel_trans he5 hb6
   refine rgK_one (i := 6) (by kernel_rfl) rfl rfl (fun u3 hc3 he3 K hK => ?_)
   go_simp
   refine (firstTilings_i gE q3 c3 M 500 L _ (HRE.out.below (bel_trans he6 he3)) HQ3.out (by omega) HLM.out HM36.out (HT.out.below (bel_trans HB4.out hc3)) (by omega) (by omega)).mono ?_
   rw [← HL15.out]
   rintro e u4 ⟨E, u, cu, hE, rfl, hOE, hb4⟩
   have hc4 : Below w4.heap.size w4 u4 := bel_trans hc3 hb4
   refine hK _ _ hc4 ?_
   clear hK K
   have hue := hOE.flen
   refine rgK_one (i := 8) (by kernel_rfl) rfl rfl (fun u7 hc7 he7 K hK => ?_)
   go_simp
   refine (fixed_i W A E n c u cu rows m hE (l15V W rows P) _ (HR.out.below (bel_trans HB4.out hc7)) HL.out (Rd2I.of_own (hOE.below he7)) (by have := HU5.out; omega) HMSK.out HOKK.out (HT.out.below (bel_trans HB4.out hc7))).mono ?_
   rintro e u8 ⟨rfl, hb8⟩
   refine hK _ _ (bel_trans hc7 hb8) ?_
   clear hK K
   (refine rgT (i := 9) (v := ?_) rfl rfl (by kernel_rfl) (by kernel_rfl) (by kernel_rfl) (by rfl) (fun w' hcw => ?_) ?_; rotate_left; ((try dsimp only at hcw); have hbc := hcw.cells; go_simp; first | done | with_reducible rfl); simp only [sq1, sq2, sq3])
   refine ⟨by kernel_rfl, fun wz hcz hez => NoPanic.normal ?_⟩
   have HBZ := Lib.hid (bel_trans HBW0.out (bel_trans HB4.out hcz))
   clear hOE hcz hez
   go_wp2_with fail
   go_ret
   exact ⟨by rw [HF.out]; rfl, HBZ.out⟩
theorem CountOrbits_i (W : Int) (A B : Option Addr) (n c q cb : Nat) (rows : List Int) (hs : List H) (P : List (List C)) (w : World) (hr : Rd w A (vI rows)) (hl : rows.length = n) (hp : RdP w B q hs P) (hq : q ≤ 1048576) (hm : totC P ≤ 1048576) (hT : Tb w) :
  Calls Tryz.prog 15 #[.agg #[.int .i64 W, .slice A n c], .slice B q cb] w (Ret w (.int .i64 (orbV W rows P))) := by
 have HL := Lib.hid hl
 have HR := Lib.hid (hr.alloc (.cells #[.int .i64 W, .slice A n c] 26))
 have HP := Lib.hid (hp.alloc (.cells #[.int .i64 W, .slice A n c] 26))
 have HB0 := Lib.hid (Blk.new w 26 #[.int .i64 W, .slice A n c])
 have HM := Lib.hid hm
 have hbw0 : Below w.heap.size w (w.alloc (.cells #[.int .i64 W, .slice A n c] 26)) := bel_alloc (Below.refl _ _) _
 have HBW0 := Lib.hid hbw0
 have hml := motV_len W rows
 have HT := Lib.hid (hT.below hbw0)
 clear hl hr hp hm hbw0 hT
 obtain ⟨W0, hW0⟩ : ∃ W0, w.alloc (.cells #[.int .i64 W, .slice A n c] 26) = W0 := ⟨_, rfl⟩
 rw [hW0] at HR HP HB0 HT HBW0
 have HW0 := Lib.hid hW0
 have HBX : Hid (∀ {w1 : World}, Below W0.heap.size W0 w1 → w1.cell? ⟨w.heap.size, 0, none⟩ = some (.int .i64 W) ∧ w1.cell? ⟨w.heap.size, 1, none⟩ = some (.slice A n c) ∧ w.heap.size < w1.heap.size) := fun h => by
  have hB := HB0.out.below h
  exact ⟨by simpa using hB.cell 0, by simpa using hB.cell 1, hB.lt⟩
 clear hW0
 (try clear b0 b1 bl)
 obtain ⟨b0, b1, bl⟩ := HBX.out (Below.refl _ _)
 obtain ⟨ip, hip⟩ : ∃ b, (isReg W rows && pcs P) = b := ⟨_, rfl⟩
 have HIP := Lib.hid hip
 cases ip with
 | false =>
  have HF : Hid (orbV W rows P = -1) := by show _ = _; unfold orbV; rw [hip]; rfl
  clear hip
  go_enter Tryz.func15, Tryz.ntmps15
  go_wp2_with fail
  rw [HW0.out]
  refine (isProblem_i W A B n c q cb rows hs P _ HR.out HL.out HP.out hq HM.out).mono ?_
  rw [HIP.out]
  rintro e w1 ⟨rfl, hb1⟩
  have HB1 := Lib.hid (bel_trans HBW0.out hb1)
  clear hb1
  go_wp2_with fail
  go_ret
  exact ⟨by rw [HF.out]; rfl, HB1.out⟩
 | true =>
  have h2 := hip
  simp only [Bool.and_eq_true] at h2
  obtain ⟨hv, hpc⟩ := h2
  have hmne := motV_ne hv
  have HF : Hid (orbV W rows P = if (l15V W rows P).length < 500 then ((sumN W rows P (motV W rows) / (motV W rows).length : Nat) : Int) else -1) := by
   show _ = _
   unfold orbV
   rw [hip]
   simp
  have hLm := allV_msk W rows P
  have hLl := allV_len W rows P
  have hp5 := (pcs_at hpc).1
  have hM36 : maskV W rows < 2 ^ 36 := maskV_62 hv
  obtain ⟨L, hL⟩ : ∃ L, allV W rows P = L := ⟨_, rfl⟩
  obtain ⟨M, hMM⟩ : ∃ M, maskV W rows = M := ⟨_, rfl⟩
  have hL15 : l15V W rows P = (tilV L M).take 500 := by unfold l15V; rw [hL, hMM]
  rw [hL] at hLm hLl
  rw [hMM] at hM36
  have hL5 : L.length ≤ 1440 := by omega
  have HLE := Lib.hid hL
  have HLM := Lib.hid hLm
  have HL5 := Lib.hid hL5
  have HMM := Lib.hid hMM
  have HM36 := Lib.hid hM36
  have HL15 := Lib.hid hL15
  have HV := Lib.hid hv
  have HPC := Lib.hid hpc
  have HNE := Lib.hid hmne
  have hmsk := til_msk (P := P) hv
  have HMSK := Lib.hid hmsk
  have hokk : ∀ m ∈ motV W rows, ∀ f ∈ l15V W rows P, ttOk W rows f m = true := fun m hm f hf => by
   rw [ttOk_mem hm]
   exact l15_ok hv (allV_msk W rows P) hf
  have HOKK := Lib.hid hokk
  have hu500 : (l15V W rows P).length ≤ 500 := by unfold l15V; rw [List.length_take]; omega
  have HU5 := Lib.hid hu500
  clear hip hv hpc hLm hLl hp5 hL hMM hL5 hM36 hL15 hmne hmsk hokk hu500
  go_enter Tryz.func15, Tryz.ntmps15
  go_wp2_with fail
  rw [HW0.out]
  refine (isProblem_i W A B n c q cb rows hs P _ HR.out HL.out HP.out hq HM.out).mono ?_
  rw [HIP.out]
  rintro e w2 ⟨rfl, hb2⟩
  have HB2 := Lib.hid hb2
  clear hb2
  (try clear b0 b1 bl)
  obtain ⟨b0, b1, bl⟩ := HBX.out (HB2.out)
  go_wp2_with fail
  refine wp_region_rg 7 rfl (by kernel_rfl) ?_
  (refine rgT (i := 0) (v := ?_) rfl rfl (by kernel_rfl) (by kernel_rfl) (by kernel_rfl) (by rfl) (fun w' hcw => ?_) ?_; rotate_left; ((try dsimp only at hcw); have hbc := hcw.cells; go_simp; first | done | with_reducible rfl); simp only [sq1, sq2, sq3])
  (refine rgT (i := 1) (v := ?_) rfl rfl (by kernel_rfl) (by kernel_rfl) (by kernel_rfl) (by rfl) (fun w' hcw => ?_) ?_; rotate_left; ((try dsimp only at hcw); have hbc := hcw.cells; go_simp; first | done | with_reducible rfl); simp only [sq1, sq2, sq3])
  (refine rgT (i := 3) (v := ?_) rfl rfl (by kernel_rfl) (by kernel_rfl) (by kernel_rfl) (by rfl) (fun w' hcw => ?_) ?_; rotate_left; ((try dsimp only at hcw); have hbc := hcw.cells; go_simp; first | done | with_reducible rfl); simp only [sq1, sq2, sq3])
  refine rgK_one (i := 2) (by kernel_rfl) rfl rfl (fun u1 hc1 he1 K hK => ?_)
  go_simp
  refine (all_i W A B n c q cb rows hs P _ (HR.out.below (bel_trans HB2.out hc1)) HL.out HV.out (HP.out.below (bel_trans HB2.out hc1)) HPC.out).mono ?_
  rw [HLE.out]
  rintro e u2 ⟨gE, q3, c3, rfl, hO, hb2⟩
  have hq3 : L.length = q3 := by have := own_len hO; rw [vI_length] at this; omega
  have hc2 : Below w2.heap.size w2 u2 := bel_trans hc1 hb2
  refine hK _ _ hc2 ?_
  clear hK K
  have HQ3 := Lib.hid hq3
  have HRE := Lib.hid (Rd.of_own hO)
  have hq4 : q3 ≤ 1440 := by have := HL5.out; omega
  clear hO hq3
  refine rgK_one (i := 4) (by kernel_rfl) rfl rfl (fun u5 hc5 he5 K hK => ?_)
  go_simp
  refine (mask_i W A n c rows _ (HR.out.below (bel_trans HB2.out hc5)) HL.out HV.out).mono ?_
  rw [HMM.out]
  rintro e u6 ⟨rfl, hb6⟩
  refine hK _ _ (bel_trans hc5 hb6) ?_
  clear hK K
  have he6 := bel_trans he5 hb6
  refine rgK_one (i := 5) (by kernel_rfl) rfl rfl (fun u3 hc3 he3 K hK => ?_)
  go_simp
  refine (firstTilings_i gE q3 c3 M 500 L _ (HRE.out.below (bel_trans he6 he3)) HQ3.out (by omega) HLM.out HM36.out (HT.out.below (bel_trans HB2.out hc3)) (by omega) (by omega)).mono ?_
  rw [← HL15.out]
  rintro e u4 ⟨E, u, cu, hE, rfl, hOE, hb4⟩
  have hc4 : Below w2.heap.size w2 u4 := bel_trans hc3 hb4
  refine hK _ _ hc4 ?_
  clear hK K
  (refine rgT (i := 6) (v := ?_) rfl rfl (by kernel_rfl) (by kernel_rfl) (by kernel_rfl) (by rfl) (fun w' hcw => ?_) ?_; rotate_left; ((try dsimp only at hcw); have hbc := hcw.cells; go_simp; first | done | with_reducible rfl); simp only [sq1, sq2, sq3])
  refine ⟨by kernel_rfl, fun wz hcz hez => NoPanic.normal ?_⟩
  have hul := hOE.flen
  rw [hul] at HF HU5
  have HUL := Lib.hid hul
  have HRF := Lib.hid (Rd2I.of_own (hOE.below hez))
  have HBZ := Lib.hid (bel_trans HB2.out hcz)
  have hu5 : u ≤ 500 := HU5.out
  clear hOE hcz hez hul hc1 he1 hb2 hc2 hc5 he5 hb6 he6 hc3 he3 hb4 hc4
  (try clear b0 b1 bl)
  obtain ⟨b0, b1, bl⟩ := HBX.out (HBZ.out)
  by_cases hu : u < 500
  ·have huI : ¬ (u : Int) ≥ 500 := by omega
   have hf2 := HF.out
   rw [if_pos hu] at hf2
   have HF := Lib.hid hf2
   clear hf2
   obtain ⟨Mo, hMo⟩ : ∃ Mo, motV W rows = Mo := ⟨_, rfl⟩
   have HMO := Lib.hid hMo
   rw [hMo] at HF HNE HOKK hml
   clear hMo
   go_wp2_with fail
   refine (RegionMotions_i W A n c rows _ (HR.out.below HBZ.out) HL.out).mono ?_
   rw [HMO.out]
   rintro e w5 ⟨G, qg, cq, rfl, hoG, hb5⟩
   have HQ := Lib.hid (by have := own_len hoG; rw [vI_length] at this; omega : Mo.length = qg)
   have HRG := Lib.hid (Rd.of_own hoG)
   have HB5 := Lib.hid (bel_trans HBZ.out hb5)
   have HBZ5 := Lib.hid hb5
   have hq8 : qg ≤ 8 := by have := HQ.out; omega
   have hq0 : 0 < qg := by
    rcases Nat.eq_zero_or_pos qg with h | h
    ·exact absurd (List.eq_nil_of_length_eq_zero (by rw [HQ.out, h])) HNE.out
    ·exact h
   clear hoG hb5 b0 b1 bl
   go_wp2_with fail
   go_loopw [27, 6] (fun e7 e6 wr => ∃ (i z : Nat), i ≤ qg ∧ e7 = .int .i64 i ∧ e6 = .int .i64 z ∧ z = sumN W rows P (Mo.take i) ∧ z ≤ 500 * i ∧ Below w5.heap.size w5 wr) (fun e7 _ _ => qg - (intOf e7).toNat)
   case atStart => exact ⟨0, 0, Nat.zero_le _, rfl, rfl, by simp [sumN], Nat.le_refl _, Below.refl _ _⟩
   case round =>
    obtain ⟨i, z, hiu, rfl, rfl, hz, hzi, hb⟩ := hrel
    have HZ := Lib.hid hz
    have HB := Lib.hid hb
    clear hz hb
    (try clear b0 b1 bl)
    obtain ⟨b0, b1, bl⟩ := HBX.out (bel_trans HB5.out HB.out)
    by_cases hlt : i < qg
    ·have hi0 : (0 : Int) ≤ (i : Int) := by omega
     have hi1 : (i : Int) < (qg : Int) := by omega
     have hil : i < Mo.length := by rw [HQ.out]; exact hlt
     obtain ⟨gg, off, hA, hgg, d1⟩ := RdI.at_ (HRG.out.below HB.out) hil
     have hst := sumN_take (W := W) (rows := rows) (P := P) hil
     obtain ⟨m, hmm⟩ : ∃ m, Mo[i] = m := ⟨_, rfl⟩
     have hokm := HOKK.out m (by rw [← hmm]; exact List.getElem_mem hil)
     rw [hmm] at d1 hst
     have hfl := fixN_le W rows P m
     obtain ⟨fx, hfx⟩ : ∃ fx, fixN W rows P m = fx := ⟨_, rfl⟩
     rw [hfx] at hst hfl
     have HFI : Hid (Calls Tryz.prog 78 #[.agg #[.int .i64 W, .slice A n c], .slice E u cu, .int .i64 m] wr (Ret wr (.int .i64 (fx : Int)))) := by
      have h := fixed_i W A E n c u cu rows m hE (l15V W rows P) wr (HR.out.below (bel_trans HB5.out HB.out)) HL.out ((HRF.out.below HBZ5.out).below HB.out) hu5 HMSK.out hokm (HT.out.below (bel_trans HB5.out HB.out))
      unfold fixN at hfx
      rw [hfx] at h
      exact h
     have HST := Lib.hid hst
     have hzx : z + fx ≤ 500 * (i + 1) := by omega
     have HWZ : Hid (IntKind.i64.wrap ((z : Int) + (fx : Int)) = ((z + fx : Nat) : Int)) := (Go.IntWalk.i64_in _ (by omega)).trans (by omega)
     subst hA
     clear hmm hil hfx hst hokm
     go_wp2_with fail
     refine HFI.out.mono ?_
     rintro e w7 ⟨rfl, hb7⟩
     have HB7 := Lib.hid (bel_trans HB.out hb7)
     clear hb7
     go_wp2_with fail
     exact ⟨⟨i + 1, z + fx, by omega, by go_num, (by first | go_num | rw [HWZ.out]), by rw [HST.out, HZ.out], hzx, HB7.out⟩, by simp [intOf]; omega⟩
    ·obtain rfl : i = qg := by omega
     have hi1 : ¬ (i : Int) < (i : Int) := by omega
     have hne0 : ((i : Int) == 0) = false := by simp; omega
     have htd : (z : Int).tdiv (i : Int) = ((z / i : Nat) : Int) := by rw [Int.tdiv_eq_ediv_of_nonneg (by omega)]; simp
     have hzd : z / i ≤ z := Nat.div_le_self _ _
     obtain ⟨d, hd⟩ : ∃ d, z / i = d := ⟨_, rfl⟩
     rw [hd] at htd hzd
     have hdw : IntKind.i64.wrap (d : Int) = (d : Int) := Go.IntWalk.i64_in _ (by omega)
     have HE : Hid (orbV W rows P = (d : Int)) := by
      show _ = _
      have h := HZ.out
      rw [List.take_of_length_le (by rw [HQ.out]; exact Nat.le_refl _)] at h
      rw [HF.out, HQ.out, ← h, hd]
     clear hd
     go_wp2_with fail
     go_ret
     exact ⟨by rw [HE.out]; rfl, bel_trans HBW0.out (bel_trans HB5.out HB.out)⟩
  ·have huI : (u : Int) ≥ 500 := by omega
   have hf2 := HF.out
   rw [if_neg hu] at hf2
   have HF := Lib.hid hf2
   clear hf2
   go_wp2_with fail
   go_ret
   exact ⟨by rw [HF.out]; rfl, bel_trans HBW0.out HBZ.out⟩
end

section
attribute [local go_sem ↓] Go.wp_at_zero Go.wp_at_succ
theorem pop_half {y : Nat} (h : y < 2 ^ 63) : pop y = y % 2 + pop (y / 2) := by
 rw [pop_at (k := 64) (by omega) (by omega), pop_at (x := y / 2) (k := 63) (by omega) (by omega)]
 exact popN_succ 63 y
theorem pop_zero : pop 0 = 0 := by decide
theorem bits_l (x : Nat) (w : World) (hx : x < 2 ^ 62) : Calls Tryz.prog 25 #[.int .i64 (x : Int)] w (Ret w (.int .i64 (pop x : Nat))) := by
 by_cases hx0 : 0 < x
 ·have hp64 : pop x ≤ 64 := by unfold pop; have h := List.countP_le_length (p := fun i => x.testBit i) (l := List.range 64); simpa using h
  have hm : (x : Int) > 0 := by omega
  obtain ⟨r, hr⟩ : ∃ r, pop x = r := ⟨_, rfl⟩
  rw [hr] at hp64 ⊢
  have HR := Lib.hid hr
  clear hr hx0
  go_enter Tryz.func25, Tryz.ntmps25
  go_wp2_with fail
  go_loopw [4, 3] (fun e4 e3 wr => ∃ (y a : Nat), y < 2 ^ 62 ∧ e4 = .int .i64 y ∧ e3 = .int .i64 a ∧ a + pop y = r ∧ wr = w) (fun e4 _ _ => (intOf e4).toNat)
  case atStart => exact ⟨x, 0, hx, rfl, rfl, by rw [HR.out]; omega, rfl⟩
  case round =>
   obtain ⟨y, a, hy, rfl, rfl, ha, rfl⟩ := hrel
   by_cases h0 : 0 < y
   ·have h1 : (y : Int) > 0 := by omega
    have hh := pop_half (y := y) (by omega)
    obtain ⟨t, ht⟩ : ∃ t, y % 2 = t := ⟨_, rfl⟩
    obtain ⟨z, hz⟩ : ∃ z, y / 2 = z := ⟨_, rfl⟩
    have ht1 : (y : Int) % 2 = (t : Int) := by omega
    have ht2 : (y : Int).tmod 2 = (t : Int) := by rw [← ht]; exact (Int.ofNat_tmod y 2).symm
    have hz1 : (y : Int) / 2 = (z : Int) := by omega
    have hz2 : (y : Int).tdiv 2 = (z : Int) := by rw [← hz]; exact (Int.ofNat_tdiv y 2).symm
    have et : IntKind.i64.wrap (t : Int) = (t : Int) := Go.IntWalk.i64_in _ (by omega)
    have ez : IntKind.i64.wrap (z : Int) = (z : Int) := Go.IntWalk.i64_in _ (by omega)
    have hz62 : z < 2 ^ 62 := by omega
    have hzy : z < y := by omega
    have ea : IntKind.i64.wrap ((a : Int) + (t : Int)) = (a : Int) + (t : Int) := Go.IntWalk.i64_in _ (by omega)
    rw [ht, hz] at hh
    have HA := Lib.hid (by omega : a + t + pop z = r)
    clear hh ha ht hz hy hx hm
    go_wp2_with fail
    exact ⟨⟨z, a + t, hz62, rfl, by go_num, HA.out, trivial⟩, by simp [intOf]; omega⟩
   ·obtain rfl : y = 0 := by omega
    have h1 : ¬ ((0 : Nat) : Int) > 0 := by omega
    have hae : a = r := by rw [pop_zero] at ha; omega
    subst hae
    clear ha HR hm
    go_wp2_with fail
    go_ret
    exact ⟨rfl, Below.refl _ _⟩
 ·obtain rfl : x = 0 := by omega
  rw [pop_zero]
  go_enter Tryz.func25, Tryz.ntmps25
  go_wp2_with fail
  go_loopw [4, 3] (fun e4 e3 wr => e4 = .int .i64 0 ∧ e3 = .int .i64 0 ∧ wr = w) (fun _ _ _ => 0)
  case atStart => exact ⟨rfl, rfl, rfl⟩
  case round =>
   obtain ⟨rfl, rfl, rfl⟩ := hrel
   go_wp2_with fail
   go_ret
   exact ⟨rfl, Below.refl _ _⟩
end

section
def zs64 : List Int := Lib.deBruijn64tab.map fun (x : Nat) => (x : Int)
theorem tb_of_tab {W : World} (h : laidMet Tryz.prog [("math/bits.deBruijn64tab", Lib.tabData .u8 zs64)] W) : Tb W := by
 have hT := Lib.tabIs_of_head (P := Tryz.prog) (g := 1) (by kernel_rfl) (t := 167) (by kernel_rfl) (n := 64) (e := 5) (by kernel_rfl) (by kernel_rfl) (by kernel_rfl) (by kernel_rfl) h
 intro j hj
 have h2 := hT.cell (g := 1) (by kernel_rfl) j (by simpa [zs64] using hj)
 rw [h2]
 congr 2
 unfold zs64
 rw [List.getD_eq_getElem?_getD, List.getElem?_map, List.getElem?_eq_getElem hj, List.getD_eq_getElem?_getD, List.getElem?_eq_getElem hj]
 rfl
theorem tb_of_laid {W : World} (h : laidMetH Tryz.prog [("math/bits.deBruijn32tab", Rows.laid_math_bits_deBruijn32tab), ("math/bits.deBruijn64tab", Rows.laid_math_bits_deBruijn64tab)] W) : Tb W := by
 rw [MakeChecks.laidMetH_plain _ _ _ (by kernel_rfl)] at h
 exact tb_of_tab h.tail
end

section
open Go.ChangeShapes Go.WideShapes Go.ChangeAt Go.RowKit
attribute [local go_sem ↓] Go.wp_at_zero Go.wp_at_succ
section
variable {H : Type} {enc : TypeId × Value → H}
theorem cellsB : Tryz.prog.cellsOf 5 = 1 := by kernel_rfl
theorem openB {W : World} {r : Reach} {b0 : Nat} {t : TypeId} (ht : Tryz.prog.underlying t = some (.slice 5)) {base : Nat} {spare : Nat → Bool} {held : Bool} {v : Value} {d : DataW H} {p : List MemPlace} (hv : Value.okWide Tryz.prog W r b0 t v) (h : DataW.Trod enc Tryz.prog W base spare held t v d p) :
  ∃ A n c xs, v = .slice A n c ∧ Rd W A (vB xs) ∧ xs.length = n ∧ n ≤ maxLen := by
 obtain ⟨a0, len, cap, rfl⟩ := okWide_slice ht hv
 obtain ⟨fuel, hf⟩ := h
 rcases open_ints ht Tryz.underlying5 cellsB hf with ⟨hcs, hx⟩ | ⟨a, len', cap', zs, hcs, _, hl, hm, hz, hx, hcell, hwz⟩
 ·simp [Value.cells] at hcs
  obtain ⟨rfl, rfl, rfl⟩ := hcs
  exact ⟨none, 0, 0, [], rfl, .inl rfl, rfl, Nat.zero_le _⟩
 ·simp [Value.cells] at hcs
  obtain ⟨rfl, rfl, rfl⟩ := hcs
  have hzl : len ≤ zs.length := by rw [hz]; split <;> omega
  have hrng : ∀ z ∈ zs, 0 ≤ z ∧ z < 256 := fun z hz2 => by
   have := hwz z hz2
   simp [Lit.wf, IntKind.min, IntKind.max, IntKind.bits, IntKind.signed] at this
   omega
  refine ⟨_, _, _, (zs.take len).map (fun z => UInt8.ofNat z.toNat), rfl, ?_, by rw [List.length_map, List.length_take]; omega, by omega⟩
  by_cases h0 : 0 < zs.length
  ·obtain ⟨ab, ao, spot⟩ := a
   have hspot : spot = none := by simpa [Addr.add] using World.cell?_spot (hcell 0 h0)
   subst hspot
   refine .inr ⟨ab, ao, rfl, fun j u hu => ?_⟩
   simp only [vB, List.getElem?_map, Option.map_eq_some_iff] at hu
   obtain ⟨x, ⟨z, hz1, rfl⟩, rfl⟩ := hu
   have hjl : j < len := by
    rcases Nat.lt_or_ge j len with h | h
    ·exact h
    ·rw [List.getElem?_eq_none (by rw [List.length_take]; omega)] at hz1; cases hz1
   rw [List.getElem?_take_of_lt hjl] at hz1
   have h3 := hcell j (by omega)
   have h4 := hrng z (List.mem_of_getElem? hz1)
   rw [show (⟨ab, ao + j, none⟩ : Addr) = (⟨ab, ao, none⟩ : Addr).add j from by simp [Addr.add], h3, List.getD_eq_getElem?_getD, hz1]
   have e : ((UInt8.ofNat z.toNat).toNat : Int) = z := by
    rw [UInt8.toNat_ofNat_of_lt' (by show z.toNat < 256; omega)]
    omega
   rw [e]
   rfl
  ·left
   rw [List.eq_nil_of_length_eq_zero (by omega : zs.length = 0)]
   simp [vB]
end
theorem big_l (A : Option Addr) (n c : Nat) (w : World) : Calls Tryz.prog 5 #[.slice A n c] w (Ret w (.bool (decide ((n : Int) > 1048576)))) := by
 go_enter Tryz.func5, Tryz.ntmps5
 go_wp2_with fail
 go_ret
 exact ⟨rfl, Below.refl _ _⟩
theorem sameInts_t (A A2 : Option Addr) (n c n2 c2 : Nat) (xs : List Int) (w : World) (h : Rd w A (vI xs)) (h2 : Rd w A2 (vI xs)) (hl : xs.length = n) (hl2 : xs.length = n2) (hn : n ≤ 1099511627776) :
  Calls Tryz.prog 11 #[.slice A n c, .slice A2 n2 c2] w (Ret w (.bool true)) := by
 obtain rfl : n = n2 := hl.symm.trans hl2
 have HL := Lib.hid hl
 have H1 := Lib.hid h
 have H2 := Lib.hid h2
 have hne : ((n : Int) != (n : Int)) = false := by simp
 clear hl hl2 h h2
 go_enter Tryz.func11, Tryz.ntmps11
 go_wp2_with fail
 go_loopw [5] (fun e5 wr => ∃ j : Nat, j ≤ n ∧ e5 = .int .i64 j ∧ Below w.heap.size w wr) (fun e5 _ => n - (intOf e5).toNat)
 case atStart => exact ⟨0, Nat.zero_le _, rfl, Below.refl _ _⟩
 case round =>
  obtain ⟨j, hj, rfl, hb⟩ := hrel
  by_cases hlt : j < n
  ·have hj0 : (0 : Int) ≤ (j : Int) := by omega
   have hj1 : (j : Int) < (n : Int) := by omega
   have hjl : j < xs.length := by rw [HL.out]; exact hlt
   obtain ⟨g, off, hA, hg, d1⟩ := RdI.at_ (H1.out.below hb) hjl
   obtain ⟨g2, off2, hA2, hg2, d2⟩ := RdI.at_ (H2.out.below hb) hjl
   obtain ⟨v, hv⟩ : ∃ v, xs[j] = v := ⟨_, rfl⟩
   rw [hv] at d1 d2
   have hvv : (v != v) = false := by simp
   subst hA hA2
   clear hv
   go_wp2_with fail
   (refine wp_region_below (by kernel_rfl) (by kernel_rfl) ?_; (repeat (first | go_big_quiet_skip | (refine quietV (v := ?_) (by rfl) rfl (fun w' hbw => ?_) ?_; rotate_left; ((try dsimp only at hbw); have hbc := (bcell hbw).1; have hbf := (bcell hbw).2; go_simp; first | done | with_reducible rfl | fail); simp only [sq1, sq2, sq3]))); refine wpQuiet_nil ?_; intro wq hbq)
   go_wp2_with fail
   exact ⟨⟨j + 1, by omega, by go_num, bel_trans hb hbq⟩, by simp [intOf]; omega⟩
  ·have hj1 : ¬ (j : Int) < (n : Int) := by omega
   go_wp2_with fail
   go_ret
   exact ⟨rfl, hb⟩
end

section
attribute [local go_sem ↓] Go.wp_at_zero Go.wp_at_succ
def sufC : Nat → Code → Code
 | k + 1, .seq _ b => sufC k b
 | _, c => c
noncomputable def orbB (k : Nat) : Code := (Tryz.f3.body.map (sufC k)).getD .skip
theorem orbT35 {s1 s2 s3 s4 s5 s6 s7 s8 s9 s10 s11 s12 s13 s14 s15 s16 s17 s18 s19 s20 s21 s22 s23 s24 s25 s26 s27 s28 s29 s30 s31 s32 s33 s34 s35 s36 s37 s38 s39 s40 s41 s42 s43 s44 s45 s46 s47 s48 s49 s50 s51 s52 s53 s54 s55 s56 s57 s58 s59 s60 s61 s62 s63 s64 s65 s66 s67 s68 s69 s70 s71 s72 s73 s74 s75 s76 s77 s78 s79 s80 s81 s82 s83 s84 s85 s86 s87 s88 s89 s90 s91 s92 s93 s94 s95 s96 s97 s98 s99 s100 s101 s102 s103 s104 s105 s106 s107 s108 s109 s110 s111 s112 s113 s114 s115 s116 s117 s118 s119 s120 s121 s122 s123 s124 s125 s126 s127 s128 s129 s130 s131 s132 s133 s134 s135 s136 s137 s138 s139 s140 s141 s142 s143 s144 s145 s146 s147 s148 s149 s150 s151 s152 s153 s154 s155 s156 s157 s158 s159 s160 s161 s162 s163 s164 s165 s166 s167 s168 s169 s170 s171 s172 s173 s174 s175 s176 s177 s178 s179 s180 s181 s182 s183 s184 s185 s186 s187 s188 s189 s190 s191 s192 s193 s194 s195 s196 s197 s198 s199 s200 s201 s202 s203 s204 s205 s206 s207 s208 s209 s210 s211 s212 s213 s214 s215 s216 s217 s218 s219 s220 s221 s222 s223 s224 s225 s226 s227 s228 s229 s230 s231 s232 s233 s234 s235 s236 s237 s238 s239 : Value} (A : Option Addr) (n c : Nat) (bs0 : List UInt8) (w y0 : World) (hr : Rd w A (vB bs0)) (hl : bs0.length = n) (hn : n ≤ 1048576) (hTb : Tb w) (hby : Below w.heap.size w y0) :
  Code.wp Tryz.prog (orbB 14) (bodyPost Tryz.prog Tryz.f3 (Ret w (.bool true))) ⟨List.toArray ((.slice A n c) :: s1 :: s2 :: s3 :: s4 :: s5 :: s6 :: s7 :: s8 :: s9 :: s10 :: s11 :: s12 :: s13 :: s14 :: s15 :: s16 :: s17 :: s18 :: s19 :: s20 :: s21 :: s22 :: s23 :: s24 :: s25 :: s26 :: s27 :: s28 :: s29 :: s30 :: s31 :: s32 :: s33 :: s34 :: s35 :: s36 :: s37 :: s38 :: s39 :: s40 :: s41 :: s42 :: s43 :: s44 :: s45 :: s46 :: s47 :: s48 :: s49 :: s50 :: s51 :: s52 :: s53 :: s54 :: s55 :: s56 :: s57 :: s58 :: s59 :: s60 :: s61 :: s62 :: s63 :: s64 :: s65 :: s66 :: s67 :: s68 :: s69 :: s70 :: s71 :: s72 :: s73 :: s74 :: s75 :: s76 :: s77 :: s78 :: s79 :: s80 :: s81 :: s82 :: s83 :: s84 :: s85 :: s86 :: s87 :: s88 :: s89 :: s90 :: s91 :: s92 :: s93 :: s94 :: s95 :: s96 :: s97 :: s98 :: s99 :: s100 :: s101 :: s102 :: s103 :: s104 :: s105 :: s106 :: s107 :: s108 :: s109 :: s110 :: s111 :: s112 :: s113 :: s114 :: s115 :: s116 :: s117 :: s118 :: s119 :: s120 :: s121 :: s122 :: s123 :: s124 :: s125 :: s126 :: s127 :: s128 :: s129 :: s130 :: s131 :: s132 :: s133 :: s134 :: s135 :: s136 :: s137 :: s138 :: s139 :: s140 :: s141 :: s142 :: s143 :: s144 :: s145 :: s146 :: s147 :: s148 :: s149 :: s150 :: s151 :: s152 :: s153 :: s154 :: s155 :: s156 :: s157 :: s158 :: s159 :: s160 :: s161 :: s162 :: s163 :: s164 :: s165 :: s166 :: s167 :: s168 :: s169 :: s170 :: s171 :: s172 :: s173 :: s174 :: s175 :: s176 :: s177 :: s178 :: s179 :: s180 :: s181 :: s182 :: s183 :: s184 :: s185 :: s186 :: s187 :: s188 :: s189 :: s190 :: s191 :: s192 :: s193 :: s194 :: s195 :: s196 :: s197 :: s198 :: s199 :: s200 :: s201 :: s202 :: s203 :: s204 :: s205 :: s206 :: s207 :: s208 :: s209 :: s210 :: s211 :: s212 :: s213 :: s214 :: s215 :: s216 :: s217 :: s218 :: s219 :: s220 :: s221 :: s222 :: s223 :: s224 :: s225 :: s226 :: s227 :: s228 :: s229 :: s230 :: s231 :: s232 :: s233 :: s234 :: s235 :: s236 :: s237 :: s238 :: s239 :: []), []⟩ y0 := by
 have HR := Lib.hid hr
 have HL := Lib.hid hl
 have HTB := Lib.hid hTb
 have HBY := Lib.hid hby
 clear hr hl hTb hby
 conv => arg 2; whnf
 go_wp2_with fail
 refine (DrawFixedTilings_s A n c bs0 y0 (HR.out.below HBY.out) HL.out hn).mono ?_
 rintro e p4 ⟨W4, k4, D4, cD4, rows4, B4, q4, cB4, hs4, P4, mo4, rfl, hr4, hl4, hk4, hP4, hq4, hmo4, hb4⟩
 have ht4 := totC_le70O hP4 hq4
 have htm4 : totC P4 ≤ 1048576 := by omega
 have hqm4 : q4 ≤ 1048576 := by omega
 have HLR4 := Lib.hid hl4
 have ba := bel_alloc (Below.refl p4.heap.size p4) (.cells #[.int .i64 W4, .slice D4 k4 cD4] 26)
 have HN4 := Lib.hid (Blk.new p4 26 #[.int .i64 W4, .slice D4 k4 cD4])
 have HD4 := Lib.hid (hr4.below ba)
 have HP4 := Lib.hid (hP4.rdp.below ba)
 have HB34 := Lib.hid (bel_trans (bel_trans HBY.out hb4) ba)
 obtain ⟨x4, hwx4⟩ : ∃ x, p4.alloc (.cells #[.int .i64 W4, .slice D4 k4 cD4] 26) = x := ⟨_, rfl⟩
 rw [hwx4] at HN4 HD4 HP4 HB34
 have HWx4 := Lib.hid hwx4
 clear ba hwx4
 go_upto_region 36 with fail
 rw [HWx4.out]
 clear HWx4
 obtain ⟨gr4, hgr⟩ : ∃ gr, p4.heap.size = gr := ⟨_, rfl⟩
 rw [hgr] at HN4 ⊢
 clear hgr
 clear hr4 hl4 hP4 hb4 ht4
 go_wp2_with fail
 refine (DrawTurnMask_s A n c bs0 x4 (HR.out.below HB34.out) HL.out hn).mono ?_
 rintro e p5 ⟨W5, k5, D5, cD5, rows5, m5, mo5, rfl, hr5, hl5, hk5, hm5, hmo5, hb5⟩
 have HLR5 := Lib.hid hl5
 have ba0 := bel_alloc (Below.refl p5.heap.size p5) (.cells #[.int .i64 W5, .slice D5 k5 cD5] 26)
 have HB45 := Lib.hid (bel_trans hb5 ba0)
 clear ba0
 have ba := bel_alloc (Below.refl p5.heap.size p5) (.cells #[.int .i64 W5, .slice D5 k5 cD5] 26)
 have HN5 := Lib.hid (Blk.new p5 26 #[.int .i64 W5, .slice D5 k5 cD5])
 have HD5 := Lib.hid (hr5.below ba)
 have HB35 := Lib.hid (bel_trans (bel_trans HB34.out hb5) ba)
 obtain ⟨x5, hwx5⟩ : ∃ x, p5.alloc (.cells #[.int .i64 W5, .slice D5 k5 cD5] 26) = x := ⟨_, rfl⟩
 rw [hwx5] at HN5 HD5 HB45 HB35
 have HWx5 := Lib.hid hwx5
 clear ba hwx5
 go_upto_region 37 with fail
 rw [HWx5.out]
 clear HWx5
 obtain ⟨gr5, hgr⟩ : ∃ gr, p5.heap.size = gr := ⟨_, rfl⟩
 rw [hgr] at HN5 ⊢
 clear hgr
 clear hr5 hl5 hb5
 have e0 : x5.cell? ⟨gr5, 0, none⟩ = some (.int .i64 W5) := by simpa using HN5.out.cell 0
 have e1 : x5.cell? ⟨gr5, 1, none⟩ = some (.slice D5 k5 cD5) := by simpa using HN5.out.cell 1
 have el := HN5.out.lt
 obtain ⟨tv, htv⟩ : ∃ x, tmV W5 rows5 m5 mo5 = x := ⟨_, rfl⟩
 obtain ⟨tk, htk⟩ : ∃ x, tmOk W5 rows5 m5 mo5 = x := ⟨_, rfl⟩
 have HTV := Lib.hid htv
 have HTK := Lib.hid htk
 clear htv htk
 go_wp2_with fail
 refine (TurnMask_i W5 D5 k5 cD5 rows5 m5 mo5 x5 HD5.out HLR5.out hm5).mono ?_
 rw [HTV.out, HTK.out]
 rintro e x6 ⟨rfl, hb6⟩
 have HB6 := Lib.hid hb6
 clear e0 e1 el hb6
 have hN5 := HN5.out.below HB6.out
 have e0 : x6.cell? ⟨gr5, 0, none⟩ = some (.int .i64 W5) := by simpa using hN5.cell 0
 have e1 : x6.cell? ⟨gr5, 1, none⟩ = some (.slice D5 k5 cD5) := by simpa using hN5.cell 1
 have el := hN5.lt
 clear hN5
 go_wp2_with fail
 refine (TurnMask_s W5 D5 k5 cD5 rows5 m5 mo5 x6 (HD5.out.below HB6.out) HLR5.out hm5).mono ?_
 rw [HTV.out, HTK.out]
 rintro e x7 ⟨rfl, hb7⟩
 have HB7 := Lib.hid (bel_trans HB6.out hb7)
 have HB47 := Lib.hid (bel_trans HB45.out HB7.out)
 clear e0 e1 el hb7
 have hN4 := HN4.out.below HB47.out
 have e0 : x7.cell? ⟨gr4, 0, none⟩ = some (.int .i64 W4) := by simpa using hN4.cell 0
 have e1 : x7.cell? ⟨gr4, 1, none⟩ = some (.slice D4 k4 cD4) := by simpa using hN4.cell 1
 have el := hN4.lt
 clear hN4
 obtain ⟨fx, hfx⟩ : ∃ x, fxdV W4 rows4 P4 mo4 = x := ⟨_, rfl⟩
 have HFX := Lib.hid hfx
 have HT4 := Lib.hid (HTB.out.below HB34.out)
 have HF1 : Hid (∀ w', Below x7.heap.size x7 w' → Calls Tryz.prog 23 #[.agg #[.int .i64 W4, .slice D4 k4 cD4], .slice B4 q4 cB4, .int .i64 mo4] w' (Ret w' (.int .i64 fx))) := fun w' hb => HFX.out ▸ FixedTilings_i W4 D4 B4 k4 cD4 q4 cB4 rows4 mo4 hs4 P4 w' (HD4.out.below (bel_trans HB47.out hb)) HLR4.out (HP4.out.below (bel_trans HB47.out hb)) hqm4 htm4 hmo4 (HT4.out.below (bel_trans HB47.out hb))
 have HF2 : Hid (∀ w', Below x7.heap.size x7 w' → Calls Tryz.prog 24 #[.agg #[.int .i64 W4, .slice D4 k4 cD4], .slice B4 q4 cB4, .int .i64 mo4] w' (Ret w' (.int .i64 fx))) := fun w' hb => HFX.out ▸ FixedTilings_s W4 D4 B4 k4 cD4 q4 cB4 rows4 mo4 hs4 P4 w' (HD4.out.below (bel_trans HB47.out hb)) HLR4.out (HP4.out.below (bel_trans HB47.out hb)) hqm4 htm4 hmo4
 have HZZ := Lib.hid (bel_trans HB34.out HB47.out)
 have q1 : (fx == fx) = true := by simp
 have q2 : (tk == tk) = true := by simp
 have q3 : (tv == tv) = true := by simp
 clear hfx
 cases tk with
 | false =>
  go_wp2_with fail
  (refine wp_region_below (by kernel_rfl) (by kernel_rfl) ?_; (repeat (first | go_big_quiet_skip | (refine quietV (v := ?_) (by rfl) rfl (fun w' hbw => ?_) ?_; rotate_left; ((try dsimp only at hbw); have hbc := (bcell hbw).1; have hbf := (bcell hbw).2; go_simp; first | done | with_reducible rfl | first | (with_reducible exact callsB (v := .int .i64 fx) (HF1.out _ (by with_reducible assumption)) hbw) | (with_reducible exact callsB (v := .int .i64 fx) (HF2.out _ (by with_reducible assumption)) hbw)); simp only [sq1, sq2, sq3]))); refine wpQuiet_nil ?_; intro z2 hz2)
  go_wp2_with fail
  go_ret
  exact ⟨rfl, bel_trans HZZ.out hz2⟩
 | true =>
  obtain ⟨hm0, hm36, yy, hyy, hy36, hpop⟩ := tm_pop HTK.out
  rw [HTV.out] at hyy
  subst hyy
  obtain ⟨mm, rfl⟩ := Int.eq_ofNat_of_zero_le hm0
  rw [Int.toNat_natCast] at hm36 hpop
  obtain ⟨pp, hpp⟩ : ∃ p, pop mm = p := ⟨_, rfl⟩
  rw [hpp] at hpop
  have HPP := Lib.hid hpp
  have HPO := Lib.hid hpop
  have q4 : ((pp : Int) == (pp : Int)) = true := by simp
  have HP1 : Hid (∀ w', Calls Tryz.prog 25 #[.int .i64 (yy : Int)] w' (Ret w' (.int .i64 (pp : Int)))) := fun w' => HPO.out ▸ bits_l yy w' (by omega)
  have HP2 : Hid (∀ w', Calls Tryz.prog 25 #[.int .i64 (mm : Int)] w' (Ret w' (.int .i64 (pp : Int)))) := fun w' => HPP.out ▸ bits_l mm w' (by omega)
  clear hm0 hm36 hy36 hpop hpp
  go_wp2_with fail
  (refine wp_region_below (by kernel_rfl) (by kernel_rfl) ?_; (repeat (first | go_big_quiet_skip | (refine quietV (v := ?_) (by rfl) rfl (fun w' hbw => ?_) ?_; rotate_left; ((try dsimp only at hbw); have hbc := (bcell hbw).1; have hbf := (bcell hbw).2; go_simp; first | done | with_reducible rfl | first | (with_reducible exact callsB (v := .int .i64 fx) (HF1.out _ (by with_reducible assumption)) hbw) | (with_reducible exact callsB (v := .int .i64 fx) (HF2.out _ (by with_reducible assumption)) hbw) | (with_reducible exact callsB (v := .int .i64 (pp : Int)) (HP1.out _) hbw) | (with_reducible exact callsB (v := .int .i64 (pp : Int)) (HP2.out _) hbw)); simp only [sq1, sq2, sq3]))); refine wpQuiet_nil ?_; intro z2 hz2)
  go_wp2_with fail
  go_ret
  exact ⟨rfl, bel_trans HZZ.out hz2⟩
end

section
attribute [local go_sem ↓] Go.wp_at_zero Go.wp_at_succ
theorem orbT14 {s1 s2 s3 s4 s5 s6 s7 s8 s9 s10 s11 s12 s13 s14 s15 s16 s17 s18 s19 s20 s21 s22 s23 s24 s25 s26 s27 s28 s29 s30 s31 s32 s33 s34 s35 s36 s37 s38 s39 s40 s41 s42 s43 s44 s45 s46 s47 s48 s49 s50 s51 s52 s53 s54 s55 s56 s57 s58 s59 s60 s61 s62 s63 s64 s65 s66 s67 s68 s69 s70 s71 s72 s73 s74 s75 s76 s77 s78 s79 s80 s81 s82 s83 s84 s85 s86 s87 s88 s89 s90 s91 s92 s93 s94 s95 s96 s97 s98 s99 s100 s101 s102 s103 s104 s105 s106 s107 s108 s109 s110 s111 s112 s113 s114 s115 s116 s117 s118 s119 s120 s121 s122 s123 s124 s125 s126 s127 s128 s129 s130 s131 s132 s133 s134 s135 s136 s137 s138 s139 s140 s141 s142 s143 s144 s145 s146 s147 s148 s149 s150 s151 s152 s153 s154 s155 s156 s157 s158 s159 s160 s161 s162 s163 s164 s165 s166 s167 s168 s169 s170 s171 s172 s173 s174 s175 s176 s177 s178 s179 s180 s181 s182 s183 s184 s185 s186 s187 s188 s189 s190 s191 s192 s193 s194 s195 s196 s197 s198 s199 s200 s201 s202 s203 s204 s205 s206 s207 s208 s209 s210 s211 s212 s213 s214 s215 s216 s217 s218 s219 s220 s221 s222 s223 s224 s225 s226 s227 s228 s229 s230 s231 s232 s233 s234 s235 s236 s237 s238 s239 : Value} (A : Option Addr) (n c : Nat) (bs0 : List UInt8) (w wd : World) (hr : Rd w A (vB bs0)) (hl : bs0.length = n) (hn : n ≤ 1048576) (hTb : Tb w) (hbd : Below w.heap.size w wd) :
  Code.wp Tryz.prog (orbB 9) (bodyPost Tryz.prog Tryz.f3 (Ret w (.bool true))) ⟨List.toArray ((.slice A n c) :: s1 :: s2 :: s3 :: s4 :: s5 :: s6 :: s7 :: s8 :: s9 :: s10 :: s11 :: s12 :: s13 :: s14 :: s15 :: s16 :: s17 :: s18 :: s19 :: s20 :: s21 :: s22 :: s23 :: s24 :: s25 :: s26 :: s27 :: s28 :: s29 :: s30 :: s31 :: s32 :: s33 :: s34 :: s35 :: s36 :: s37 :: s38 :: s39 :: s40 :: s41 :: s42 :: s43 :: s44 :: s45 :: s46 :: s47 :: s48 :: s49 :: s50 :: s51 :: s52 :: s53 :: s54 :: s55 :: s56 :: s57 :: s58 :: s59 :: s60 :: s61 :: s62 :: s63 :: s64 :: s65 :: s66 :: s67 :: s68 :: s69 :: s70 :: s71 :: s72 :: s73 :: s74 :: s75 :: s76 :: s77 :: s78 :: s79 :: s80 :: s81 :: s82 :: s83 :: s84 :: s85 :: s86 :: s87 :: s88 :: s89 :: s90 :: s91 :: s92 :: s93 :: s94 :: s95 :: s96 :: s97 :: s98 :: s99 :: s100 :: s101 :: s102 :: s103 :: s104 :: s105 :: s106 :: s107 :: s108 :: s109 :: s110 :: s111 :: s112 :: s113 :: s114 :: s115 :: s116 :: s117 :: s118 :: s119 :: s120 :: s121 :: s122 :: s123 :: s124 :: s125 :: s126 :: s127 :: s128 :: s129 :: s130 :: s131 :: s132 :: s133 :: s134 :: s135 :: s136 :: s137 :: s138 :: s139 :: s140 :: s141 :: s142 :: s143 :: s144 :: s145 :: s146 :: s147 :: s148 :: s149 :: s150 :: s151 :: s152 :: s153 :: s154 :: s155 :: s156 :: s157 :: s158 :: s159 :: s160 :: s161 :: s162 :: s163 :: s164 :: s165 :: s166 :: s167 :: s168 :: s169 :: s170 :: s171 :: s172 :: s173 :: s174 :: s175 :: s176 :: s177 :: s178 :: s179 :: s180 :: s181 :: s182 :: s183 :: s184 :: s185 :: s186 :: s187 :: s188 :: s189 :: s190 :: s191 :: s192 :: s193 :: s194 :: s195 :: s196 :: s197 :: s198 :: s199 :: s200 :: s201 :: s202 :: s203 :: s204 :: s205 :: s206 :: s207 :: s208 :: s209 :: s210 :: s211 :: s212 :: s213 :: s214 :: s215 :: s216 :: s217 :: s218 :: s219 :: s220 :: s221 :: s222 :: s223 :: s224 :: s225 :: s226 :: s227 :: s228 :: s229 :: s230 :: s231 :: s232 :: s233 :: s234 :: s235 :: s236 :: s237 :: s238 :: s239 :: []), []⟩ wd := by
 have HR := Lib.hid hr
 have HL := Lib.hid hl
 have HTB := Lib.hid hTb
 have HBD := Lib.hid hbd
 clear hr hl hTb hbd
 obtain ⟨y, hy⟩ : ∃ y, orbB 14 = y := ⟨_, rfl⟩
 have hY : ∀ (s1 s2 s3 s4 s5 s6 s7 s8 s9 s10 s11 s12 s13 s14 s15 s16 s17 s18 s19 s20 s21 s22 s23 s24 s25 s26 s27 s28 s29 s30 s31 s32 s33 s34 s35 s36 s37 s38 s39 s40 s41 s42 s43 s44 s45 s46 s47 s48 s49 s50 s51 s52 s53 s54 s55 s56 s57 s58 s59 s60 s61 s62 s63 s64 s65 s66 s67 s68 s69 s70 s71 s72 s73 s74 s75 s76 s77 s78 s79 s80 s81 s82 s83 s84 s85 s86 s87 s88 s89 s90 s91 s92 s93 s94 s95 s96 s97 s98 s99 s100 s101 s102 s103 s104 s105 s106 s107 s108 s109 s110 s111 s112 s113 s114 s115 s116 s117 s118 s119 s120 s121 s122 s123 s124 s125 s126 s127 s128 s129 s130 s131 s132 s133 s134 s135 s136 s137 s138 s139 s140 s141 s142 s143 s144 s145 s146 s147 s148 s149 s150 s151 s152 s153 s154 s155 s156 s157 s158 s159 s160 s161 s162 s163 s164 s165 s166 s167 s168 s169 s170 s171 s172 s173 s174 s175 s176 s177 s178 s179 s180 s181 s182 s183 s184 s185 s186 s187 s188 s189 s190 s191 s192 s193 s194 s195 s196 s197 s198 s199 s200 s201 s202 s203 s204 s205 s206 s207 s208 s209 s210 s211 s212 s213 s214 s215 s216 s217 s218 s219 s220 s221 s222 s223 s224 s225 s226 s227 s228 s229 s230 s231 s232 s233 s234 s235 s236 s237 s238 s239 : Value) (w' : World), Below w.heap.size w w' → Code.wp Tryz.prog y (bodyPost Tryz.prog Tryz.f3 (Ret w (.bool true))) ⟨List.toArray ((.slice A n c) :: s1 :: s2 :: s3 :: s4 :: s5 :: s6 :: s7 :: s8 :: s9 :: s10 :: s11 :: s12 :: s13 :: s14 :: s15 :: s16 :: s17 :: s18 :: s19 :: s20 :: s21 :: s22 :: s23 :: s24 :: s25 :: s26 :: s27 :: s28 :: s29 :: s30 :: s31 :: s32 :: s33 :: s34 :: s35 :: s36 :: s37 :: s38 :: s39 :: s40 :: s41 :: s42 :: s43 :: s44 :: s45 :: s46 :: s47 :: s48 :: s49 :: s50 :: s51 :: s52 :: s53 :: s54 :: s55 :: s56 :: s57 :: s58 :: s59 :: s60 :: s61 :: s62 :: s63 :: s64 :: s65 :: s66 :: s67 :: s68 :: s69 :: s70 :: s71 :: s72 :: s73 :: s74 :: s75 :: s76 :: s77 :: s78 :: s79 :: s80 :: s81 :: s82 :: s83 :: s84 :: s85 :: s86 :: s87 :: s88 :: s89 :: s90 :: s91 :: s92 :: s93 :: s94 :: s95 :: s96 :: s97 :: s98 :: s99 :: s100 :: s101 :: s102 :: s103 :: s104 :: s105 :: s106 :: s107 :: s108 :: s109 :: s110 :: s111 :: s112 :: s113 :: s114 :: s115 :: s116 :: s117 :: s118 :: s119 :: s120 :: s121 :: s122 :: s123 :: s124 :: s125 :: s126 :: s127 :: s128 :: s129 :: s130 :: s131 :: s132 :: s133 :: s134 :: s135 :: s136 :: s137 :: s138 :: s139 :: s140 :: s141 :: s142 :: s143 :: s144 :: s145 :: s146 :: s147 :: s148 :: s149 :: s150 :: s151 :: s152 :: s153 :: s154 :: s155 :: s156 :: s157 :: s158 :: s159 :: s160 :: s161 :: s162 :: s163 :: s164 :: s165 :: s166 :: s167 :: s168 :: s169 :: s170 :: s171 :: s172 :: s173 :: s174 :: s175 :: s176 :: s177 :: s178 :: s179 :: s180 :: s181 :: s182 :: s183 :: s184 :: s185 :: s186 :: s187 :: s188 :: s189 :: s190 :: s191 :: s192 :: s193 :: s194 :: s195 :: s196 :: s197 :: s198 :: s199 :: s200 :: s201 :: s202 :: s203 :: s204 :: s205 :: s206 :: s207 :: s208 :: s209 :: s210 :: s211 :: s212 :: s213 :: s214 :: s215 :: s216 :: s217 :: s218 :: s219 :: s220 :: s221 :: s222 :: s223 :: s224 :: s225 :: s226 :: s227 :: s228 :: s229 :: s230 :: s231 :: s232 :: s233 :: s234 :: s235 :: s236 :: s237 :: s238 :: s239 :: []), []⟩ w' := by
  intro _ _ _ _ _ _ _ _ _ _ _ _ _ _ _ _ _ _ _ _ _ _ _ _ _ _ _ _ _ _ _ _ _ _ _ _ _ _ _ _ _ _ _ _ _ _ _ _ _ _ _ _ _ _ _ _ _ _ _ _ _ _ _ _ _ _ _ _ _ _ _ _ _ _ _ _ _ _ _ _ _ _ _ _ _ _ _ _ _ _ _ _ _ _ _ _ _ _ _ _ _ _ _ _ _ _ _ _ _ _ _ _ _ _ _ _ _ _ _ _ _ _ _ _ _ _ _ _ _ _ _ _ _ _ _ _ _ _ _ _ _ _ _ _ _ _ _ _ _ _ _ _ _ _ _ _ _ _ _ _ _ _ _ _ _ _ _ _ _ _ _ _ _ _ _ _ _ _ _ _ _ _ _ _ _ _ _ _ _ _ _ _ _ _ _ _ _ _ _ _ _ _ _ _ _ _ _ _ _ _ _ _ _ _ _ _ _ _ _ _ _ _ _ _ _ _ _ _ _ _ _ _ _ _ _ _ _ _ _ w' hb'
  rw [← hy]
  exact orbT35 A n c bs0 w w' HR.out HL.out hn HTB.out hb'
 have HY := Lib.hid @hY
 clear hY
 conv at hy => lhs; whnf
 conv => arg 2; whnf
 rw [hy]
 clear hy
 go_wp2_with fail
 refine (DrawCountOrbits_s A n c bs0 wd (HR.out.below HBD.out) HL.out hn).mono ?_
 rintro e p2 ⟨W2, k2, D2, cD2, rows2, B2, q2, cB2, hs2, P2, rfl, hr2, hl2, hk2, hD2, hP2, hq2, hb2⟩
 have ht2 := totC_le70O hP2 hq2
 have htm2 : totC P2 ≤ 1048576 := by omega
 have hqm2 : q2 ≤ 1048576 := by omega
 have HLR2 := Lib.hid hl2
 have ba := bel_alloc (Below.refl p2.heap.size p2) (.cells #[.int .i64 W2, .slice D2 k2 cD2] 26)
 have HN2 := Lib.hid (Blk.new p2 26 #[.int .i64 W2, .slice D2 k2 cD2])
 have HD2 := Lib.hid (hr2.below ba)
 have HP2 := Lib.hid (hP2.rdp.below ba)
 have HB32 := Lib.hid (bel_trans (bel_trans HBD.out hb2) ba)
 obtain ⟨x2, hwx2⟩ : ∃ x, p2.alloc (.cells #[.int .i64 W2, .slice D2 k2 cD2] 26) = x := ⟨_, rfl⟩
 rw [hwx2] at HN2 HD2 HP2 HB32
 have HWx2 := Lib.hid hwx2
 clear ba hwx2
 go_upto_region 15 with fail
 rw [HWx2.out]
 clear HWx2
 obtain ⟨gr2, hgr⟩ : ∃ gr, p2.heap.size = gr := ⟨_, rfl⟩
 rw [hgr] at HN2 ⊢
 clear hgr
 clear hr2 hl2 hD2 hP2 hb2 ht2
 have d0 : x2.cell? ⟨gr2, 0, none⟩ = some (.int .i64 W2) := by simpa using HN2.out.cell 0
 have d1 : x2.cell? ⟨gr2, 1, none⟩ = some (.slice D2 k2 cD2) := by simpa using HN2.out.cell 1
 have dl := HN2.out.lt
 have HT2 := Lib.hid (HTB.out.below HB32.out)
 obtain ⟨ov, hov⟩ : ∃ x, orbV W2 rows2 P2 = x := ⟨_, rfl⟩
 have HOV := Lib.hid hov
 clear hov
 go_wp2_with fail
 refine (CountOrbits_i W2 D2 B2 k2 cD2 q2 cB2 rows2 hs2 P2 x2 HD2.out HLR2.out HP2.out hqm2 htm2 HT2.out).mono ?_
 rw [HOV.out]
 rintro e x3 ⟨rfl, hx3⟩
 have HX3 := Lib.hid hx3
 have hN2 := HN2.out.below hx3
 clear d0 d1 dl hx3
 have d0 : x3.cell? ⟨gr2, 0, none⟩ = some (.int .i64 W2) := by simpa using hN2.cell 0
 have d1 : x3.cell? ⟨gr2, 1, none⟩ = some (.slice D2 k2 cD2) := by simpa using hN2.cell 1
 have dl := hN2.lt
 clear hN2
 go_wp2_with fail
 refine (CountOrbits_s W2 D2 B2 k2 cD2 q2 cB2 rows2 hs2 P2 x3 (HD2.out.below HX3.out) HLR2.out (HP2.out.below HX3.out) hqm2 htm2).mono ?_
 rw [HOV.out]
 rintro e x4 ⟨rfl, hx4⟩
 have HX4 := Lib.hid (bel_trans HX3.out hx4)
 clear d0 d1 dl hx4
 have hN2 := HN2.out.below HX4.out
 have d0 : x4.cell? ⟨gr2, 0, none⟩ = some (.int .i64 W2) := by simpa using hN2.cell 0
 have d1 : x4.cell? ⟨gr2, 1, none⟩ = some (.slice D2 k2 cD2) := by simpa using hN2.cell 1
 have dl := hN2.lt
 have hne : (ov != ov) = false := by simp
 clear hN2
 go_wp2_with fail
 refine (CountTilings_s W2 D2 B2 k2 cD2 q2 cB2 rows2 hs2 P2 x4 (HD2.out.below HX4.out) HLR2.out (HP2.out.below HX4.out) hqm2 htm2).mono ?_
 obtain ⟨kk, hkk⟩ : ∃ x, ctlV W2 rows2 P2 = x := ⟨_, rfl⟩
 rw [hkk]
 have HKK := Lib.hid hkk
 clear hkk hne
 rintro e x5 ⟨rfl, hx5⟩
 have HX5 := Lib.hid (bel_trans HX4.out hx5)
 clear d0 d1 dl hx5
 by_cases hboth : 0 ≤ ov ∧ kk ≤ 40
 ·obtain ⟨hv2, hpc2, h500, hctl⟩ := orbV_yes (W := W2) (rows := rows2) (P := P2) (by rw [HOV.out]; exact hboth.1)
  have hend := frm_end hv2 hpc2 h500
  rw [HOV.out] at hend
  rw [HKK.out] at hctl
  obtain ⟨K, hK⟩ : ∃ K, (tilA W2 rows2 P2).length = K := ⟨_, rfl⟩
  rw [hK] at hctl hend
  have hK40 : K ≤ 40 := by omega
  have hov1 : ov ≥ 0 := hboth.1
  have hKI : (K : Int) ≤ 40 := by omega
  subst hctl
  have HEND := Lib.hid hend
  have HKE := Lib.hid hK
  have HV2 := Lib.hid hv2
  have HPC2 := Lib.hid hpc2
  have HI0 : Hid (FmI x5.heap.size (x5.alloc (.cells #[] 24)) (some ⟨x5.heap.size, 0, none⟩) 0 0 [] []) := FmI.nil (own_new x5 24 1 0 #[] rfl (by simp [maxLen]) (Nat.le_refl _))
  clear hv2 hpc2 h500 hend hK hboth
  go_wp2_with fail
  refine orbLoop (HN2.out.below HX5.out) (HD2.out.below HX5.out) HLR2.out (HP2.out.below HX5.out) hqm2 htm2 HV2.out HPC2.out HKE.out hK40 HI0.out (bel_alloc (Below.refl _ _) _) ?_
  intro _ _ _ _ _ _ _ _ _ _ _ _ _ _ _ _ _ _ _ _ _ _ _ _ _ _ _ _ _ _ _ _ _ _ _ _ _ _ _ _ _ _ _ _ _ B1 q1 c1 u3 hq1 hb3
  have hne : ((q1 : Int) != ov) = false := by have := HEND.out; simp; omega
  have HB3x := Lib.hid hb3
  clear hq1 hb3
  go_wp2_with fail
  exact HY.out _ _ _ _ _ _ _ _ _ _ _ _ _ _ _ _ _ _ _ _ _ _ _ _ _ _ _ _ _ _ _ _ _ _ _ _ _ _ _ _ _ _ _ _ _ _ _ _ _ _ _ _ _ _ _ _ _ _ _ _ _ _ _ _ _ _ _ _ _ _ _ _ _ _ _ _ _ _ _ _ _ _ _ _ _ _ _ _ _ _ _ _ _ _ _ _ _ _ _ _ _ _ _ _ _ _ _ _ _ _ _ _ _ _ _ _ _ _ _ _ _ _ _ _ _ _ _ _ _ _ _ _ _ _ _ _ _ _ _ _ _ _ _ _ _ _ _ _ _ _ _ _ _ _ _ _ _ _ _ _ _ _ _ _ _ _ _ _ _ _ _ _ _ _ _ _ _ _ _ _ _ _ _ _ _ _ _ _ _ _ _ _ _ _ _ _ _ _ _ _ _ _ _ _ _ _ _ _ _ _ _ _ _ _ _ _ _ _ _ _ _ _ _ _ _ _ _ _ _ _ _ _ _ _ _ _ _ _ _ _ (bel_trans (bel_trans HB32.out HX5.out) HB3x.out)
 ·have hor : ¬ ov ≥ 0 ∨ ¬ kk ≤ 40 := by
   by_cases h : 0 ≤ ov
   ·exact .inr fun h2 => hboth ⟨h, h2⟩
   ·exact .inl h
  clear hboth
  by_cases hov1 : ov ≥ 0
  ·have hkk40 : ¬ kk ≤ 40 := hor.resolve_left (fun h => h hov1)
   clear hor
   go_wp2_with fail
   exact HY.out _ _ _ _ _ _ _ _ _ _ _ _ _ _ _ _ _ _ _ _ _ _ _ _ _ _ _ _ _ _ _ _ _ _ _ _ _ _ _ _ _ _ _ _ _ _ _ _ _ _ _ _ _ _ _ _ _ _ _ _ _ _ _ _ _ _ _ _ _ _ _ _ _ _ _ _ _ _ _ _ _ _ _ _ _ _ _ _ _ _ _ _ _ _ _ _ _ _ _ _ _ _ _ _ _ _ _ _ _ _ _ _ _ _ _ _ _ _ _ _ _ _ _ _ _ _ _ _ _ _ _ _ _ _ _ _ _ _ _ _ _ _ _ _ _ _ _ _ _ _ _ _ _ _ _ _ _ _ _ _ _ _ _ _ _ _ _ _ _ _ _ _ _ _ _ _ _ _ _ _ _ _ _ _ _ _ _ _ _ _ _ _ _ _ _ _ _ _ _ _ _ _ _ _ _ _ _ _ _ _ _ _ _ _ _ _ _ _ _ _ _ _ _ _ _ _ _ _ _ _ _ _ _ _ _ _ _ _ _ _ (bel_trans HB32.out HX5.out)
  ·clear hor
   go_wp2_with fail
   exact HY.out _ _ _ _ _ _ _ _ _ _ _ _ _ _ _ _ _ _ _ _ _ _ _ _ _ _ _ _ _ _ _ _ _ _ _ _ _ _ _ _ _ _ _ _ _ _ _ _ _ _ _ _ _ _ _ _ _ _ _ _ _ _ _ _ _ _ _ _ _ _ _ _ _ _ _ _ _ _ _ _ _ _ _ _ _ _ _ _ _ _ _ _ _ _ _ _ _ _ _ _ _ _ _ _ _ _ _ _ _ _ _ _ _ _ _ _ _ _ _ _ _ _ _ _ _ _ _ _ _ _ _ _ _ _ _ _ _ _ _ _ _ _ _ _ _ _ _ _ _ _ _ _ _ _ _ _ _ _ _ _ _ _ _ _ _ _ _ _ _ _ _ _ _ _ _ _ _ _ _ _ _ _ _ _ _ _ _ _ _ _ _ _ _ _ _ _ _ _ _ _ _ _ _ _ _ _ _ _ _ _ _ _ _ _ _ _ _ _ _ _ _ _ _ _ _ _ _ _ _ _ _ _ _ _ _ _ _ _ _ _ (bel_trans HB32.out HX5.out)
end

section
attribute [local go_sem ↓] Go.wp_at_zero Go.wp_at_succ
theorem lessInts_i (A B : Option Addr) (n c m d : Nat) (xs ys : List Int) (w : World) (hr : Rd w A (vI xs)) (hl : xs.length = n) (hr2 : Rd w B (vI ys)) (hl2 : ys.length = m) (hn : n ≤ 1099511627776) (hm : m ≤ 1099511627776) :
  Calls Tryz.prog 67 #[.slice A n c, .slice B m d] w (Ret w (.bool (lxI xs ys))) := by
 have HR := Lib.hid hr
 have HL := Lib.hid hl
 have HR2 := Lib.hid hr2
 have HL2 := Lib.hid hl2
 clear hr hl hr2 hl2
 go_enter Tryz.func67, Tryz.ntmps67
 go_wp2_with fail
 go_loopw [5] (fun e5 wr => ∃ k : Nat, k ≤ n ∧ k ≤ m ∧ e5 = .int .i64 k ∧ (∀ j, j < k → xs.getD j 0 = ys.getD j 0) ∧ Below w.heap.size w wr) (fun e5 _ => n - (intOf e5).toNat)
 case atStart => exact ⟨0, Nat.zero_le _, Nat.zero_le _, rfl, (fun j h => by omega), Below.refl _ _⟩
 case round =>
  obtain ⟨k, hk1, hk2, rfl, hsame, hb⟩ := hrel
  have HSM := Lib.hid hsame
  have HB := Lib.hid hb
  clear hsame hb
  by_cases h1 : k < n
  ·by_cases h2 : k < m
   ·have hi0 : (0 : Int) ≤ (k : Int) := by omega
    have hi1 : (k : Int) < (n : Int) := by omega
    have hi2 : (k : Int) < (m : Int) := by omega
    have k1 : k < xs.length := by rw [HL.out]; exact h1
    have k2 : k < ys.length := by rw [HL2.out]; exact h2
    obtain ⟨g1, o1, hA, gl1, d1⟩ := RdI.at_ (HR.out.below HB.out) k1
    obtain ⟨g2, o2, hB, gl2, d2⟩ := RdI.at_ (HR2.out.below HB.out) k2
    have e1 : xs.getD k 0 = xs[k] := by rw [List.getD_eq_getElem?_getD, List.getElem?_eq_getElem k1]; rfl
    have e2 : ys.getD k 0 = ys[k] := by rw [List.getD_eq_getElem?_getD, List.getElem?_eq_getElem k2]; rfl
    have hdf := fun h => lxI_diff k1 k2 HSM.out h
    obtain ⟨x, hx⟩ : ∃ x, xs[k] = x := ⟨_, rfl⟩
    obtain ⟨y, hy⟩ : ∃ y, ys[k] = y := ⟨_, rfl⟩
    rw [hx] at d1 e1
    rw [hy] at d2 e2
    rw [e1, e2] at hdf
    subst hA
    subst hB
    by_cases hxy : x = y
    ·have HS2 : Hid (∀ j, j < k + 1 → xs.getD j 0 = ys.getD j 0) := fun j hj => by
      by_cases hjk : j = k
      ·rw [hjk, e1, e2, hxy]
      ·exact HSM.out j (by omega)
     have hne : (x != y) = false := by simp [hxy]
     clear hx hy e1 e2 hdf k1 k2 hxy
     go_wp2_with fail
     (refine wp_region_below (by kernel_rfl) (by kernel_rfl) ?_; (repeat (first | go_big_quiet_skip | (refine quietV (v := ?_) (by rfl) rfl (fun w' hbw => ?_) ?_; rotate_left; ((try dsimp only at hbw); have hbc := (bcell hbw).1; have hbf := (bcell hbw).2; go_simp; first | done | with_reducible rfl | fail); simp only [sq1, sq2, sq3]))); refine wpQuiet_nil ?_; intro wq hbq)
     have HBQ := Lib.hid (bel_trans HB.out hbq)
     clear hbq
     go_wp2_with fail
     exact ⟨⟨k + 1, by omega, by omega, by go_num, HS2.out, HBQ.out⟩, by simp [intOf]; omega⟩
    ·have HV : Hid (lxI xs ys = decide (x < y)) := hdf hxy
     have hne : (x != y) = true := by simp [hxy]
     clear hx hy e1 e2 hdf k1 k2 hxy
     go_wp2_with fail
     (refine wp_region_below (by kernel_rfl) (by kernel_rfl) ?_; (repeat (first | go_big_quiet_skip | (refine quietV (v := ?_) (by rfl) rfl (fun w' hbw => ?_) ?_; rotate_left; ((try dsimp only at hbw); have hbc := (bcell hbw).1; have hbf := (bcell hbw).2; go_simp; first | done | with_reducible rfl | fail); simp only [sq1, sq2, sq3]))); refine wpQuiet_nil ?_; intro wq hbq)
     have HBQ := Lib.hid (bel_trans HB.out hbq)
     have c1 := keep_below hbq d1
     have c2 := keep_below hbq d2
     have l1 := World.block_lt_of_cell? _ _ c1
     have l2 := World.block_lt_of_cell? _ _ c2
     clear hbq d1 d2
     go_wp2_with fail
     (refine wp_region_below (by kernel_rfl) (by kernel_rfl) ?_; (repeat (first | go_big_quiet_skip | (refine quietV (v := ?_) (by rfl) rfl (fun w' hbw => ?_) ?_; rotate_left; ((try dsimp only at hbw); have hbc := (bcell hbw).1; have hbf := (bcell hbw).2; go_simp; first | done | with_reducible rfl | fail); simp only [sq1, sq2, sq3]))); refine wpQuiet_nil ?_; intro wp hbp)
     go_wp2_with fail
     go_ret
     exact ⟨by rw [HV.out]; rfl, bel_trans HBQ.out hbp⟩
   ·have hi1 : (k : Int) < (n : Int) := by omega
    have hi2 : ¬ (k : Int) < (m : Int) := by omega
    have HV : Hid (lxI xs ys = decide ((n : Int) < (m : Int))) := by
     show _ = _
     rw [lxI_end (by rw [HL.out]; exact hk1) (by rw [HL2.out]; exact hk2) HSM.out (.inr (by rw [HL2.out]; omega)), HL.out, HL2.out]
     simp
    clear h1 h2
    go_wp2_with fail
    go_ret
    exact ⟨by rw [HV.out]; (first | rfl | simp), HB.out⟩
  ·have hi1 : ¬ (k : Int) < (n : Int) := by omega
   have HV : Hid (lxI xs ys = decide ((n : Int) < (m : Int))) := by
    show _ = _
    rw [lxI_end (by rw [HL.out]; exact hk1) (by rw [HL2.out]; exact hk2) HSM.out (.inl (by rw [HL.out]; omega)), HL.out, HL2.out]
    simp
   clear h1
   go_wp2_with fail
   go_ret
   exact ⟨by rw [HV.out]; (first | rfl | simp), HB.out⟩
theorem CanonicalTiling_i (W : Int) (A : Option Addr) (n c : Nat) (D : Option Addr) (k cd : Nat) (rows l : List Int) (w : World) (hr : Rd w A (vI rows)) (hl : rows.length = n) (hrI : Rd w D (vI l)) (hlI : l.length = k) (hx : ∀ x ∈ l, x < 9223372036854775808) (hk : k ≤ 1048576) (hTb : Tb w) :
  Calls Tryz.prog 9 #[.agg #[.int .i64 W, .slice A n c], .slice D k cd] w (RetS2 w 3 1 (vI (canV W rows l)) (.bool (canOk W rows l))) := by
 have HL := Lib.hid hl
 have HR := Lib.hid hr
 have HRI := Lib.hid hrI
 have HLI := Lib.hid hlI
 have HX := Lib.hid hx
 have hml := motV_len W rows
 obtain ⟨M, hM⟩ : ∃ M, motV W rows = M := ⟨_, rfl⟩
 have hMm : ∀ m ∈ M, ttOk W rows l m = l.all (okMask W rows) := fun m h => ttOk_mem (by rw [hM]; exact h)
 have hTl : ∀ m, (ttV W rows l m).length ≤ k := fun m => by have := ttV_len W rows l m; omega
 have hTl := Lib.hid hTl
 have HTb := Lib.hid hTb
 have HB0 := Lib.hid (Blk.new w 26 #[.int .i64 W, .slice A n c])
 have hbe0 := bel_alloc (Below.refl w.heap.size w) (.cells #[.int .i64 W, .slice A n c] 26)
 have HBE0 := Lib.hid hbe0
 have HR0 := Lib.hid (hr.below hbe0)
 clear hr hl hrI hlI hx hbe0 hTb
 obtain ⟨ok, hok⟩ : ∃ ok, l.all (okMask W rows) = ok := ⟨_, rfl⟩
 have HOK := Lib.hid hok
 rw [hok] at hMm
 cases ok with
 | false =>
  have HMM := Lib.hid hMm
  have HMV := Lib.hid hM
  have HV : Hid (canV W rows l = []) := by show _ = _; unfold canV; rw [hok]; rfl
  have HO : Hid (canOk W rows l = false) := by show _ = _; unfold canOk; rw [hok]; rfl
  clear hok hMm hM
  go_enter Tryz.func9, Tryz.ntmps9
  go_wp2_with fail
  refine (RegionMotions_i W A n c rows _ HR0.out HL.out).mono ?_
  rw [HMV.out]
  rintro e w1 ⟨G, q, cq, rfl, hoG, hb1⟩
  have HQ := Lib.hid (by have := own_len hoG; rw [vI_length] at this; omega : M.length = q)
  have hq8 : q ≤ 8 := by have h1 := HQ.out; have h2 := HMV.out; rw [h2] at hml; omega
  have HRG := Lib.hid (Rd.of_own hoG)
  have HBX := Lib.hid (HB0.out.below hb1)
  have HB1 := Lib.hid (bel_trans HBE0.out hb1)
  clear hoG hb1
  go_wp2_with fail
  go_loopw [15, 6, 7] (fun e9 e6 e7 wr => e9 = .int .i64 0 ∧ e6 = .slice none 0 0 ∧ e7 = .bool false ∧ wr = w1) (fun _ _ _ _ => 0)
  case atStart => exact ⟨rfl, rfl, rfl, rfl⟩
  case round =>
   obtain ⟨rfl, rfl, rfl, rfl⟩ := hrel
   have b0 : wr.cell? ⟨w.heap.size, 0, none⟩ = some (.int .i64 W) := by simpa using HBX.out.cell 0
   have b1 : wr.cell? ⟨w.heap.size, 1, none⟩ = some (.slice A n c) := by simpa using HBX.out.cell 1
   have bl := HBX.out.lt
   by_cases h0 : 0 < q
   ·have hi1 : (0 : Int) < (q : Int) := by omega
    have hil : 0 < M.length := by rw [HQ.out]; exact h0
    obtain ⟨gg, off, hA, hgg, d1⟩ := RdI.at_ HRG.out hil
    obtain ⟨m, hm⟩ : ∃ m, M[0] = m := ⟨_, rfl⟩
    have hmm := HMM.out m (by rw [← hm]; exact List.getElem_mem hil)
    rw [hm, Nat.add_zero] at d1
    have HTO := Lib.hid hmm
    clear hm hmm hil
    subst hA
    go_wp2_with fail
    refine (TurnTiling_i W A n c D k cd rows l m _ (HR.out.below HB1.out) HL.out (HRI.out.below HB1.out) HLI.out HX.out hk (HTb.out.below HB1.out)).mono ?_
    rw [HTO.out]
    rintro e v1 ⟨X, qx, cx, rfl, hoX, hbX⟩
    have HBZ := Lib.hid (bel_trans HB1.out hbX)
    clear hoX hbX
    go_wp2_with fail
    go_ret2
    exact ⟨none, 0, 0, by rw [HO.out]; rfl, by rw [HV.out]; exact own_nil _ _ _ _, HBZ.out⟩
   ·have hi1 : ¬ (0 : Int) < (q : Int) := by omega
    go_wp2_with fail
    go_ret2
    exact ⟨none, 0, 0, by rw [HO.out]; rfl, by rw [HV.out]; exact own_nil _ _ _ _, HB1.out⟩
 | true =>
  obtain ⟨T, hT0⟩ : ∃ T, M.map (ttV W rows l) = T := ⟨_, rfl⟩
  have HV : Hid (canV W rows l = (canL T).getD []) := by show _ = _; unfold canV; rw [HOK.out, hM, hT0]; rfl
  have HO : Hid (canOk W rows l = decide (M ≠ [])) := by show _ = _; unfold canOk; rw [HOK.out, hM]; rfl
  have HTM : Hid (T.length = M.length) := by show _ = _; rw [← hT0, List.length_map]
  have HTA : Hid (∀ i (h : i < T.length) (h2 : i < M.length), T[i] = ttV W rows l M[i]) := fun i h h2 => by subst hT0; simp
  have HMM := Lib.hid hMm
  have HMV := Lib.hid hM
  clear hok hMm hM hT0
  go_enter Tryz.func9, Tryz.ntmps9
  go_wp2_with fail
  refine (RegionMotions_i W A n c rows _ HR0.out HL.out).mono ?_
  rw [HMV.out]
  rintro e w1 ⟨G, q, cq, rfl, hoG, hb1⟩
  have HQ := Lib.hid (by have := own_len hoG; rw [vI_length] at this; omega : M.length = q)
  have hq8 : q ≤ 8 := by have h1 := HQ.out; have h2 := HMV.out; rw [h2] at hml; omega
  have HRG := Lib.hid (Rd.of_own hoG)
  have HBX := Lib.hid (HB0.out.below hb1)
  have HB1 := Lib.hid (bel_trans HBE0.out hb1)
  have HO1 := Lib.hid (own_nil w1 w.heap.size 3 1)
  clear hoG hb1
  go_wp2_with fail
  go_loopw [15, 6, 7] (fun e9 e6 e7 wr => ∃ (i : Nat) (Z : Option Addr) (z cz : Nat), i ≤ q ∧ e9 = .int .i64 i ∧ e6 = .slice Z z cz ∧ e7 = .bool (canL (T.take i)).isSome ∧ wr.ownsRow w.heap.size 3 1 (.slice Z z cz) z (vI ((canL (T.take i)).getD [])) ∧ z ≤ k ∧ Below w1.heap.size w1 wr) (fun e9 _ _ _ => q - (intOf e9).toNat)
  case atStart => exact ⟨0, none, 0, 0, Nat.zero_le _, rfl, rfl, rfl, HO1.out, Nat.zero_le _, Below.refl _ _⟩
  case round =>
   obtain ⟨i, Z, z, cz, hiq, rfl, rfl, rfl, hown, hzk, hb⟩ := hrel
   have HOW := Lib.hid hown
   have HB := Lib.hid hb
   have hbx := HBX.out.below hb
   have b0 : wr.cell? ⟨w.heap.size, 0, none⟩ = some (.int .i64 W) := by simpa using hbx.cell 0
   have b1 : wr.cell? ⟨w.heap.size, 1, none⟩ = some (.slice A n c) := by simpa using hbx.cell 1
   have bl := hbx.lt
   clear hown hb hbx
   by_cases hlt : i < q
   ·have hi0 : (0 : Int) ≤ (i : Int) := by omega
    have hi1 : (i : Int) < (q : Int) := by omega
    have hil : i < M.length := by rw [HQ.out]; exact hlt
    have hit : i < T.length := by rw [HTM.out]; exact hil
    obtain ⟨gg, off, hA, hgg, d1⟩ := RdI.at_ (HRG.out.below HB.out) hil
    have hta := HTA.out i hit hil
    have htk := canL_take hit
    obtain ⟨m, hm⟩ : ∃ m, M[i] = m := ⟨_, rfl⟩
    have hmm := HMM.out m (by rw [← hm]; exact List.getElem_mem hil)
    rw [hm] at d1 hta
    rw [hta] at htk
    obtain ⟨t, ht⟩ : ∃ t, ttV W rows l m = t := ⟨_, rfl⟩
    rw [ht] at htk
    have HTV := Lib.hid ht
    have HTO := Lib.hid hmm
    have HTK := Lib.hid htk
    clear hm hmm hil hit hta htk ht
    subst hA
    go_wp2_with fail
    refine (TurnTiling_i W A n c D k cd rows l m _ ((HR.out.below HB1.out).below HB.out) HL.out ((HRI.out.below HB1.out).below HB.out) HLI.out HX.out hk ((HTb.out.below HB1.out).below HB.out)).mono ?_
    rw [HTO.out, HTV.out]
    rintro e wz ⟨X, qx, cx, rfl, hoX, hbX⟩
    have htq : t.length = qx := by have := own_len hoX; rw [vI_length] at this; omega
    have hqk : qx ≤ k := by have := hTl.out m; rw [HTV.out] at this; omega
    have HTQ := Lib.hid htq
    have HOX := Lib.hid (own_base hoX (by have h2 := HB.out.size; have h3 := HB1.out.size; omega : w.heap.size ≤ _))
    have HBZ := Lib.hid (bel_trans HB.out hbX)
    have HOW2 := Lib.hid (own_keep HOW.out hbX)
    clear hoX hbX htq d1 b0 b1 bl
    cases hcl : canL (T.take i) with
    | none =>
     have HN : Hid (canL (T.take (i + 1)) = some t) := by show _ = _; rw [HTK.out, hcl]; rfl
     rw [show (none : Option (List Int)).isSome = false from rfl]
     clear hcl
     go_wp2_with fail
     exact ⟨⟨i + 1, X, qx, cx, by omega, by go_num, rfl, by rw [HN.out]; rfl, by rw [HN.out]; exact HOX.out, hqk, HBZ.out⟩, by simp [intOf]; omega⟩
    | some b =>
     have hbz : b.length = z := by have h := HOW.out; rw [hcl] at h; have h2 := own_len h; rw [vI_length] at h2; simp only [Option.getD_some, Nat.mul_one] at h2; exact h2
     have hrb := Rd.of_own HOW2.out
     rw [hcl] at hrb
     have HBL := Lib.hid hbz
     have HRB : Hid (Rd wz Z (vI b)) := hrb
     have HLX := Lib.hid (lessInts_i X Z qx cx z cz t b wz (Rd.of_own HOX.out) HTQ.out HRB.out HBL.out (by omega) (by omega))
     have HN : Hid (canL (T.take (i + 1)) = some (if lxI t b then t else b)) := by show _ = _; rw [HTK.out, hcl]; rfl
     have HCL := Lib.hid hcl
     rw [show (some b : Option (List Int)).isSome = true from rfl]
     clear hcl hbz hrb
     cases hlx : lxI t b with
     | true =>
      rw [hlx] at HLX HN
      have HN2 : Hid (canL (T.take (i + 1)) = some t) := HN.out
      clear HN
      go_wp2_with fail
      refine HLX.out.mono ?_
      rintro e w7 ⟨rfl, hb7⟩
      go_wp2_with fail
      exact ⟨⟨i + 1, X, qx, cx, by omega, by go_num, rfl, by rw [HN2.out]; rfl, by rw [HN2.out]; exact own_keep HOX.out hb7, hqk, bel_trans HBZ.out hb7⟩, by simp [intOf]; omega⟩
     | false =>
      rw [hlx] at HLX HN
      have HN2 : Hid (canL (T.take (i + 1)) = some b) := HN.out
      have HOB : Hid (wz.ownsRow w.heap.size 3 1 (.slice Z z cz) z (vI b)) := by have h := HOW2.out; rw [HCL.out] at h; exact h
      clear HN
      go_wp2_with fail
      refine HLX.out.mono ?_
      rintro e w7 ⟨rfl, hb7⟩
      go_wp2_with fail
      exact ⟨⟨i + 1, Z, z, cz, by omega, by go_num, rfl, by rw [HN2.out]; rfl, by rw [HN2.out]; exact own_keep HOB.out hb7, hzk, bel_trans HBZ.out hb7⟩, by simp [intOf]; omega⟩
   ·obtain rfl : i = q := by omega
    have hi1 : ¬ (i : Int) < (i : Int) := by omega
    have HTL : Hid (T.take i = T) := List.take_of_length_le (by rw [HTM.out, HQ.out]; exact Nat.le_refl _)
    have hown := HOW.out
    have hfo : (canL (T.take i)).isSome = decide (M ≠ []) := by
     by_cases h0 : i = 0
     ·rw [h0, decide_eq_false (by intro h; exact h (List.eq_nil_of_length_eq_zero (by rw [HQ.out, h0])))]; rfl
     ·obtain ⟨j, hj⟩ : ∃ j, i = j + 1 := ⟨i - 1, by omega⟩
      rw [hj, canL_some (by rw [HTM.out, HQ.out]; omega), decide_eq_true (by intro h; rw [h] at HQ; have h3 := HQ.out; simp at h3; omega)]
    rw [HTL.out] at hown
    have HOWE := Lib.hid hown
    have HFO := Lib.hid hfo
    clear hown hfo
    go_wp2_with fail
    go_ret2
    exact ⟨_, _, _, by rw [HO.out, ← HFO.out]; rfl, by rw [HV.out]; exact HOWE.out, bel_trans HB1.out HB.out⟩
end

section
attribute [local go_sem ↓] Go.wp_at_zero Go.wp_at_succ
theorem orbT10 {s1 s2 s4 s5 s6 s9 s10 s13 s14 s15 s16 s17 s18 s19 s20 s21 s22 s23 s24 s25 s26 s27 s28 s29 s30 s31 s32 s33 s34 s35 s36 s37 s38 s39 s40 s41 s42 s43 s44 s45 s46 s47 s48 s49 s50 s51 s52 s53 s54 s55 s56 s57 s58 s59 s60 s61 s62 s63 s64 s65 s66 s67 s68 s69 s70 s71 s72 s73 s74 s75 s76 s77 s78 s79 s80 s81 s82 s83 s84 s85 s86 s87 s88 s89 s90 s91 s92 s93 s94 s95 s96 s97 s98 s99 s100 s101 s102 s103 s104 s105 s106 s107 s108 s109 s110 s111 s112 s113 s114 s115 s116 s117 s118 s119 s120 s121 s122 s123 s124 s125 s126 s127 s128 s129 s130 s131 s132 s133 s134 s135 s136 s137 s138 s139 s140 s141 s142 s143 s144 s145 s146 s147 s148 s149 s150 s151 s152 s153 s154 s155 s156 s157 s158 s159 s160 s161 s162 s163 s164 s165 s166 s167 s168 s169 s170 s171 s172 s173 s174 s175 s176 s177 s178 s179 s180 s181 s182 s183 s184 s185 s186 s187 s188 s189 s190 s191 s192 s193 s194 s195 s196 s197 s198 s199 s200 s201 s202 s203 s204 s205 s206 s207 s208 s209 s210 s211 s212 s213 s214 s215 s216 s217 s218 s219 s220 s221 s222 s223 s224 s225 s226 s227 s228 s229 s230 s231 s232 s233 s234 s235 s236 s237 s238 s239 : Value} (A : Option Addr) (n c : Nat) (bs0 : List UInt8) (w w8 : World) (hr : Rd w A (vB bs0)) (hl : bs0.length = n) (hn : n ≤ 1048576) (hTb : Tb w) (hb8 : Below w.heap.size w w8)
  {W mo : Int} {D Y V : Option Addr} {k cD ny cy nv cv gr : Nat} {rows l y v : List Int} {tk ck : Bool}
  (hN : Blk w8 gr 26 #[.int .i64 W, .slice D k cD]) (hD : Rd w8 D (vI rows)) (hlr : rows.length = k) (hT : isReg W rows = true → Tls W rows l) (htk : ttOk W rows l mo = tk) (hy : ttV W rows l mo = y) (hv : canV W rows l = v)
  (hY : Rd w8 Y (vI y)) (hyl : y.length = ny) (hny : ny ≤ 36) (hV : Rd w8 V (vI v)) (hvl : v.length = nv) (hnv : nv ≤ 36) :
  Code.wp Tryz.prog (orbB 8) (bodyPost Tryz.prog Tryz.f3 (Ret w (.bool true))) ⟨List.toArray ((.slice A n c) :: s1 :: s2 :: (.pointer (some ⟨gr, 0, none⟩)) :: s4 :: s5 :: s6 :: (.bool tk) :: (.slice Y ny cy) :: s9 :: s10 :: (.bool ck) :: (.slice V nv cv) :: s13 :: s14 :: s15 :: s16 :: s17 :: s18 :: s19 :: s20 :: s21 :: s22 :: s23 :: s24 :: s25 :: s26 :: s27 :: s28 :: s29 :: s30 :: s31 :: s32 :: s33 :: s34 :: s35 :: s36 :: s37 :: s38 :: s39 :: s40 :: s41 :: s42 :: s43 :: s44 :: s45 :: s46 :: s47 :: s48 :: s49 :: s50 :: s51 :: s52 :: s53 :: s54 :: s55 :: s56 :: s57 :: s58 :: s59 :: s60 :: s61 :: s62 :: s63 :: s64 :: s65 :: s66 :: s67 :: s68 :: s69 :: s70 :: s71 :: s72 :: s73 :: s74 :: s75 :: s76 :: s77 :: s78 :: s79 :: s80 :: s81 :: s82 :: s83 :: s84 :: s85 :: s86 :: s87 :: s88 :: s89 :: s90 :: s91 :: s92 :: s93 :: s94 :: s95 :: s96 :: s97 :: s98 :: s99 :: s100 :: s101 :: s102 :: s103 :: s104 :: s105 :: s106 :: s107 :: s108 :: s109 :: s110 :: s111 :: s112 :: s113 :: s114 :: s115 :: s116 :: s117 :: s118 :: s119 :: s120 :: s121 :: s122 :: s123 :: s124 :: s125 :: s126 :: s127 :: s128 :: s129 :: s130 :: s131 :: s132 :: s133 :: s134 :: s135 :: s136 :: s137 :: s138 :: s139 :: s140 :: s141 :: s142 :: s143 :: s144 :: s145 :: s146 :: s147 :: s148 :: s149 :: s150 :: s151 :: s152 :: s153 :: s154 :: s155 :: s156 :: s157 :: s158 :: s159 :: s160 :: s161 :: s162 :: s163 :: s164 :: s165 :: s166 :: s167 :: s168 :: s169 :: s170 :: s171 :: s172 :: s173 :: s174 :: s175 :: s176 :: s177 :: s178 :: s179 :: s180 :: s181 :: s182 :: s183 :: s184 :: s185 :: s186 :: s187 :: s188 :: s189 :: s190 :: s191 :: s192 :: s193 :: s194 :: s195 :: s196 :: s197 :: s198 :: s199 :: s200 :: s201 :: s202 :: s203 :: s204 :: s205 :: s206 :: s207 :: s208 :: s209 :: s210 :: s211 :: s212 :: s213 :: s214 :: s215 :: s216 :: s217 :: s218 :: s219 :: s220 :: s221 :: s222 :: s223 :: s224 :: s225 :: s226 :: s227 :: s228 :: s229 :: s230 :: s231 :: s232 :: s233 :: s234 :: s235 :: s236 :: s237 :: s238 :: s239 :: []), []⟩ w8 := by
 have HR := Lib.hid hr
 have HL := Lib.hid hl
 have HTB := Lib.hid hTb
 have HB8 := Lib.hid hb8
 have HN := Lib.hid hN
 have HD := Lib.hid hD
 have HLR := Lib.hid hlr
 have HTL := Lib.hid hT
 have HTK := Lib.hid htk
 have HYE := Lib.hid hy
 have HVE := Lib.hid hv
 have HY8 := Lib.hid hY
 have HYL := Lib.hid hyl
 have HV8 := Lib.hid hV
 have HVL := Lib.hid hvl
 have HY63 : Hid (∀ x ∈ y, x < 9223372036854775808) := fun x hx => by rw [← hy] at hx; exact ttV_63 hx
 have HT8 := Lib.hid (hTb.below hb8)
 have c0 : w8.cell? ⟨gr, 0, none⟩ = some (.int .i64 W) := by simpa using hN.cell 0
 have c1 : w8.cell? ⟨gr, 1, none⟩ = some (.slice D k cD) := by simpa using hN.cell 1
 have cl := hN.lt
 clear hr hl hTb hb8 hN hD hlr hT htk hy hv hY hyl hV hvl
 obtain ⟨yy, hy⟩ : ∃ y, orbB 9 = y := ⟨_, rfl⟩
 have hY : ∀ (s1 s2 s3 s4 s5 s6 s7 s8 s9 s10 s11 s12 s13 s14 s15 s16 s17 s18 s19 s20 s21 s22 s23 s24 s25 s26 s27 s28 s29 s30 s31 s32 s33 s34 s35 s36 s37 s38 s39 s40 s41 s42 s43 s44 s45 s46 s47 s48 s49 s50 s51 s52 s53 s54 s55 s56 s57 s58 s59 s60 s61 s62 s63 s64 s65 s66 s67 s68 s69 s70 s71 s72 s73 s74 s75 s76 s77 s78 s79 s80 s81 s82 s83 s84 s85 s86 s87 s88 s89 s90 s91 s92 s93 s94 s95 s96 s97 s98 s99 s100 s101 s102 s103 s104 s105 s106 s107 s108 s109 s110 s111 s112 s113 s114 s115 s116 s117 s118 s119 s120 s121 s122 s123 s124 s125 s126 s127 s128 s129 s130 s131 s132 s133 s134 s135 s136 s137 s138 s139 s140 s141 s142 s143 s144 s145 s146 s147 s148 s149 s150 s151 s152 s153 s154 s155 s156 s157 s158 s159 s160 s161 s162 s163 s164 s165 s166 s167 s168 s169 s170 s171 s172 s173 s174 s175 s176 s177 s178 s179 s180 s181 s182 s183 s184 s185 s186 s187 s188 s189 s190 s191 s192 s193 s194 s195 s196 s197 s198 s199 s200 s201 s202 s203 s204 s205 s206 s207 s208 s209 s210 s211 s212 s213 s214 s215 s216 s217 s218 s219 s220 s221 s222 s223 s224 s225 s226 s227 s228 s229 s230 s231 s232 s233 s234 s235 s236 s237 s238 s239 : Value) (w' : World), Below w.heap.size w w' → Code.wp Tryz.prog yy (bodyPost Tryz.prog Tryz.f3 (Ret w (.bool true))) ⟨List.toArray ((.slice A n c) :: s1 :: s2 :: s3 :: s4 :: s5 :: s6 :: s7 :: s8 :: s9 :: s10 :: s11 :: s12 :: s13 :: s14 :: s15 :: s16 :: s17 :: s18 :: s19 :: s20 :: s21 :: s22 :: s23 :: s24 :: s25 :: s26 :: s27 :: s28 :: s29 :: s30 :: s31 :: s32 :: s33 :: s34 :: s35 :: s36 :: s37 :: s38 :: s39 :: s40 :: s41 :: s42 :: s43 :: s44 :: s45 :: s46 :: s47 :: s48 :: s49 :: s50 :: s51 :: s52 :: s53 :: s54 :: s55 :: s56 :: s57 :: s58 :: s59 :: s60 :: s61 :: s62 :: s63 :: s64 :: s65 :: s66 :: s67 :: s68 :: s69 :: s70 :: s71 :: s72 :: s73 :: s74 :: s75 :: s76 :: s77 :: s78 :: s79 :: s80 :: s81 :: s82 :: s83 :: s84 :: s85 :: s86 :: s87 :: s88 :: s89 :: s90 :: s91 :: s92 :: s93 :: s94 :: s95 :: s96 :: s97 :: s98 :: s99 :: s100 :: s101 :: s102 :: s103 :: s104 :: s105 :: s106 :: s107 :: s108 :: s109 :: s110 :: s111 :: s112 :: s113 :: s114 :: s115 :: s116 :: s117 :: s118 :: s119 :: s120 :: s121 :: s122 :: s123 :: s124 :: s125 :: s126 :: s127 :: s128 :: s129 :: s130 :: s131 :: s132 :: s133 :: s134 :: s135 :: s136 :: s137 :: s138 :: s139 :: s140 :: s141 :: s142 :: s143 :: s144 :: s145 :: s146 :: s147 :: s148 :: s149 :: s150 :: s151 :: s152 :: s153 :: s154 :: s155 :: s156 :: s157 :: s158 :: s159 :: s160 :: s161 :: s162 :: s163 :: s164 :: s165 :: s166 :: s167 :: s168 :: s169 :: s170 :: s171 :: s172 :: s173 :: s174 :: s175 :: s176 :: s177 :: s178 :: s179 :: s180 :: s181 :: s182 :: s183 :: s184 :: s185 :: s186 :: s187 :: s188 :: s189 :: s190 :: s191 :: s192 :: s193 :: s194 :: s195 :: s196 :: s197 :: s198 :: s199 :: s200 :: s201 :: s202 :: s203 :: s204 :: s205 :: s206 :: s207 :: s208 :: s209 :: s210 :: s211 :: s212 :: s213 :: s214 :: s215 :: s216 :: s217 :: s218 :: s219 :: s220 :: s221 :: s222 :: s223 :: s224 :: s225 :: s226 :: s227 :: s228 :: s229 :: s230 :: s231 :: s232 :: s233 :: s234 :: s235 :: s236 :: s237 :: s238 :: s239 :: []), []⟩ w' := by
  intro _ _ _ _ _ _ _ _ _ _ _ _ _ _ _ _ _ _ _ _ _ _ _ _ _ _ _ _ _ _ _ _ _ _ _ _ _ _ _ _ _ _ _ _ _ _ _ _ _ _ _ _ _ _ _ _ _ _ _ _ _ _ _ _ _ _ _ _ _ _ _ _ _ _ _ _ _ _ _ _ _ _ _ _ _ _ _ _ _ _ _ _ _ _ _ _ _ _ _ _ _ _ _ _ _ _ _ _ _ _ _ _ _ _ _ _ _ _ _ _ _ _ _ _ _ _ _ _ _ _ _ _ _ _ _ _ _ _ _ _ _ _ _ _ _ _ _ _ _ _ _ _ _ _ _ _ _ _ _ _ _ _ _ _ _ _ _ _ _ _ _ _ _ _ _ _ _ _ _ _ _ _ _ _ _ _ _ _ _ _ _ _ _ _ _ _ _ _ _ _ _ _ _ _ _ _ _ _ _ _ _ _ _ _ _ _ _ _ _ _ _ _ _ _ _ _ _ _ _ _ _ _ _ _ _ _ _ _ _ w' hb'
  rw [← hy]
  exact orbT14 A n c bs0 w w' HR.out HL.out hn HTB.out hb'
 have HY := Lib.hid @hY
 clear hY
 conv at hy => lhs; whnf
 conv => arg 2; whnf
 rw [hy]
 clear hy
 cases tk with
 | false =>
  go_wp2_with fail
  exact HY.out _ _ _ _ _ _ _ _ _ _ _ _ _ _ _ _ _ _ _ _ _ _ _ _ _ _ _ _ _ _ _ _ _ _ _ _ _ _ _ _ _ _ _ _ _ _ _ _ _ _ _ _ _ _ _ _ _ _ _ _ _ _ _ _ _ _ _ _ _ _ _ _ _ _ _ _ _ _ _ _ _ _ _ _ _ _ _ _ _ _ _ _ _ _ _ _ _ _ _ _ _ _ _ _ _ _ _ _ _ _ _ _ _ _ _ _ _ _ _ _ _ _ _ _ _ _ _ _ _ _ _ _ _ _ _ _ _ _ _ _ _ _ _ _ _ _ _ _ _ _ _ _ _ _ _ _ _ _ _ _ _ _ _ _ _ _ _ _ _ _ _ _ _ _ _ _ _ _ _ _ _ _ _ _ _ _ _ _ _ _ _ _ _ _ _ _ _ _ _ _ _ _ _ _ _ _ _ _ _ _ _ _ _ _ _ _ _ _ _ _ _ _ _ _ _ _ _ _ _ _ _ _ _ _ _ _ _ _ _ _ HB8.out
 | true =>
  cases ck with
  | false =>
   go_wp2_with fail
   exact HY.out _ _ _ _ _ _ _ _ _ _ _ _ _ _ _ _ _ _ _ _ _ _ _ _ _ _ _ _ _ _ _ _ _ _ _ _ _ _ _ _ _ _ _ _ _ _ _ _ _ _ _ _ _ _ _ _ _ _ _ _ _ _ _ _ _ _ _ _ _ _ _ _ _ _ _ _ _ _ _ _ _ _ _ _ _ _ _ _ _ _ _ _ _ _ _ _ _ _ _ _ _ _ _ _ _ _ _ _ _ _ _ _ _ _ _ _ _ _ _ _ _ _ _ _ _ _ _ _ _ _ _ _ _ _ _ _ _ _ _ _ _ _ _ _ _ _ _ _ _ _ _ _ _ _ _ _ _ _ _ _ _ _ _ _ _ _ _ _ _ _ _ _ _ _ _ _ _ _ _ _ _ _ _ _ _ _ _ _ _ _ _ _ _ _ _ _ _ _ _ _ _ _ _ _ _ _ _ _ _ _ _ _ _ _ _ _ _ _ _ _ _ _ _ _ _ _ _ _ _ _ _ _ _ _ _ _ _ _ _ _ HB8.out
  | true =>
   have hct := can_turn HTL.out HTK.out
   rw [HYE.out, HVE.out] at hct
   have HC1 := Lib.hid hct.1
   have HC2 := Lib.hid hct.2
   clear hct
   go_wp2_with fail
   refine (CanonicalTiling_i W D k cD Y ny cy rows y w8 HD.out HLR.out HY8.out HYL.out HY63.out (by omega) HT8.out).mono ?_
   rw [HC1.out, HC2.out]
   rintro e w9 ⟨F, nf, cf, rfl, of9, hb9⟩
   have HF9 := Lib.hid (Rd.of_own of9)
   have HFL := Lib.hid (by have h := own_len of9; rw [vI_length] at h; omega : v.length = nf)
   have hnf : nf ≤ 36 := by have h1 := HFL.out; have h2 := HVL.out; omega
   have HB9 := Lib.hid hb9
   clear of9 hb9
   go_wp2_with fail
   refine (sameInts_t F V nf cf nv cv v _ HF9.out (HV8.out.below HB9.out) HFL.out HVL.out (by omega)).mono ?_
   rintro e wa ⟨rfl, hba⟩
   have HBA := Lib.hid (bel_trans HB8.out (bel_trans HB9.out hba))
   clear hba
   go_wp2_with fail
   exact HY.out _ _ _ _ _ _ _ _ _ _ _ _ _ _ _ _ _ _ _ _ _ _ _ _ _ _ _ _ _ _ _ _ _ _ _ _ _ _ _ _ _ _ _ _ _ _ _ _ _ _ _ _ _ _ _ _ _ _ _ _ _ _ _ _ _ _ _ _ _ _ _ _ _ _ _ _ _ _ _ _ _ _ _ _ _ _ _ _ _ _ _ _ _ _ _ _ _ _ _ _ _ _ _ _ _ _ _ _ _ _ _ _ _ _ _ _ _ _ _ _ _ _ _ _ _ _ _ _ _ _ _ _ _ _ _ _ _ _ _ _ _ _ _ _ _ _ _ _ _ _ _ _ _ _ _ _ _ _ _ _ _ _ _ _ _ _ _ _ _ _ _ _ _ _ _ _ _ _ _ _ _ _ _ _ _ _ _ _ _ _ _ _ _ _ _ _ _ _ _ _ _ _ _ _ _ _ _ _ _ _ _ _ _ _ _ _ _ _ _ _ _ _ _ _ _ _ _ _ _ _ _ _ _ _ _ _ _ _ _ _ HBA.out
end

section
section
variable {P : Program} {ops : Array Oper} {md : Region.Mode} {C : World → Prop} {Q : Exit → Act → World → Prop}
theorem rgG_one {f i : Nat} {o : Oper} {listed : Array Bool} {a : Act} {w : World} (hr : Region.ready md ops listed = [i]) (hi : ops[i]? = some o) (hg : Region.wanted o (yielded ops a.tmps) = true)
  (h : ∀ w', C w' → Ext w w' → ∀ K : Act → World → Prop, (∀ a' w'', C w'' → wpRg P md ops C Q f (listed.setIfInBounds i true) a' w'' → K a' w'') → o.wp P a w' K Q) : wpRg P md ops C Q (f + 1) listed a w := by
 refine ⟨fun e => by rw [hr] at e; simp at e, fun j hj w' hc he => ?_⟩
 rw [hr] at hj
 obtain rfl : j = i := by simpa using hj
 unfold wpOp
 simp only [hi]
 rw [if_pos hg]
 exact .inl (h w' hc he _ fun _ _ h1 h2 => ⟨h1, h2⟩)
end
end

section
attribute [local go_sem ↓] Go.wp_at_zero Go.wp_at_succ
theorem law_FnOrbits (A : Option Addr) (n c : Nat) (bs0 : List UInt8) (w : World) (hr : Rd w A (vB bs0)) (hl : bs0.length = n) (hm : n ≤ maxLen) (hTb : Tb w) :
  Calls Tryz.prog 3 #[.slice A n c] w (Ret w (.bool true)) := by
 have HR := Lib.hid hr
 have HL := Lib.hid hl
 have HTB := Lib.hid hTb
 clear hr hl hTb
 by_cases hbig : (n : Int) > 1048576
 ·have hd : decide ((n : Int) > 1048576) = true := decide_eq_true hbig
  go_enter Tryz.func3, Tryz.ntmps3
  go_wp2_with fail
  refine (big_l A n c w).mono ?_
  rw [hd]
  rintro e w1 ⟨rfl, hb1⟩
  clear hd
  go_wp2_with fail
  go_ret
  exact ⟨rfl, hb1⟩
 ·have hd : decide ((n : Int) > 1048576) = false := decide_eq_false hbig
  have hn : n ≤ 1048576 := by omega
  clear hbig hm
  obtain ⟨yy, hyy⟩ : ∃ y, orbB 8 = y := ⟨_, rfl⟩
  have hYY : ∀ (s1 s2 s4 s5 s6 s9 s10 s13 s14 s15 s16 s17 s18 s19 s20 s21 s22 s23 s24 s25 s26 s27 s28 s29 s30 s31 s32 s33 s34 s35 s36 s37 s38 s39 s40 s41 s42 s43 s44 s45 s46 s47 s48 s49 s50 s51 s52 s53 s54 s55 s56 s57 s58 s59 s60 s61 s62 s63 s64 s65 s66 s67 s68 s69 s70 s71 s72 s73 s74 s75 s76 s77 s78 s79 s80 s81 s82 s83 s84 s85 s86 s87 s88 s89 s90 s91 s92 s93 s94 s95 s96 s97 s98 s99 s100 s101 s102 s103 s104 s105 s106 s107 s108 s109 s110 s111 s112 s113 s114 s115 s116 s117 s118 s119 s120 s121 s122 s123 s124 s125 s126 s127 s128 s129 s130 s131 s132 s133 s134 s135 s136 s137 s138 s139 s140 s141 s142 s143 s144 s145 s146 s147 s148 s149 s150 s151 s152 s153 s154 s155 s156 s157 s158 s159 s160 s161 s162 s163 s164 s165 s166 s167 s168 s169 s170 s171 s172 s173 s174 s175 s176 s177 s178 s179 s180 s181 s182 s183 s184 s185 s186 s187 s188 s189 s190 s191 s192 s193 s194 s195 s196 s197 s198 s199 s200 s201 s202 s203 s204 s205 s206 s207 s208 s209 s210 s211 s212 s213 s214 s215 s216 s217 s218 s219 s220 s221 s222 s223 s224 s225 s226 s227 s228 s229 s230 s231 s232 s233 s234 s235 s236 s237 s238 s239 : Value) (W mo : Int) (D Y V : Option Addr) (k cD ny cy nv cv gr : Nat) (rows l y v : List Int) (tk ck : Bool) (w' : World), Below w.heap.size w w' → Blk w' gr 26 #[.int .i64 W, .slice D k cD] → Rd w' D (vI rows) → rows.length = k → (isReg W rows = true → Tls W rows l) → ttOk W rows l mo = tk → ttV W rows l mo = y → canV W rows l = v → Rd w' Y (vI y) → y.length = ny → ny ≤ 36 → Rd w' V (vI v) → v.length = nv → nv ≤ 36 → Code.wp Tryz.prog yy (bodyPost Tryz.prog Tryz.f3 (Ret w (.bool true))) ⟨List.toArray ((.slice A n c) :: s1 :: s2 :: (.pointer (some ⟨gr, 0, none⟩)) :: s4 :: s5 :: s6 :: (.bool tk) :: (.slice Y ny cy) :: s9 :: s10 :: (.bool ck) :: (.slice V nv cv) :: s13 :: s14 :: s15 :: s16 :: s17 :: s18 :: s19 :: s20 :: s21 :: s22 :: s23 :: s24 :: s25 :: s26 :: s27 :: s28 :: s29 :: s30 :: s31 :: s32 :: s33 :: s34 :: s35 :: s36 :: s37 :: s38 :: s39 :: s40 :: s41 :: s42 :: s43 :: s44 :: s45 :: s46 :: s47 :: s48 :: s49 :: s50 :: s51 :: s52 :: s53 :: s54 :: s55 :: s56 :: s57 :: s58 :: s59 :: s60 :: s61 :: s62 :: s63 :: s64 :: s65 :: s66 :: s67 :: s68 :: s69 :: s70 :: s71 :: s72 :: s73 :: s74 :: s75 :: s76 :: s77 :: s78 :: s79 :: s80 :: s81 :: s82 :: s83 :: s84 :: s85 :: s86 :: s87 :: s88 :: s89 :: s90 :: s91 :: s92 :: s93 :: s94 :: s95 :: s96 :: s97 :: s98 :: s99 :: s100 :: s101 :: s102 :: s103 :: s104 :: s105 :: s106 :: s107 :: s108 :: s109 :: s110 :: s111 :: s112 :: s113 :: s114 :: s115 :: s116 :: s117 :: s118 :: s119 :: s120 :: s121 :: s122 :: s123 :: s124 :: s125 :: s126 :: s127 :: s128 :: s129 :: s130 :: s131 :: s132 :: s133 :: s134 :: s135 :: s136 :: s137 :: s138 :: s139 :: s140 :: s141 :: s142 :: s143 :: s144 :: s145 :: s146 :: s147 :: s148 :: s149 :: s150 :: s151 :: s152 :: s153 :: s154 :: s155 :: s156 :: s157 :: s158 :: s159 :: s160 :: s161 :: s162 :: s163 :: s164 :: s165 :: s166 :: s167 :: s168 :: s169 :: s170 :: s171 :: s172 :: s173 :: s174 :: s175 :: s176 :: s177 :: s178 :: s179 :: s180 :: s181 :: s182 :: s183 :: s184 :: s185 :: s186 :: s187 :: s188 :: s189 :: s190 :: s191 :: s192 :: s193 :: s194 :: s195 :: s196 :: s197 :: s198 :: s199 :: s200 :: s201 :: s202 :: s203 :: s204 :: s205 :: s206 :: s207 :: s208 :: s209 :: s210 :: s211 :: s212 :: s213 :: s214 :: s215 :: s216 :: s217 :: s218 :: s219 :: s220 :: s221 :: s222 :: s223 :: s224 :: s225 :: s226 :: s227 :: s228 :: s229 :: s230 :: s231 :: s232 :: s233 :: s234 :: s235 :: s236 :: s237 :: s238 :: s239 :: []), []⟩ w' := by
   intro _ _ _ _ _ _ _ _ _ _ _ _ _ _ _ _ _ _ _ _ _ _ _ _ _ _ _ _ _ _ _ _ _ _ _ _ _ _ _ _ _ _ _ _ _ _ _ _ _ _ _ _ _ _ _ _ _ _ _ _ _ _ _ _ _ _ _ _ _ _ _ _ _ _ _ _ _ _ _ _ _ _ _ _ _ _ _ _ _ _ _ _ _ _ _ _ _ _ _ _ _ _ _ _ _ _ _ _ _ _ _ _ _ _ _ _ _ _ _ _ _ _ _ _ _ _ _ _ _ _ _ _ _ _ _ _ _ _ _ _ _ _ _ _ _ _ _ _ _ _ _ _ _ _ _ _ _ _ _ _ _ _ _ _ _ _ _ _ _ _ _ _ _ _ _ _ _ _ _ _ _ _ _ _ _ _ _ _ _ _ _ _ _ _ _ _ _ _ _ _ _ _ _ _ _ _ _ _ _ _ _ _ _ _ _ _ _ _ _ _ _ _ _ _ _ _ _ _ _ _ _ _ _ _ W mo D Y V k cD ny cy nv cv gr rows l y v tk ck w' h1 h2 h3 h4 h5 h6 h7 h8 h9 h10 h11 h12 h13 h14
   rw [← hyy]
   exact orbT10 A n c bs0 w w' HR.out HL.out hn HTB.out h1 h2 h3 h4 h5 h6 h7 h8 h9 h10 h11 h12 h13 h14
  have HYY := Lib.hid @hYY
  clear hYY
  conv at hyy => lhs; whnf
  go_enter Tryz.func3, Tryz.ntmps3
  rw [hyy]
  clear hyy
  go_wp2_with fail
  refine (big_l A n c w).mono ?_
  rw [hd]
  rintro e w1 ⟨rfl, hb1⟩
  have HB1 := Lib.hid hb1
  clear hd hb1
  go_wp2_with fail
  refine (DrawTurnTiling_s A n c bs0 w1 (HR.out.below HB1.out) HL.out hn).mono ?_
  rintro e w2 ⟨W, k, D, cD, rows, E, kE, cE, l, mo, rfl, hr2, hl2, hk6, hE2, hlE, hkE, hl63, hT2, hmo, hb2⟩
  have HLR := Lib.hid hl2
  have HLE := Lib.hid hlE
  have HL63 := Lib.hid hl63
  have HTL := Lib.hid hT2
  have ba := bel_alloc (Below.refl w2.heap.size w2) (.cells #[.int .i64 W, .slice D k cD] 26)
  have HN := Lib.hid (Blk.new w2 26 #[.int .i64 W, .slice D k cD])
  have HD := Lib.hid (hr2.below ba)
  have HE := Lib.hid (hE2.below ba)
  have HB3 := Lib.hid (bel_trans (bel_trans HB1.out hb2) ba)
  obtain ⟨w3, hww3⟩ : ∃ x, w2.alloc (.cells #[.int .i64 W, .slice D k cD] 26) = x := ⟨_, rfl⟩
  rw [hww3] at HN HD HE HB3
  have HWw3 := Lib.hid hww3
  clear ba hww3
  go_upto_region 4 with fail
  rw [HWw3.out]
  clear HWw3
  obtain ⟨gr, hgr⟩ : ∃ gr, w2.heap.size = gr := ⟨_, rfl⟩
  rw [hgr] at HN ⊢
  clear hgr
  have c0 : w3.cell? ⟨gr, 0, none⟩ = some (.int .i64 W) := by simpa using HN.out.cell 0
  have c1 : w3.cell? ⟨gr, 1, none⟩ = some (.slice D k cD) := by simpa using HN.out.cell 1
  have cl := HN.out.lt
  have HT := Lib.hid (Below.refl w3.heap.size w3)
  have HT3 := Lib.hid (HTB.out.below HB3.out)
  have hkm : kE ≤ 1048576 := by omega
  clear hr2 hl2 hE2 hlE hl63 hT2 hb2
  obtain ⟨y, hy⟩ : ∃ y, ttV W rows l mo = y := ⟨_, rfl⟩
  obtain ⟨tk, htk⟩ : ∃ b, ttOk W rows l mo = b := ⟨_, rfl⟩
  obtain ⟨v, hv⟩ : ∃ v, canV W rows l = v := ⟨_, rfl⟩
  obtain ⟨ck, hck⟩ : ∃ b, canOk W rows l = b := ⟨_, rfl⟩
  have hyl : y.length ≤ 36 := by have h := ttV_len W rows l mo; rw [hy] at h; have := HLE.out; omega
  have hvl : v.length ≤ 36 := by have h := canV_len W rows l; rw [hv] at h; have := HLE.out; omega
  have hy63 : ∀ x ∈ y, x < 9223372036854775808 := fun x hx => by rw [← hy] at hx; exact ttV_63 hx
  have HY := Lib.hid hy
  have HTK := Lib.hid htk
  have HV := Lib.hid hv
  have HCK := Lib.hid hck
  have HY63 := Lib.hid hy63
  clear hy htk hv hck hy63
  go_wp2_with fail
  refine (TurnTiling_i W D k cD E kE cE rows l mo w3 (HD.out.below HT.out) HLR.out (HE.out.below HT.out) HLE.out HL63.out hkm HT3.out).mono ?_
  rw [HY.out, HTK.out]
  rintro e w4 ⟨X, nx, cx, rfl, ox, hb4⟩
  have HX4 := Lib.hid (Rd.of_own ox)
  have HXL := Lib.hid (by have h := own_len ox; rw [vI_length] at h; omega : y.length = nx)
  clear ox
  have HU := Lib.hid (bel_trans HT.out hb4)
  clear HT
  have HT := HU
  clear HU c0 c1 cl hb4
  have hN := HN.out.below HT.out
  have c0 : w4.cell? ⟨gr, 0, none⟩ = some (.int .i64 W) := by simpa using hN.cell 0
  have c1 : w4.cell? ⟨gr, 1, none⟩ = some (.slice D k cD) := by simpa using hN.cell 1
  have cl := hN.lt
  clear hN
  go_wp2_with fail
  refine (TurnTiling_s W D k cD E kE cE rows l mo w4 (HD.out.below HT.out) HLR.out (HE.out.below HT.out) HLE.out HL63.out hkm).mono ?_
  rw [HY.out, HTK.out]
  rintro e w5 ⟨Y, ny, cy, rfl, oy, hb5⟩
  have HY5 := Lib.hid (Rd.of_own oy)
  have HYL := Lib.hid (by have h := own_len oy; rw [vI_length] at h; omega : y.length = ny)
  have HX5 := Lib.hid (HX4.out.below hb5)
  have hny : ny ≤ 1048576 := by have := HYL.out; omega
  clear oy HX4
  have HU := Lib.hid (bel_trans HT.out hb5)
  clear HT
  have HT := HU
  clear HU c0 c1 cl hb5
  have hN := HN.out.below HT.out
  have c0 : w5.cell? ⟨gr, 0, none⟩ = some (.int .i64 W) := by simpa using hN.cell 0
  have c1 : w5.cell? ⟨gr, 1, none⟩ = some (.slice D k cD) := by simpa using hN.cell 1
  have cl := hN.lt
  clear hN
  go_wp2_with fail
  refine (CanonicalTiling_i W D k cD E kE cE rows l w5 (HD.out.below HT.out) HLR.out (HE.out.below HT.out) HLE.out HL63.out hkm (HT3.out.below HT.out)).mono ?_
  rw [HV.out, HCK.out]
  rintro e w6 ⟨Z, nz, cz, rfl, oz, hb6⟩
  have HZ6 := Lib.hid (Rd.of_own oz)
  have HZL := Lib.hid (by have h := own_len oz; rw [vI_length] at h; omega : v.length = nz)
  have HX6 := Lib.hid (HX5.out.below hb6)
  have HY6 := Lib.hid (HY5.out.below hb6)
  clear oz HX5 HY5
  have HU := Lib.hid (bel_trans HT.out hb6)
  clear HT
  have HT := HU
  clear HU c0 c1 cl hb6
  have hN := HN.out.below HT.out
  have c0 : w6.cell? ⟨gr, 0, none⟩ = some (.int .i64 W) := by simpa using hN.cell 0
  have c1 : w6.cell? ⟨gr, 1, none⟩ = some (.slice D k cD) := by simpa using hN.cell 1
  have cl := hN.lt
  clear hN
  go_wp2_with fail
  refine (CanonicalTiling_s W D k cD E kE cE rows l w6 (HD.out.below HT.out) HLR.out (HE.out.below HT.out) HLE.out HL63.out hkm).mono ?_
  rw [HV.out, HCK.out]
  rintro e w7 ⟨V, nv, cv, rfl, ov, hb7⟩
  have HV7 := Lib.hid (Rd.of_own ov)
  have HVL := Lib.hid (by have h := own_len ov; rw [vI_length] at h; omega : v.length = nv)
  have HX7 := Lib.hid (HX6.out.below hb7)
  have HY7 := Lib.hid (HY6.out.below hb7)
  have HZ7 := Lib.hid (HZ6.out.below hb7)
  have hnx : nx ≤ 36 := by have := HXL.out; omega
  have hnz : nz ≤ 36 := by have := HZL.out; omega
  clear ov HX6 HY6 HZ6 hyl hvl
  have HU := Lib.hid (bel_trans HT.out hb7)
  clear HT
  have HT := HU
  clear HU c0 c1 cl hb7
  have hN := HN.out.below HT.out
  have c0 : w7.cell? ⟨gr, 0, none⟩ = some (.int .i64 W) := by simpa using hN.cell 0
  have c1 : w7.cell? ⟨gr, 1, none⟩ = some (.slice D k cD) := by simpa using hN.cell 1
  have cl := hN.lt
  clear hN
  have n1 : (tk != tk) = false := by simp
  have n2 : (ck != ck) = false := by simp
  have HD7 := Lib.hid (HD.out.below HT.out)
  have HN7 := Lib.hid (HN.out.below HT.out)
  have HB7 := Lib.hid (bel_trans HB3.out HT.out)
  have hny36 : ny ≤ 36 := by have h1 := HYL.out; have h2 := HXL.out; omega
  have hnv36 : nv ≤ 36 := by have h1 := HVL.out; have h2 := HZL.out; omega
  have HSI1 : Hid (∀ w', Below w7.heap.size w7 w' → Calls Tryz.prog 11 #[.slice X nx cx, .slice Y ny cy] w' (Ret w' (.bool true))) := fun w' hb => sameInts_t X Y nx cx ny cy y w' (HX7.out.below hb) (HY7.out.below hb) HXL.out HYL.out (by omega)
  have HSI2 : Hid (∀ w', Below w7.heap.size w7 w' → Calls Tryz.prog 11 #[.slice Z nz cz, .slice V nv cv] w' (Ret w' (.bool true))) := fun w' hb => sameInts_t Z V nz cz nv cv v w' (HZ7.out.below hb) (HV7.out.below hb) HZL.out HVL.out (by omega)
  go_wp2_with fail
  refine wp_region_rg 28 rfl (by kernel_rfl) ?_
  (refine rgT (i := 0) (v := ?_) rfl rfl (by kernel_rfl) (by kernel_rfl) (by kernel_rfl) (by rfl) (fun w' hcw => ?_) ?_; rotate_left; ((try dsimp only at hcw); have hbc := hcw.cells; go_simp; first | done | with_reducible rfl); simp only [sq1, sq2, sq3])
  (refine rgT (i := 1) (v := ?_) rfl rfl (by kernel_rfl) (by kernel_rfl) (by kernel_rfl) (by rfl) (fun w' hcw => ?_) ?_; rotate_left; ((try dsimp only at hcw); have hbc := hcw.cells; go_simp; first | done | with_reducible rfl); simp only [sq1, sq2, sq3])
  (refine rgT (i := 2) (v := ?_) rfl rfl (by kernel_rfl) (by kernel_rfl) (by kernel_rfl) (by rfl) (fun w' hcw => ?_) ?_; rotate_left; ((try dsimp only at hcw); have hbc := hcw.cells; go_simp; first | done | with_reducible rfl); simp only [sq1, sq2, sq3])
  (refine rgT (i := 3) (v := ?_) rfl rfl (by kernel_rfl) (by kernel_rfl) (by kernel_rfl) (by rfl) (fun w' hcw => ?_) ?_; rotate_left; ((try dsimp only at hcw); have hbc := hcw.cells; go_simp; first | done | with_reducible rfl); simp only [sq1, sq2, sq3])
  (refine rgT (i := 4) (v := ?_) rfl rfl (by kernel_rfl) (by kernel_rfl) (by kernel_rfl) (by rfl) (fun w' hcw => ?_) ?_; rotate_left; ((try dsimp only at hcw); have hbc := hcw.cells; go_simp; first | done | with_reducible rfl); simp only [sq1, sq2, sq3])
  (refine rgT (i := 5) (v := ?_) rfl rfl (by kernel_rfl) (by kernel_rfl) (by kernel_rfl) (by rfl) (fun w' hcw => ?_) ?_; rotate_left; ((try dsimp only at hcw); have hbc := hcw.cells; go_simp; first | done | with_reducible rfl); simp only [sq1, sq2, sq3])
  (refine rgT (i := 6) (v := .bool true) rfl rfl (by kernel_rfl) (by kernel_rfl) (by kernel_rfl) (by rfl) (fun w' hcw => ?_) ?_; ((try dsimp only at hcw); go_simp; exact callsX (HSI1.out _ hcw)); simp only [sq1, sq2, sq3])
  (refine rgT (i := 7) (v := ?_) rfl rfl (by kernel_rfl) (by kernel_rfl) (by kernel_rfl) (by rfl) (fun w' hcw => ?_) ?_; rotate_left; ((try dsimp only at hcw); have hbc := hcw.cells; go_simp; first | done | with_reducible rfl); simp only [sq1, sq2, sq3])
  (refine rgT (i := 8) (v := ?_) rfl rfl (by kernel_rfl) (by kernel_rfl) (by kernel_rfl) (by rfl) (fun w' hcw => ?_) ?_; rotate_left; ((try dsimp only at hcw); have hbc := hcw.cells; go_simp; first | done | with_reducible rfl); simp only [sq1, sq2, sq3])
  (refine rgT (i := 9) (v := ?_) rfl rfl (by kernel_rfl) (by kernel_rfl) (by kernel_rfl) (by rfl) (fun w' hcw => ?_) ?_; rotate_left; ((try dsimp only at hcw); have hbc := hcw.cells; go_simp; first | done | with_reducible rfl); simp only [sq1, sq2, sq3])
  (refine rgT (i := 10) (v := ?_) rfl rfl (by kernel_rfl) (by kernel_rfl) (by kernel_rfl) (by rfl) (fun w' hcw => ?_) ?_; rotate_left; ((try dsimp only at hcw); have hbc := hcw.cells; go_simp; first | done | with_reducible rfl); simp only [sq1, sq2, sq3])
  (refine rgT (i := 11) (v := ?_) rfl rfl (by kernel_rfl) (by kernel_rfl) (by kernel_rfl) (by rfl) (fun w' hcw => ?_) ?_; rotate_left; ((try dsimp only at hcw); have hbc := hcw.cells; go_simp; first | done | with_reducible rfl); simp only [sq1, sq2, sq3])
  (refine rgT (i := 12) (v := ?_) rfl rfl (by kernel_rfl) (by kernel_rfl) (by kernel_rfl) (by rfl) (fun w' hcw => ?_) ?_; rotate_left; ((try dsimp only at hcw); have hbc := hcw.cells; go_simp; first | done | with_reducible rfl); simp only [sq1, sq2, sq3])
  (refine rgT (i := 13) (v := ?_) rfl rfl (by kernel_rfl) (by kernel_rfl) (by kernel_rfl) (by rfl) (fun w' hcw => ?_) ?_; rotate_left; ((try dsimp only at hcw); have hbc := hcw.cells; go_simp; first | done | with_reducible rfl); simp only [sq1, sq2, sq3])
  (refine rgT (i := 14) (v := ?_) rfl rfl (by kernel_rfl) (by kernel_rfl) (by kernel_rfl) (by rfl) (fun w' hcw => ?_) ?_; rotate_left; ((try dsimp only at hcw); have hbc := hcw.cells; go_simp; first | done | with_reducible rfl); simp only [sq1, sq2, sq3])
  (refine rgT (i := 15) (v := ?_) rfl rfl (by kernel_rfl) (by kernel_rfl) (by kernel_rfl) (by rfl) (fun w' hcw => ?_) ?_; rotate_left; ((try dsimp only at hcw); have hbc := hcw.cells; go_simp; first | done | with_reducible rfl); simp only [sq1, sq2, sq3])
  (refine rgT (i := 16) (v := ?_) rfl rfl (by kernel_rfl) (by kernel_rfl) (by kernel_rfl) (by rfl) (fun w' hcw => ?_) ?_; rotate_left; ((try dsimp only at hcw); have hbc := hcw.cells; go_simp; first | done | with_reducible rfl); simp only [sq1, sq2, sq3])
  (refine rgT (i := 17) (v := .bool true) rfl rfl (by kernel_rfl) (by kernel_rfl) (by kernel_rfl) (by rfl) (fun w' hcw => ?_) ?_; ((try dsimp only at hcw); go_simp; exact callsX (HSI2.out _ hcw)); simp only [sq1, sq2, sq3])
  (refine rgT (i := 18) (v := ?_) rfl rfl (by kernel_rfl) (by kernel_rfl) (by kernel_rfl) (by rfl) (fun w' hcw => ?_) ?_; rotate_left; ((try dsimp only at hcw); have hbc := hcw.cells; go_simp; first | done | with_reducible rfl); simp only [sq1, sq2, sq3])
  (refine rgT (i := 19) (v := ?_) rfl rfl (by kernel_rfl) (by kernel_rfl) (by kernel_rfl) (by rfl) (fun w' hcw => ?_) ?_; rotate_left; ((try dsimp only at hcw); have hbc := hcw.cells; go_simp; first | done | with_reducible rfl); simp only [sq1, sq2, sq3])
  (refine rgT (i := 20) (v := ?_) rfl rfl (by kernel_rfl) (by kernel_rfl) (by kernel_rfl) (by rfl) (fun w' hcw => ?_) ?_; rotate_left; ((try dsimp only at hcw); have hbc := hcw.cells; go_simp; first | done | with_reducible rfl); simp only [sq1, sq2, sq3])
  (refine rgT (i := 21) (v := ?_) rfl rfl (by kernel_rfl) (by kernel_rfl) (by kernel_rfl) (by rfl) (fun w' hcw => ?_) ?_; rotate_left; ((try dsimp only at hcw); have hbc := hcw.cells; go_simp; first | done | with_reducible rfl); simp only [sq1, sq2, sq3])
  (refine rgT (i := 23) (v := ?_) rfl rfl (by kernel_rfl) (by kernel_rfl) (by kernel_rfl) (by rfl) (fun w' hcw => ?_) ?_; rotate_left; ((try dsimp only at hcw); have hbc := hcw.cells; go_simp; first | done | with_reducible rfl); simp only [sq1, sq2, sq3])
  refine rgG_one (i := 22) (by kernel_rfl) rfl (by rfl) (fun wa hca hea Ka hKa => ?_)
  go_simp
  refine (RegionMotions_i W D k cD rows _ (HD7.out.below hca) HLR.out).mono ?_
  rintro e ua ⟨Ga, nga, cga, rfl, oga, hba⟩
  refine hKa _ _ (bel_trans hca hba) ?_
  clear hKa Ka
  refine rgG_one (i := 24) (by kernel_rfl) rfl (by rfl) (fun wb hcb heb Kb hKb => ?_)
  go_simp
  refine (RegionMotions_s W D k cD rows _ (HD7.out.below hcb) HLR.out).mono ?_
  rintro e ub ⟨Gb, ngb, cgb, rfl, ogb, hbb⟩
  refine hKb _ _ (bel_trans hcb hbb) ?_
  clear hKb Kb
  have HGA := Lib.hid ((Rd.of_own oga).below (bel_trans heb hbb))
  have HGB := Lib.hid (Rd.of_own ogb)
  have HGAL := Lib.hid (by have h := own_len oga; rw [vI_length] at h; omega : (motV W rows).length = nga)
  have HGBL := Lib.hid (by have h := own_len ogb; rw [vI_length] at h; omega : (motV W rows).length = ngb)
  have hng : nga ≤ 8 := by have h1 := HGAL.out; have h2 := motV_len W rows; omega
  have hng2 : ngb ≤ 8 := by have h1 := HGBL.out; have h2 := motV_len W rows; omega
  clear oga ogb hba hbb hca hea hcb heb
  refine rgG_one (i := 25) (by kernel_rfl) rfl (by rfl) (fun wc hcc hec Kc hKc => ?_)
  go_simp
  refine (sameInts_t Ga Gb nga cga ngb cgb (motV W rows) _ (HGA.out.below hec) (HGB.out.below hec) HGAL.out HGBL.out (by omega)).mono ?_
  rintro e uc ⟨rfl, hbc⟩
  refine hKc _ _ (bel_trans hcc hbc) ?_
  clear hKc Kc
  (refine rgT (i := 26) (v := ?_) rfl rfl (by kernel_rfl) (by kernel_rfl) (by kernel_rfl) (by rfl) (fun w' hcw => ?_) ?_; rotate_left; ((try dsimp only at hcw); have hbc := hcw.cells; go_simp; first | done | with_reducible rfl); simp only [sq1, sq2, sq3])
  (refine rgT (i := 27) (v := ?_) rfl rfl (by kernel_rfl) (by kernel_rfl) (by kernel_rfl) (by rfl) (fun w' hcw => ?_) ?_; rotate_left; ((try dsimp only at hcw); have hbc := hcw.cells; go_simp; first | done | with_reducible rfl); simp only [sq1, sq2, sq3])
  refine ⟨by kernel_rfl, fun wz hcz hez => NoPanic.normal ?_⟩
  go_wp2_with fail
  exact HYY.out _ _ _ _ _ _ _ _ _ _ _ _ _ _ _ _ _ _ _ _ _ _ _ _ _ _ _ _ _ _ _ _ _ _ _ _ _ _ _ _ _ _ _ _ _ _ _ _ _ _ _ _ _ _ _ _ _ _ _ _ _ _ _ _ _ _ _ _ _ _ _ _ _ _ _ _ _ _ _ _ _ _ _ _ _ _ _ _ _ _ _ _ _ _ _ _ _ _ _ _ _ _ _ _ _ _ _ _ _ _ _ _ _ _ _ _ _ _ _ _ _ _ _ _ _ _ _ _ _ _ _ _ _ _ _ _ _ _ _ _ _ _ _ _ _ _ _ _ _ _ _ _ _ _ _ _ _ _ _ _ _ _ _ _ _ _ _ _ _ _ _ _ _ _ _ _ _ _ _ _ _ _ _ _ _ _ _ _ _ _ _ _ _ _ _ _ _ _ _ _ _ _ _ _ _ _ _ _ _ _ _ _ _ _ _ _ _ _ _ _ _ _ _ _ _ _ _ _ _ _ _ _ _ _ W mo D Y V k cD ny cy nv cv gr rows l y v tk ck _ (bel_trans HB7.out hcz) (HN7.out.below hcz) (HD7.out.below hcz) HLR.out HTL.out HTK.out HY.out HV.out (HY7.out.below hcz) HYL.out hny36 (HV7.out.below hcz) HVL.out hnv36
end
end Go.Proofs.YtkcgdnnipohehaaGreatDoor
