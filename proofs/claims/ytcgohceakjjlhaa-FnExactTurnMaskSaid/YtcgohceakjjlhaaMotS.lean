/- The motions that keep a region: the reference. -/
import Derived.Test.YtcgohceakjjlhaaMot
import Derived.Outline
import Derived.WalkLawsBesides
import Derived.WalkSpells
import Derived.BigQuiet
import Derived.Deep.QuietTactic
import Derived.Deep.RegionHeld3
import Derived.Deep.RegionWith
import Derived.Deep.DeepCutAuto
import Derived.Deep.CutBlock
import Derived.Deep.DrawnRows
namespace Go.Proofs.Ytcgohceakjjlhaa
open Go.RowKit
set_option linter.unusedVariables false
attribute [local go_sem ↓] Go.wp_at_zero Go.wp_at_succ

set_option maxHeartbeats 1600000 in
theorem RegionMotions_s (W : Int) (A : Option Addr) (h c : Nat) (rows : List Int) (w : World) (hr : Rd w A (vI rows)) (hl : rows.length = h) :
    Calls Try.prog 13 #[.agg #[.int .i64 W, .slice A h c]] w (RetS w 3 1 (vI (motV W rows))) := by
  have hini : ((w.alloc (.cells #[.int .i64 W, .slice A h c] 27)).alloc (.cells #[] 3)).ownsRow (w.heap.size + 1) 3 1 (.slice (some ⟨w.heap.size + 1, 0, none⟩) 0 0) 0 [] := by
    have := own_new (w.alloc (.cells #[.int .i64 W, .slice A h c] 27)) 3 1 0 #[] rfl (by simp [maxLen]) (base := w.heap.size + 1) (by simp)
    simpa using this
  have HI := Lib.hid hini
  have HB0 := Lib.hid ((Blk.new w 27 #[.int .i64 W, .slice A h c]).alloc (.cells #[] 3))
  have HR0 := Lib.hid hr
  have HL := Lib.hid hl
  clear hini hr
  cases hv : isReg W rows with
  | false =>
    have HV : Hid (motV W rows = []) := by show motV W rows = []; unfold motV; rw [hv]; rfl
    have HF := Lib.hid hv
    clear hv hl
    go_enter Try.func13, Try.ntmps13
    go_wp2
    go_loopw [4, 3] (fun i e wr => i = .int .i64 0 ∧ e = .slice (some ⟨w.heap.size + 1, 0, none⟩) 0 0 ∧ wr = (w.alloc (.cells #[.int .i64 W, .slice A h c] 27)).alloc (.cells #[] 3)) (fun _ _ _ => 0)
    case atStart => exact ⟨rfl, by simp, rfl⟩
    case round =>
      obtain ⟨rfl, rfl, rfl⟩ := hrel
      go_wp2_with fail
      refine (IsRegion_s _ _ _ _ rows _ ((HR0.out.alloc _).alloc _) HL.out).mono ?_
      rw [HF.out]
      rintro e w1 ⟨rfl, hb1⟩
      have HO := Lib.hid (own_mono3 (own_keep HI.out hb1) (Nat.le_succ w.heap.size))
      go_wp2_with fail
      go_ret
      exact ⟨_, _, _, rfl, by rw [HV.out]; exact HO.out, (by (repeat (first | with_reducible exact Below.refl _ _ | with_reducible assumption | with_reducible apply bel_alloc | with_reducible apply bel_drew | with_reducible apply bel_drewN | ((with_reducible refine bel_set ?_ ?_); rotate_left; (simp <;> omega)) | (with_reducible refine bel_trans ?_ (by with_reducible assumption)))))⟩
  | true =>
    have HT := Lib.hid hv
    obtain ⟨n, rfl, hn1, hn6, hh1, hh6, hrow⟩ := isReg_yes hv
    have hmv := maskV_lt hv
    have hV : motV (n : Int) rows = motTo n rows.length (maskV n rows) 8 := by unfold motV; rw [hv]; rfl
    rw [hl] at hh1 hh6 hmv hV
    have HV := Lib.hid hV
    have HMV := Lib.hid hmv
    obtain ⟨mv, hmve⟩ : ∃ mv, maskV (n : Int) rows = mv := ⟨_, rfl⟩
    have HME := Lib.hid hmve
    clear hv hl hrow hmv hV hmve
    go_enter Try.func13, Try.ntmps13
    go_wp2
    go_loopw [4, 3] (fun i e wr => ∃ (m q cq : Nat) (B : Option Addr), m ≤ 8 ∧ q ≤ m ∧ i = .int .i64 m ∧ e = .slice B q cq ∧ wr.ownsRow (w.heap.size + 1) 3 1 (.slice B q cq) q (vI (motTo n h mv m)) ∧ Below w.heap.size w wr ∧ Blk wr w.heap.size 27 #[.int .i64 (n : Int), .slice A h c]) (fun i _ _ => 8 - (intOf i).toNat)
    case atStart => exact ⟨0, 0, 0, _, Nat.zero_le _, Nat.le_refl _, rfl, by simp, HI.out, (by (repeat (first | with_reducible exact Below.refl _ _ | with_reducible assumption | with_reducible apply bel_alloc | with_reducible apply bel_drew | with_reducible apply bel_drewN | ((with_reducible refine bel_set ?_ ?_); rotate_left; (simp <;> omega)) | (with_reducible refine bel_trans ?_ (by with_reducible assumption))))), HB0.out⟩
    case round =>
      obtain ⟨m, q, cq, B, hm, hqm, rfl, rfl, hown, hb, hB⟩ := hrel
      have HO := Lib.hid hown
      have d0 : wr.cell? ⟨w.heap.size, 0, none⟩ = some (.int .i64 (n : Int)) := by simpa using hB.cell 0
      have d1 : wr.cell? ⟨w.heap.size, 1, none⟩ = some (.slice A h c) := by simpa using hB.cell 1
      have hgw := hB.lt
      have HRW := Lib.hid (HR0.out.below hb)
      have HB := Lib.hid hB
      have HOB : Hid (∀ g, ob B = some g → w.heap.size + 1 ≤ g) := fun g e => (own_lt hown g e).1
      clear hown hB
      by_cases hlt : m < 8
      · have hm0 : (0 : Int) ≤ (m : Int) := by omega
        have hm1 : (m : Int) < 8 := by omega
        have hstep : motTo n h mv (m + 1) = motTo n h mv m ++ (if keepM n h mv m then [(m : Int)] else []) := rfl
        have KEEP : Hid (keepM n h mv m = true → motTo n h mv (m + 1) = motTo n h mv m ++ [(m : Int)]) := fun h => by rw [hstep, h]; rfl
        have SKIP : Hid (keepM n h mv m = false → motTo n h mv (m + 1) = motTo n h mv m) := fun h => by rw [hstep, h]; simp
        clear hstep
        have HMI : Hid (((maskV (n : Int) rows : Nat) : Int) = (mv : Int)) := by show _ = _; rw [HME.out]
        have hbz := hb.size
        cases hg : goesM n h m with
        | true =>
          have HG := Lib.hid hg
          have hk : keepM n h mv m = (turnTo n h m mv (n * h) == mv) := by unfold keepM; rw [hg]; rfl
          obtain ⟨t, ht⟩ : ∃ t, turnTo n h m mv (n * h) = t := ⟨_, rfl⟩
          rw [ht] at hk
          have HTT := Lib.hid ht
          have hmv62 : mv < 2 ^ 62 := by
            have h1 := HMV.out
            rw [HME.out] at h1
            have h36 : n * h ≤ 6 * 6 := Nat.mul_le_mul hn6 hh6
            exact Nat.lt_of_lt_of_le h1 (Nat.pow_le_pow_right (by omega) (by omega))
          have HM62 := Lib.hid hmv62
          clear hg ht hmv62
          by_cases htm : t = mv
          · have HK := Lib.hid (KEEP.out (by rw [hk, htm]; simp))
            have e1 : ((t : Int) == (mv : Int)) = true := by simp [htm]
            clear KEEP SKIP hk htm
            go_wp2_with fail
            refine (IsRegion_s _ _ _ _ rows _ HRW.out HL.out).mono ?_
            rw [HT.out]
            rintro e w1 ⟨rfl, hb1⟩
            have hB1 := HB.out.below hb1
            have f0 : w1.cell? ⟨w.heap.size, 0, none⟩ = some (.int .i64 (n : Int)) := by simpa using hB1.cell 0
            have f1 : w1.cell? ⟨w.heap.size, 1, none⟩ = some (.slice A h c) := by simpa using hB1.cell 1
            have hgw1 := hB1.lt
            clear d0 d1 hB1
            go_wp2_with fail
            (refine wp_region_below (by kernel_rfl) (by kernel_rfl) ?_; (repeat (first | go_big_quiet_skip | (refine quietV (v := ?_) (by rfl) rfl (fun w' hbw => ?_) ?_; rotate_left; ((try dsimp only at hbw); have hbc := (bcell hbw).1; have hbf := (bcell hbw).2; go_simp; first | done | with_reducible rfl | first | exact callsBI (MaskOf_s _ _ _ _ rows _ ((HRW.out.below hb1).below hbw) HL.out) HMI.out hbw | exact callsB (v := .tuple #[.int .i64 (t : Int), .bool true]) (by rw [← HTT.out]; exact l23Turn_s n A h c rows mv m _ ((HRW.out.below hb1).below hbw) HL.out ⟨hn1, hn6⟩ ⟨hh1, hh6⟩ hlt HG.out HM62.out) hbw); simp only [List.setIfInBounds_toArray, List.set_cons_zero, List.set_cons_succ]))); refine wpQuiet_nil ?_; intro wq hbq)
            have hBq := (HB.out.below hb1).below hbq
            have k0 : wq.cell? ⟨w.heap.size, 0, none⟩ = some (.int .i64 (n : Int)) := by simpa using hBq.cell 0
            have k1 : wq.cell? ⟨w.heap.size, 1, none⟩ = some (.slice A h c) := by simpa using hBq.cell 1
            have hgwq := hBq.lt
            clear f0 f1 hBq
            go_wp2_with fail
            refine (MaskOf_s _ _ _ _ rows _ ((HRW.out.below hb1).below hbq) HL.out).mono ?_
            rw [HME.out]
            rintro e w2 ⟨rfl, hb2⟩
            have hb3 : Below w.heap.size w w2 := (by (repeat (first | with_reducible exact Below.refl _ _ | with_reducible assumption | with_reducible apply bel_alloc | with_reducible apply bel_drew | with_reducible apply bel_drewN | ((with_reducible refine bel_set ?_ ?_); rotate_left; (simp <;> omega)) | (with_reducible refine bel_trans ?_ (by with_reducible assumption)))))
            clear k0 k1
            go_wp2_with (at_builtin; go_must (refine app_I _ rfl _ _ rfl (w.heap.size + 1) _ _ _ _ rfl ((own_keep (own_keep (own_keep HO.out hb1) hbq) hb2).alloc _) _ _ _ [(m : Int)] rfl (rd_newI _ _ _) rfl (by omega) (by have := hb1.size; have := hbq.size; have := hb2.size; simp; omega) ?_); intro D2 cp2 w8 ho8 hg8 hat8; have HO8 := Lib.hid ho8; have HG8 := Lib.hid hg8; clear ho8 hg8 hat8)
            exact ⟨⟨m + 1, q + 1, cp2, D2, by omega, by omega, by go_num, rfl, by rw [HK.out]; exact HO8.out, bel_app (bel_alloc hb3 _) HG8.out (fun g' hg1 => by have := HOB.out g' hg1; omega),
              (((HB.out.below hb1).below hbq).below hb2).alloc _ |>.grown HG8.out (fun e => by have := HOB.out _ e.symm; omega)⟩, by simp [intOf]; omega⟩
          · have HK := Lib.hid (SKIP.out (by rw [hk]; simpa using htm))
            have e1 : ((t : Int) == (mv : Int)) = false := by rw [beq_eq_false_iff_ne]; omega
            clear KEEP SKIP hk htm
            go_wp2_with fail
            refine (IsRegion_s _ _ _ _ rows _ HRW.out HL.out).mono ?_
            rw [HT.out]
            rintro e w1 ⟨rfl, hb1⟩
            have hB1 := HB.out.below hb1
            have f0 : w1.cell? ⟨w.heap.size, 0, none⟩ = some (.int .i64 (n : Int)) := by simpa using hB1.cell 0
            have f1 : w1.cell? ⟨w.heap.size, 1, none⟩ = some (.slice A h c) := by simpa using hB1.cell 1
            have hgw1 := hB1.lt
            clear d0 d1 hB1
            go_wp2_with fail
            (refine wp_region_below (by kernel_rfl) (by kernel_rfl) ?_; (repeat (first | go_big_quiet_skip | (refine quietV (v := ?_) (by rfl) rfl (fun w' hbw => ?_) ?_; rotate_left; ((try dsimp only at hbw); have hbc := (bcell hbw).1; have hbf := (bcell hbw).2; go_simp; first | done | with_reducible rfl | first | exact callsBI (MaskOf_s _ _ _ _ rows _ ((HRW.out.below hb1).below hbw) HL.out) HMI.out hbw | exact callsB (v := .tuple #[.int .i64 (t : Int), .bool true]) (by rw [← HTT.out]; exact l23Turn_s n A h c rows mv m _ ((HRW.out.below hb1).below hbw) HL.out ⟨hn1, hn6⟩ ⟨hh1, hh6⟩ hlt HG.out HM62.out) hbw); simp only [List.setIfInBounds_toArray, List.set_cons_zero, List.set_cons_succ]))); refine wpQuiet_nil ?_; intro wq hbq)
            have hBq := (HB.out.below hb1).below hbq
            have k0 : wq.cell? ⟨w.heap.size, 0, none⟩ = some (.int .i64 (n : Int)) := by simpa using hBq.cell 0
            have k1 : wq.cell? ⟨w.heap.size, 1, none⟩ = some (.slice A h c) := by simpa using hBq.cell 1
            have hgwq := hBq.lt
            clear f0 f1 hBq
            go_wp2_with fail
            refine (MaskOf_s _ _ _ _ rows _ ((HRW.out.below hb1).below hbq) HL.out).mono ?_
            rw [HME.out]
            rintro e w2 ⟨rfl, hb2⟩
            have hb3 : Below w.heap.size w w2 := (by (repeat (first | with_reducible exact Below.refl _ _ | with_reducible assumption | with_reducible apply bel_alloc | with_reducible apply bel_drew | with_reducible apply bel_drewN | ((with_reducible refine bel_set ?_ ?_); rotate_left; (simp <;> omega)) | (with_reducible refine bel_trans ?_ (by with_reducible assumption)))))
            clear k0 k1
            go_wp2_with fail
            exact ⟨⟨m + 1, q, cq, B, by omega, by omega, by go_num, rfl, by rw [HK.out]; exact own_keep (own_keep (own_keep HO.out hb1) hbq) hb2, hb3, ((HB.out.below hb1).below hbq).below hb2⟩, by simp [intOf]; omega⟩
        | false =>
          have HG := Lib.hid hg
          have hk : keepM n h mv m = false := by unfold keepM; rw [hg]; rfl
          have HK := Lib.hid (SKIP.out hk)
          clear KEEP SKIP hk hg
          go_wp2_with fail
          refine (IsRegion_s _ _ _ _ rows _ HRW.out HL.out).mono ?_
          rw [HT.out]
          rintro e w1 ⟨rfl, hb1⟩
          have hB1 := HB.out.below hb1
          have f0 : w1.cell? ⟨w.heap.size, 0, none⟩ = some (.int .i64 (n : Int)) := by simpa using hB1.cell 0
          have f1 : w1.cell? ⟨w.heap.size, 1, none⟩ = some (.slice A h c) := by simpa using hB1.cell 1
          have hgw1 := hB1.lt
          clear d0 d1 hB1
          go_wp2_with fail
          (refine wp_region_below (by kernel_rfl) (by kernel_rfl) ?_; (repeat (first | go_big_quiet_skip | (refine quietV (v := ?_) (by rfl) rfl (fun w' hbw => ?_) ?_; rotate_left; ((try dsimp only at hbw); have hbc := (bcell hbw).1; have hbf := (bcell hbw).2; go_simp; first | done | with_reducible rfl | first | exact callsBI (MaskOf_s _ _ _ _ rows _ ((HRW.out.below hb1).below hbw) HL.out) HMI.out hbw | exact callsB (v := .tuple #[.int .i64 0, .bool false]) (l23Turn_no n _ h _ mv m _ ⟨hn1, hn6⟩ ⟨hh1, hh6⟩ hlt HG.out) hbw); simp only [List.setIfInBounds_toArray, List.set_cons_zero, List.set_cons_succ]))); refine wpQuiet_nil ?_; intro wq hbq)
          go_wp2_with fail
          exact ⟨⟨m + 1, q, cq, B, by omega, by omega, by go_num, rfl, by rw [HK.out]; exact own_keep (own_keep HO.out hb1) hbq, (by (repeat (first | with_reducible exact Below.refl _ _ | with_reducible assumption | with_reducible apply bel_alloc | with_reducible apply bel_drew | with_reducible apply bel_drewN | ((with_reducible refine bel_set ?_ ?_); rotate_left; (simp <;> omega)) | (with_reducible refine bel_trans ?_ (by with_reducible assumption))))), (HB.out.below hb1).below hbq⟩, by simp [intOf]; omega⟩
      · have hm8 : m = 8 := by omega
        have hm1 : ¬ (m : Int) < 8 := by omega
        have HO2 : Hid (wr.ownsRow (w.heap.size + 1) 3 1 (.slice B q cq) q (vI (motV n rows))) := by show wr.ownsRow _ _ _ _ _ _; rw [HV.out, HME.out, ← hm8]; exact HO.out
        clear hm8
        go_wp2
        go_ret
        exact ⟨_, _, _, rfl, own_mono3 HO2.out (Nat.le_succ _), hb⟩
end Go.Proofs.Ytcgohceakjjlhaa
