/- The motions that keep a region: both sides. -/
import Derived.Test.YtcgohceakjjlhaaCarryM
import Derived.Test.YtcgohceakjjlhaaHas
import Derived.Outline
import Derived.WalkLawsBesides
import Derived.WalkSpells
import Derived.BigQuiet
import Derived.Deep.QuietTactic
import Derived.Deep.RegionHeld3
import Derived.Deep.RegionWith
import Derived.Deep.DeepCutAuto
import Derived.Deep.CutBlock
import Derived.Deep.DrawnRows
namespace Go.Proofs.Ytcgohceakjjlhaa
open Go.RowKit
set_option linter.unusedVariables false
attribute [local go_sem ↓] Go.wp_at_zero Go.wp_at_succ
def keepM (n h mv m : Nat) : Bool := goesM n h m && (turnTo n h m mv (n * h) == mv)
def motTo (n h mv : Nat) : Nat → List Int
  | 0 => []
  | m + 1 => motTo n h mv m ++ (if keepM n h mv m then [(m : Int)] else [])
def motV (W : Int) (rows : List Int) : List Int := if isReg W rows then motTo W.toNat rows.length (maskV W rows) 8 else []
theorem own_mono3 {w : World} {base base' e size n c : Nat} {A : Option Addr} {xs : List Value} (h : w.ownsRow base e size (.slice A n c) n xs) (hb : base' ≤ base) : w.ownsRow base' e size (.slice A n c) n xs := by
  refine ⟨h.1, ?_⟩
  rcases h.2 with hn | ⟨g, cap, cur, hv, hg, hgg, rest⟩
  · exact .inl hn
  · exact .inr ⟨g, cap, cur, hv, Nat.le_trans hb hg, hgg, rest⟩
theorem motTo_len (n h mv : Nat) : ∀ m, (motTo n h mv m).length ≤ m
  | 0 => Nat.le_refl _
  | m + 1 => by
    have := motTo_len n h mv m
    show (motTo n h mv m ++ _).length ≤ _
    rw [List.length_append]
    split <;> simp <;> omega
theorem maskV_lt {n : Nat} {rows : List Int} (h : isReg (n : Int) rows = true) : maskV (n : Int) rows < 2 ^ (n * rows.length) := by
  obtain ⟨m, hm, _, _, _, _, hrow⟩ := isReg_yes h
  obtain rfl : n = m := by omega
  unfold maskV
  rw [if_pos h, Nat.mul_comm]
  exact mkTo_lt hrow rows.length (Nat.le_refl _)
set_option maxHeartbeats 1600000 in
theorem RegionMotions_i (W : Int) (A : Option Addr) (h c : Nat) (rows : List Int) (w : World) (hr : Rd w A (vI rows)) (hl : rows.length = h) :
    Calls Try.prog 15 #[.agg #[.int .i64 W, .slice A h c]] w (RetS w 3 1 (vI (motV W rows))) := by
  cases hv : isReg W rows with
  | false =>
    have HV : Hid (motV W rows = []) := by show motV W rows = []; unfold motV; rw [hv]; rfl
    have HL := Lib.hid hl
    have HF := Lib.hid hv
    clear hv hl
    go_enter Try.func15, Try.ntmps15
    go_wp2_with fail
    refine (IsRegion_i _ _ _ _ rows _ (hr.alloc _) HL.out).mono ?_
    rw [HF.out]
    rintro e w1 ⟨rfl, hb1⟩
    go_wp2_with fail
    go_ret
    exact ⟨none, 0, 0, rfl, by rw [HV.out]; exact own_nil _ _ _ _, (by (repeat (first | with_reducible exact Below.refl _ _ | with_reducible assumption | with_reducible apply bel_alloc | with_reducible apply bel_drew | with_reducible apply bel_drewN | ((with_reducible refine bel_set ?_ ?_); rotate_left; (simp <;> omega)) | (with_reducible refine bel_trans ?_ (by with_reducible assumption)))))⟩
  | true =>
    have HT := Lib.hid hv
    obtain ⟨n, rfl, hn1, hn6, hh1, hh6, hrow⟩ := isReg_yes hv
    have hmv := maskV_lt hv
    have hV : motV (n : Int) rows = motTo n rows.length (maskV n rows) 8 := by unfold motV; rw [hv]; rfl
    rw [hl] at hh1 hh6 hmv hV
    have HV := Lib.hid hV
    have HL := Lib.hid hl
    have HMV := Lib.hid hmv
    obtain ⟨mv, hmve⟩ : ∃ mv, maskV (n : Int) rows = mv := ⟨_, rfl⟩
    have HME := Lib.hid hmve
    clear hv hl hrow hmv hV hmve
    go_enter Try.func15, Try.ntmps15
    go_wp2_with fail
    refine (IsRegion_i _ _ _ _ rows _ (hr.alloc _) HL.out).mono ?_
    rw [HT.out]
    rintro e w1 ⟨rfl, hb1⟩
    have HB1 := Lib.hid ((Blk.new w 27 #[.int .i64 (n : Int), .slice A h c]).below hb1)
    have HR1 := Lib.hid ((hr.alloc (.cells #[.int .i64 (n : Int), .slice A h c] 27)).below hb1)
    have hb01 : Below w.heap.size w w1 := (by (repeat (first | with_reducible exact Below.refl _ _ | with_reducible assumption | with_reducible apply bel_alloc | with_reducible apply bel_drew | with_reducible apply bel_drewN | ((with_reducible refine bel_set ?_ ?_); rotate_left; (simp <;> omega)) | (with_reducible refine bel_trans ?_ (by with_reducible assumption)))))
    have hsz := hb01.size
    go_wp2_with fail
    go_loopw [8, 3] (fun i e wr => ∃ (m q cq : Nat) (B : Option Addr), m ≤ 8 ∧ q ≤ m ∧ i = .int .i64 m ∧ e = .slice B q cq ∧ wr.ownsRow w1.heap.size 3 1 (.slice B q cq) q (vI (motTo n h mv m)) ∧ Below w1.heap.size w1 wr) (fun i _ _ => 8 - (intOf i).toNat)
    case atStart => exact ⟨0, 0, 0, none, Nat.zero_le _, Nat.le_refl _, rfl, rfl, own_nil _ _ _ _, Below.refl _ _⟩
    case round =>
      obtain ⟨m, q, cq, B, hm, hqm, rfl, rfl, hown, hb⟩ := hrel
      have HO := Lib.hid hown
      clear hown
      by_cases hlt : m < 8
      · have hm0 : (0 : Int) ≤ (m : Int) := by omega
        have hm1 : (m : Int) < 8 := by omega
        have hB := HB1.out.below hb
        have d0 : wr.cell? ⟨w.heap.size, 0, none⟩ = some (.int .i64 (n : Int)) := by simpa using hB.cell 0
        have d1 : wr.cell? ⟨w.heap.size, 1, none⟩ = some (.slice A h c) := by simpa using hB.cell 1
        have hgw := hB.lt
        have HRW := Lib.hid (HR1.out.below hb)
        have hstep : motTo n h mv (m + 1) = motTo n h mv m ++ (if keepM n h mv m then [(m : Int)] else []) := rfl
        clear hB
        have hbz := hb.size
        have KEEP : Hid (keepM n h mv m = true → motTo n h mv (m + 1) = motTo n h mv m ++ [(m : Int)]) := fun h => by rw [hstep, h]; rfl
        have SKIP : Hid (keepM n h mv m = false → motTo n h mv (m + 1) = motTo n h mv m) := fun h => by rw [hstep, h]; simp
        clear hstep
        cases hg : goesM n h m with
        | true =>
          have HG := Lib.hid hg
          have hk : keepM n h mv m = (turnTo n h m mv (n * h) == mv) := by unfold keepM; rw [hg]; rfl
          obtain ⟨t, ht⟩ : ∃ t, turnTo n h m mv (n * h) = t := ⟨_, rfl⟩
          rw [ht] at hk
          have HTT2 : Hid (((turnTo n h m mv (n * h) : Nat) : Int) = (t : Int)) := by show _ = _; rw [ht]
          have HMI : Hid (((maskV (n : Int) rows : Nat) : Int) = (mv : Int)) := by show _ = _; rw [HME.out]
          clear hg ht
          by_cases htm : t = mv
          · have HK := Lib.hid (KEEP.out (by rw [hk, htm]; simp))
            have e1 : ((t : Int) == (mv : Int)) = true := by simp [htm]
            clear KEEP SKIP hk htm
            by_cases hp : m % 2 = 0
            · have hp2 : ((m : Int) % 2 == 0) = true := by rw [beq_iff_eq]; omega
              have hp3 : (m : Int).tmod 2 = 0 := by rw [Int.tmod_eq_emod_of_nonneg hm0]; omega
              go_wp2_with fail
              (refine wp_region_below (by kernel_rfl) (by kernel_rfl) ?_; (repeat (first | go_big_quiet_skip | (refine quietV (v := ?_) (by rfl) rfl (fun w' hbw => ?_) ?_; rotate_left; ((try dsimp only at hbw); have hbc := (bcell hbw).1; have hbf := (bcell hbw).2; go_simp; first | done | with_reducible rfl | first | exact callsBI (mask_i _ _ _ _ rows _ (HRW.out.below hbw) HL.out HT.out) HMI.out hbw | exact callsBI (carryMask_i n _ h _ rows mv m _ (HRW.out.below hbw) HL.out ⟨hn1, hn6⟩ ⟨hh1, hh6⟩ hlt HG.out (by have := HMV.out; have := HME.out; omega)) HTT2.out hbw); simp only [List.setIfInBounds_toArray, List.set_cons_zero, List.set_cons_succ]))); refine wpQuiet_nil ?_; intro wq hbq)
              go_wp2_with (at_builtin; go_must (refine app_I _ rfl _ _ rfl w1.heap.size _ _ _ _ rfl ((own_keep HO.out hbq).alloc _) _ _ _ [(m : Int)] rfl (rd_newI _ _ _) rfl (by omega) (by have := hbq.size; simp; omega) ?_); intro D2 cp2 w8 ho8 hg8 hat8; have HO8 := Lib.hid ho8; have HG8 := Lib.hid hg8; clear ho8 hg8 hat8)
              exact ⟨⟨m + 1, q + 1, cp2, D2, by omega, by omega, by go_num, rfl, by rw [HK.out]; exact HO8.out, bel_app (bel_alloc (bel_trans hb hbq) _) HG8.out (fun g' hg1 => ((own_lt HO.out) g' hg1).1)⟩, by simp [intOf]; omega⟩
            · have hnh : (n : Int) = (h : Int) := by have := HG.out; unfold goesM at this; simp only [Bool.or_eq_true, beq_iff_eq] at this; omega
              have hp2 : ((m : Int) % 2 == 0) = false := by rw [beq_eq_false_iff_ne]; omega
              have hp3 : (m : Int).tmod 2 = 1 := by rw [Int.tmod_eq_emod_of_nonneg hm0]; omega
              have hp4 : m % 2 = 1 := by omega
              have hnh2 : ((n : Int) == (h : Int)) = true := by rw [beq_iff_eq]; exact hnh
              have HNH := Lib.hid hnh
              clear hp hnh
              go_wp2_with fail
              (refine wp_region_below (by kernel_rfl) (by kernel_rfl) ?_; (repeat (first | go_big_quiet_skip | (refine quietV (v := ?_) (by rfl) rfl (fun w' hbw => ?_) ?_; rotate_left; ((try dsimp only at hbw); have hbc := (bcell hbw).1; have hbf := (bcell hbw).2; go_simp; first | done | with_reducible rfl | first | exact callsBI (mask_i _ _ _ _ rows _ (HRW.out.below hbw) HL.out HT.out) HMI.out hbw | exact callsBI (carryMask_i n _ h _ rows mv m _ (HRW.out.below hbw) HL.out ⟨hn1, hn6⟩ ⟨hh1, hh6⟩ hlt HG.out (by have := HMV.out; have := HME.out; omega)) HTT2.out hbw); simp only [List.setIfInBounds_toArray, List.set_cons_zero, List.set_cons_succ]))); refine wpQuiet_nil ?_; intro wq hbq)
              go_wp2_with (at_builtin; go_must (refine app_I _ rfl _ _ rfl w1.heap.size _ _ _ _ rfl ((own_keep HO.out hbq).alloc _) _ _ _ [(m : Int)] rfl (rd_newI _ _ _) rfl (by omega) (by have := hbq.size; simp; omega) ?_); intro D2 cp2 w8 ho8 hg8 hat8; have HO8 := Lib.hid ho8; have HG8 := Lib.hid hg8; clear ho8 hg8 hat8)
              exact ⟨⟨m + 1, q + 1, cp2, D2, by omega, by omega, by go_num, rfl, by rw [HK.out]; exact HO8.out, bel_app (bel_alloc (bel_trans hb hbq) _) HG8.out (fun g' hg1 => ((own_lt HO.out) g' hg1).1)⟩, by simp [intOf]; omega⟩
          · have HK := Lib.hid (SKIP.out (by rw [hk]; simpa using htm))
            have e1 : ((t : Int) == (mv : Int)) = false := by rw [beq_eq_false_iff_ne]; omega
            clear KEEP SKIP hk htm
            by_cases hp : m % 2 = 0
            · have hp2 : ((m : Int) % 2 == 0) = true := by rw [beq_iff_eq]; omega
              have hp3 : (m : Int).tmod 2 = 0 := by rw [Int.tmod_eq_emod_of_nonneg hm0]; omega
              go_wp2_with fail
              (refine wp_region_below (by kernel_rfl) (by kernel_rfl) ?_; (repeat (first | go_big_quiet_skip | (refine quietV (v := ?_) (by rfl) rfl (fun w' hbw => ?_) ?_; rotate_left; ((try dsimp only at hbw); have hbc := (bcell hbw).1; have hbf := (bcell hbw).2; go_simp; first | done | with_reducible rfl | first | exact callsBI (mask_i _ _ _ _ rows _ (HRW.out.below hbw) HL.out HT.out) HMI.out hbw | exact callsBI (carryMask_i n _ h _ rows mv m _ (HRW.out.below hbw) HL.out ⟨hn1, hn6⟩ ⟨hh1, hh6⟩ hlt HG.out (by have := HMV.out; have := HME.out; omega)) HTT2.out hbw); simp only [List.setIfInBounds_toArray, List.set_cons_zero, List.set_cons_succ]))); refine wpQuiet_nil ?_; intro wq hbq)
              go_wp2_with fail
              exact ⟨⟨m + 1, q, cq, B, by omega, by omega, by go_num, rfl, by rw [HK.out]; exact own_keep HO.out hbq, (by (repeat (first | with_reducible exact Below.refl _ _ | with_reducible assumption | with_reducible apply bel_alloc | with_reducible apply bel_drew | with_reducible apply bel_drewN | ((with_reducible refine bel_set ?_ ?_); rotate_left; (simp <;> omega)) | (with_reducible refine bel_trans ?_ (by with_reducible assumption)))))⟩, by simp [intOf]; omega⟩
            · have hnh : (n : Int) = (h : Int) := by have := HG.out; unfold goesM at this; simp only [Bool.or_eq_true, beq_iff_eq] at this; omega
              have hp2 : ((m : Int) % 2 == 0) = false := by rw [beq_eq_false_iff_ne]; omega
              have hp3 : (m : Int).tmod 2 = 1 := by rw [Int.tmod_eq_emod_of_nonneg hm0]; omega
              have hp4 : m % 2 = 1 := by omega
              have hnh2 : ((n : Int) == (h : Int)) = true := by rw [beq_iff_eq]; exact hnh
              have HNH := Lib.hid hnh
              clear hp hnh
              go_wp2_with fail
              (refine wp_region_below (by kernel_rfl) (by kernel_rfl) ?_; (repeat (first | go_big_quiet_skip | (refine quietV (v := ?_) (by rfl) rfl (fun w' hbw => ?_) ?_; rotate_left; ((try dsimp only at hbw); have hbc := (bcell hbw).1; have hbf := (bcell hbw).2; go_simp; first | done | with_reducible rfl | first | exact callsBI (mask_i _ _ _ _ rows _ (HRW.out.below hbw) HL.out HT.out) HMI.out hbw | exact callsBI (carryMask_i n _ h _ rows mv m _ (HRW.out.below hbw) HL.out ⟨hn1, hn6⟩ ⟨hh1, hh6⟩ hlt HG.out (by have := HMV.out; have := HME.out; omega)) HTT2.out hbw); simp only [List.setIfInBounds_toArray, List.set_cons_zero, List.set_cons_succ]))); refine wpQuiet_nil ?_; intro wq hbq)
              go_wp2_with fail
              exact ⟨⟨m + 1, q, cq, B, by omega, by omega, by go_num, rfl, by rw [HK.out]; exact own_keep HO.out hbq, (by (repeat (first | with_reducible exact Below.refl _ _ | with_reducible assumption | with_reducible apply bel_alloc | with_reducible apply bel_drew | with_reducible apply bel_drewN | ((with_reducible refine bel_set ?_ ?_); rotate_left; (simp <;> omega)) | (with_reducible refine bel_trans ?_ (by with_reducible assumption)))))⟩, by simp [intOf]; omega⟩
        | false =>
          have hk : keepM n h mv m = false := by unfold keepM; rw [hg]; rfl
          have HK := Lib.hid (SKIP.out hk)
          unfold goesM at hg
          simp only [Bool.or_eq_false_iff, beq_eq_false_iff_ne, ne_eq] at hg
          obtain ⟨hp, hnh0⟩ := hg
          have hnh : ((n : Int) == (h : Int)) = false := by rw [beq_eq_false_iff_ne]; omega
          clear KEEP SKIP hk hnh0
          have hp2 : ((m : Int) % 2 == 0) = false := by rw [beq_eq_false_iff_ne]; omega
          have hp3 : (m : Int).tmod 2 = 1 := by rw [Int.tmod_eq_emod_of_nonneg hm0]; omega
          have hp4 : m % 2 = 1 := by omega
          clear hp
          go_wp2_with fail
          (refine wp_region_below (by kernel_rfl) (by kernel_rfl) ?_; (repeat (first | go_big_quiet_skip | (refine quietV (v := ?_) (by rfl) rfl (fun w' hbw => ?_) ?_; rotate_left; ((try dsimp only at hbw); have hbc := (bcell hbw).1; have hbf := (bcell hbw).2; go_simp; first | done | with_reducible rfl | fail); simp only [List.setIfInBounds_toArray, List.set_cons_zero, List.set_cons_succ]))); refine wpQuiet_nil ?_; intro wq hbq)
          go_wp2_with fail
          exact ⟨⟨m + 1, q, cq, B, by omega, by omega, by go_num, rfl, by rw [HK.out]; exact own_keep HO.out hbq, (by (repeat (first | with_reducible exact Below.refl _ _ | with_reducible assumption | with_reducible apply bel_alloc | with_reducible apply bel_drew | with_reducible apply bel_drewN | ((with_reducible refine bel_set ?_ ?_); rotate_left; (simp <;> omega)) | (with_reducible refine bel_trans ?_ (by with_reducible assumption)))))⟩, by simp [intOf]; omega⟩
      · have hm8 : m = 8 := by omega
        have hm1 : ¬ (m : Int) < 8 := by omega
        have HO2 : Hid (wr.ownsRow w1.heap.size 3 1 (.slice B q cq) q (vI (motV n rows))) := by show wr.ownsRow _ _ _ _ _ _; rw [HV.out, HME.out, ← hm8]; exact HO.out
        clear hm8
        go_wp2
        go_ret
        exact ⟨_, _, _, rfl, own_mono3 HO2.out hsz, (by (repeat (first | with_reducible exact Below.refl _ _ | with_reducible assumption | with_reducible apply bel_alloc | with_reducible apply bel_drew | with_reducible apply bel_drewN | ((with_reducible refine bel_set ?_ ?_); rotate_left; (simp <;> omega)) | (with_reducible refine bel_trans ?_ (by with_reducible assumption)))))⟩
end Go.Proofs.Ytcgohceakjjlhaa
