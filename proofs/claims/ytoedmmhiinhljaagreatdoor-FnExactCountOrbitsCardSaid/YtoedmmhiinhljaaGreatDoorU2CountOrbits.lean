/- Texts of this claim, one behind the other: part 2. -/
import Derived.Test.YtoedmmhiinhljaaGreatDoorU1CountOrbits
import Derived.Outline
import Derived.WalkLawsBesides
import Derived.WalkSpells
import Derived.BigQuiet
import Derived.Deep.QuietTactic
import Derived.Deep.RegionHeld3
import Derived.Deep.RegionWith
import Derived.Deep.DeepCutAuto
import Derived.Deep.CutBlock
import Derived.Deep.DrawnRows
import Derived.Lib.TrailingZeros
import Derived.Shelf.Spec.TrailingZeros
import Derived.Lib.ReflectliteSwap
/- The motions that keep a region: the reference. -/
namespace Go.Proofs.YtoedmmhiinhljaaGreatDoor
open Go.RowKit
set_option linter.unusedVariables false
attribute [local go_sem ↓] Go.wp_at_zero Go.wp_at_succ

set_option maxHeartbeats 1600000 in
theorem RegionMotions_s (W : Int) (A : Option Addr) (h c : Nat) (rows : List Int) (w : World) (hr : Rd w A (vI rows)) (hl : rows.length = h) :
    Calls Tryz.prog 20 #[.agg #[.int .i64 W, .slice A h c]] w (RetS w 3 1 (vI (motV W rows))) := by
  have hini : ((w.alloc (.cells #[.int .i64 W, .slice A h c] 29)).alloc (.cells #[] 3)).ownsRow (w.heap.size + 1) 3 1 (.slice (some ⟨w.heap.size + 1, 0, none⟩) 0 0) 0 [] := by
    have := own_new (w.alloc (.cells #[.int .i64 W, .slice A h c] 29)) 3 1 0 #[] rfl (by simp [maxLen]) (base := w.heap.size + 1) (by simp)
    simpa using this
  have HI := Lib.hid hini
  have HB0 := Lib.hid ((Blk.new w 29 #[.int .i64 W, .slice A h c]).alloc (.cells #[] 3))
  have HR0 := Lib.hid hr
  have HL := Lib.hid hl
  clear hini hr
  cases hv : isReg W rows with
  | false =>
    have HV : Hid (motV W rows = []) := by show motV W rows = []; unfold motV; rw [hv]; rfl
    have HF := Lib.hid hv
    clear hv hl
    go_enter Tryz.func20, Tryz.ntmps20
    go_wp2
    go_loopw [4, 3] (fun i e wr => i = .int .i64 0 ∧ e = .slice (some ⟨w.heap.size + 1, 0, none⟩) 0 0 ∧ wr = (w.alloc (.cells #[.int .i64 W, .slice A h c] 29)).alloc (.cells #[] 3)) (fun _ _ _ => 0)
    case atStart => exact ⟨rfl, by simp, rfl⟩
    case round =>
      obtain ⟨rfl, rfl, rfl⟩ := hrel
      go_wp2_with fail
      refine (IsRegion_s _ _ _ _ rows _ ((HR0.out.alloc _).alloc _) HL.out).mono ?_
      rw [HF.out]
      rintro e w1 ⟨rfl, hb1⟩
      have HO := Lib.hid (own_mono3 (own_keep HI.out hb1) (Nat.le_succ w.heap.size))
      go_wp2_with fail
      go_ret
      exact ⟨_, _, _, rfl, by rw [HV.out]; exact HO.out, (by (repeat (first | with_reducible exact Below.refl _ _ | with_reducible assumption | with_reducible apply bel_alloc | with_reducible apply bel_drew | with_reducible apply bel_drewN | ((with_reducible refine bel_set ?_ ?_); rotate_left; (simp <;> omega)) | (with_reducible refine bel_trans ?_ (by with_reducible assumption)))))⟩
  | true =>
    have HT := Lib.hid hv
    obtain ⟨n, rfl, hn1, hn6, hh1, hh6, hrow⟩ := isReg_yes hv
    have hmv := maskV_lt hv
    have hV : motV (n : Int) rows = motTo n rows.length (maskV n rows) 8 := by unfold motV; rw [hv]; rfl
    rw [hl] at hh1 hh6 hmv hV
    have HV := Lib.hid hV
    have HMV := Lib.hid hmv
    obtain ⟨mv, hmve⟩ : ∃ mv, maskV (n : Int) rows = mv := ⟨_, rfl⟩
    have HME := Lib.hid hmve
    clear hv hl hrow hmv hV hmve
    go_enter Tryz.func20, Tryz.ntmps20
    go_wp2
    go_loopw [4, 3] (fun i e wr => ∃ (m q cq : Nat) (B : Option Addr), m ≤ 8 ∧ q ≤ m ∧ i = .int .i64 m ∧ e = .slice B q cq ∧ wr.ownsRow (w.heap.size + 1) 3 1 (.slice B q cq) q (vI (motTo n h mv m)) ∧ Below w.heap.size w wr ∧ Blk wr w.heap.size 29 #[.int .i64 (n : Int), .slice A h c]) (fun i _ _ => 8 - (intOf i).toNat)
    case atStart => exact ⟨0, 0, 0, _, Nat.zero_le _, Nat.le_refl _, rfl, by simp, HI.out, (by (repeat (first | with_reducible exact Below.refl _ _ | with_reducible assumption | with_reducible apply bel_alloc | with_reducible apply bel_drew | with_reducible apply bel_drewN | ((with_reducible refine bel_set ?_ ?_); rotate_left; (simp <;> omega)) | (with_reducible refine bel_trans ?_ (by with_reducible assumption))))), HB0.out⟩
    case round =>
      obtain ⟨m, q, cq, B, hm, hqm, rfl, rfl, hown, hb, hB⟩ := hrel
      have HO := Lib.hid hown
      have d0 : wr.cell? ⟨w.heap.size, 0, none⟩ = some (.int .i64 (n : Int)) := by simpa using hB.cell 0
      have d1 : wr.cell? ⟨w.heap.size, 1, none⟩ = some (.slice A h c) := by simpa using hB.cell 1
      have hgw := hB.lt
      have HRW := Lib.hid (HR0.out.below hb)
      have HB := Lib.hid hB
      have HOB : Hid (∀ g, ob B = some g → w.heap.size + 1 ≤ g) := fun g e => (own_lt hown g e).1
      clear hown hB
      by_cases hlt : m < 8
      · have hm0 : (0 : Int) ≤ (m : Int) := by omega
        have hm1 : (m : Int) < 8 := by omega
        have hstep : motTo n h mv (m + 1) = motTo n h mv m ++ (if keepM n h mv m then [(m : Int)] else []) := rfl
        have KEEP : Hid (keepM n h mv m = true → motTo n h mv (m + 1) = motTo n h mv m ++ [(m : Int)]) := fun h => by rw [hstep, h]; rfl
        have SKIP : Hid (keepM n h mv m = false → motTo n h mv (m + 1) = motTo n h mv m) := fun h => by rw [hstep, h]; simp
        clear hstep
        have HMI : Hid (((maskV (n : Int) rows : Nat) : Int) = (mv : Int)) := by show _ = _; rw [HME.out]
        have hbz := hb.size
        cases hg : goesM n h m with
        | true =>
          have HG := Lib.hid hg
          have hk : keepM n h mv m = (turnTo n h m mv (n * h) == mv) := by unfold keepM; rw [hg]; rfl
          obtain ⟨t, ht⟩ : ∃ t, turnTo n h m mv (n * h) = t := ⟨_, rfl⟩
          rw [ht] at hk
          have HTT := Lib.hid ht
          have hmv62 : mv < 2 ^ 62 := by
            have h1 := HMV.out
            rw [HME.out] at h1
            have h36 : n * h ≤ 6 * 6 := Nat.mul_le_mul hn6 hh6
            exact Nat.lt_of_lt_of_le h1 (Nat.pow_le_pow_right (by omega) (by omega))
          have HM62 := Lib.hid hmv62
          clear hg ht hmv62
          by_cases htm : t = mv
          · have HK := Lib.hid (KEEP.out (by rw [hk, htm]; simp))
            have e1 : ((t : Int) == (mv : Int)) = true := by simp [htm]
            clear KEEP SKIP hk htm
            go_wp2_with fail
            refine (IsRegion_s _ _ _ _ rows _ HRW.out HL.out).mono ?_
            rw [HT.out]
            rintro e w1 ⟨rfl, hb1⟩
            have hB1 := HB.out.below hb1
            have f0 : w1.cell? ⟨w.heap.size, 0, none⟩ = some (.int .i64 (n : Int)) := by simpa using hB1.cell 0
            have f1 : w1.cell? ⟨w.heap.size, 1, none⟩ = some (.slice A h c) := by simpa using hB1.cell 1
            have hgw1 := hB1.lt
            clear d0 d1 hB1
            go_wp2_with fail
            (refine wp_region_below (by kernel_rfl) (by kernel_rfl) ?_; (repeat (first | go_big_quiet_skip | (refine quietV (v := ?_) (by rfl) rfl (fun w' hbw => ?_) ?_; rotate_left; ((try dsimp only at hbw); have hbc := (bcell hbw).1; have hbf := (bcell hbw).2; go_simp; first | done | with_reducible rfl | first | exact callsBI (MaskOf_s _ _ _ _ rows _ ((HRW.out.below hb1).below hbw) HL.out) HMI.out hbw | exact callsB (v := .tuple #[.int .i64 (t : Int), .bool true]) (by rw [← HTT.out]; exact l23Turn_s n A h c rows mv m _ ((HRW.out.below hb1).below hbw) HL.out ⟨hn1, hn6⟩ ⟨hh1, hh6⟩ hlt HG.out HM62.out) hbw); simp only [List.setIfInBounds_toArray, List.set_cons_zero, List.set_cons_succ]))); refine wpQuiet_nil ?_; intro wq hbq)
            have hBq := (HB.out.below hb1).below hbq
            have k0 : wq.cell? ⟨w.heap.size, 0, none⟩ = some (.int .i64 (n : Int)) := by simpa using hBq.cell 0
            have k1 : wq.cell? ⟨w.heap.size, 1, none⟩ = some (.slice A h c) := by simpa using hBq.cell 1
            have hgwq := hBq.lt
            clear f0 f1 hBq
            go_wp2_with fail
            refine (MaskOf_s _ _ _ _ rows _ ((HRW.out.below hb1).below hbq) HL.out).mono ?_
            rw [HME.out]
            rintro e w2 ⟨rfl, hb2⟩
            have hb3 : Below w.heap.size w w2 := (by (repeat (first | with_reducible exact Below.refl _ _ | with_reducible assumption | with_reducible apply bel_alloc | with_reducible apply bel_drew | with_reducible apply bel_drewN | ((with_reducible refine bel_set ?_ ?_); rotate_left; (simp <;> omega)) | (with_reducible refine bel_trans ?_ (by with_reducible assumption)))))
            clear k0 k1
            go_wp2_with (at_builtin; go_must (refine app_I _ rfl _ _ rfl (w.heap.size + 1) _ _ _ _ rfl ((own_keep (own_keep (own_keep HO.out hb1) hbq) hb2).alloc _) _ _ _ [(m : Int)] rfl (rd_newI _ _ _) rfl (by omega) (by have := hb1.size; have := hbq.size; have := hb2.size; simp; omega) ?_); intro D2 cp2 w8 ho8 hg8 hat8; have HO8 := Lib.hid ho8; have HG8 := Lib.hid hg8; clear ho8 hg8 hat8)
            exact ⟨⟨m + 1, q + 1, cp2, D2, by omega, by omega, by go_num, rfl, by rw [HK.out]; exact HO8.out, bel_app (bel_alloc hb3 _) HG8.out (fun g' hg1 => by have := HOB.out g' hg1; omega),
              (((HB.out.below hb1).below hbq).below hb2).alloc _ |>.grown HG8.out (fun e => by have := HOB.out _ e.symm; omega)⟩, by simp [intOf]; omega⟩
          · have HK := Lib.hid (SKIP.out (by rw [hk]; simpa using htm))
            have e1 : ((t : Int) == (mv : Int)) = false := by rw [beq_eq_false_iff_ne]; omega
            clear KEEP SKIP hk htm
            go_wp2_with fail
            refine (IsRegion_s _ _ _ _ rows _ HRW.out HL.out).mono ?_
            rw [HT.out]
            rintro e w1 ⟨rfl, hb1⟩
            have hB1 := HB.out.below hb1
            have f0 : w1.cell? ⟨w.heap.size, 0, none⟩ = some (.int .i64 (n : Int)) := by simpa using hB1.cell 0
            have f1 : w1.cell? ⟨w.heap.size, 1, none⟩ = some (.slice A h c) := by simpa using hB1.cell 1
            have hgw1 := hB1.lt
            clear d0 d1 hB1
            go_wp2_with fail
            (refine wp_region_below (by kernel_rfl) (by kernel_rfl) ?_; (repeat (first | go_big_quiet_skip | (refine quietV (v := ?_) (by rfl) rfl (fun w' hbw => ?_) ?_; rotate_left; ((try dsimp only at hbw); have hbc := (bcell hbw).1; have hbf := (bcell hbw).2; go_simp; first | done | with_reducible rfl | first | exact callsBI (MaskOf_s _ _ _ _ rows _ ((HRW.out.below hb1).below hbw) HL.out) HMI.out hbw | exact callsB (v := .tuple #[.int .i64 (t : Int), .bool true]) (by rw [← HTT.out]; exact l23Turn_s n A h c rows mv m _ ((HRW.out.below hb1).below hbw) HL.out ⟨hn1, hn6⟩ ⟨hh1, hh6⟩ hlt HG.out HM62.out) hbw); simp only [List.setIfInBounds_toArray, List.set_cons_zero, List.set_cons_succ]))); refine wpQuiet_nil ?_; intro wq hbq)
            have hBq := (HB.out.below hb1).below hbq
            have k0 : wq.cell? ⟨w.heap.size, 0, none⟩ = some (.int .i64 (n : Int)) := by simpa using hBq.cell 0
            have k1 : wq.cell? ⟨w.heap.size, 1, none⟩ = some (.slice A h c) := by simpa using hBq.cell 1
            have hgwq := hBq.lt
            clear f0 f1 hBq
            go_wp2_with fail
            refine (MaskOf_s _ _ _ _ rows _ ((HRW.out.below hb1).below hbq) HL.out).mono ?_
            rw [HME.out]
            rintro e w2 ⟨rfl, hb2⟩
            have hb3 : Below w.heap.size w w2 := (by (repeat (first | with_reducible exact Below.refl _ _ | with_reducible assumption | with_reducible apply bel_alloc | with_reducible apply bel_drew | with_reducible apply bel_drewN | ((with_reducible refine bel_set ?_ ?_); rotate_left; (simp <;> omega)) | (with_reducible refine bel_trans ?_ (by with_reducible assumption)))))
            clear k0 k1
            go_wp2_with fail
            exact ⟨⟨m + 1, q, cq, B, by omega, by omega, by go_num, rfl, by rw [HK.out]; exact own_keep (own_keep (own_keep HO.out hb1) hbq) hb2, hb3, ((HB.out.below hb1).below hbq).below hb2⟩, by simp [intOf]; omega⟩
        | false =>
          have HG := Lib.hid hg
          have hk : keepM n h mv m = false := by unfold keepM; rw [hg]; rfl
          have HK := Lib.hid (SKIP.out hk)
          clear KEEP SKIP hk hg
          go_wp2_with fail
          refine (IsRegion_s _ _ _ _ rows _ HRW.out HL.out).mono ?_
          rw [HT.out]
          rintro e w1 ⟨rfl, hb1⟩
          have hB1 := HB.out.below hb1
          have f0 : w1.cell? ⟨w.heap.size, 0, none⟩ = some (.int .i64 (n : Int)) := by simpa using hB1.cell 0
          have f1 : w1.cell? ⟨w.heap.size, 1, none⟩ = some (.slice A h c) := by simpa using hB1.cell 1
          have hgw1 := hB1.lt
          clear d0 d1 hB1
          go_wp2_with fail
          (refine wp_region_below (by kernel_rfl) (by kernel_rfl) ?_; (repeat (first | go_big_quiet_skip | (refine quietV (v := ?_) (by rfl) rfl (fun w' hbw => ?_) ?_; rotate_left; ((try dsimp only at hbw); have hbc := (bcell hbw).1; have hbf := (bcell hbw).2; go_simp; first | done | with_reducible rfl | first | exact callsBI (MaskOf_s _ _ _ _ rows _ ((HRW.out.below hb1).below hbw) HL.out) HMI.out hbw | exact callsB (v := .tuple #[.int .i64 0, .bool false]) (l23Turn_no n _ h _ mv m _ ⟨hn1, hn6⟩ ⟨hh1, hh6⟩ hlt HG.out) hbw); simp only [List.setIfInBounds_toArray, List.set_cons_zero, List.set_cons_succ]))); refine wpQuiet_nil ?_; intro wq hbq)
          go_wp2_with fail
          exact ⟨⟨m + 1, q, cq, B, by omega, by omega, by go_num, rfl, by rw [HK.out]; exact own_keep (own_keep HO.out hb1) hbq, (by (repeat (first | with_reducible exact Below.refl _ _ | with_reducible assumption | with_reducible apply bel_alloc | with_reducible apply bel_drew | with_reducible apply bel_drewN | ((with_reducible refine bel_set ?_ ?_); rotate_left; (simp <;> omega)) | (with_reducible refine bel_trans ?_ (by with_reducible assumption))))), (HB.out.below hb1).below hbq⟩, by simp [intOf]; omega⟩
      · have hm8 : m = 8 := by omega
        have hm1 : ¬ (m : Int) < 8 := by omega
        have HO2 : Hid (wr.ownsRow (w.heap.size + 1) 3 1 (.slice B q cq) q (vI (motV n rows))) := by show wr.ownsRow _ _ _ _ _ _; rw [HV.out, HME.out, ← hm8]; exact HO.out
        clear hm8
        go_wp2
        go_ret
        exact ⟨_, _, _, rfl, own_mono3 HO2.out (Nat.le_succ _), hb⟩
end Go.Proofs.YtoedmmhiinhljaaGreatDoor

/- Masks within masks: bits of natural numbers. No program is in sight. -/
namespace Go.Proofs.YtoedmmhiinhljaaGreatDoor
open Go.RowKit
set_option linter.unusedVariables false
/-- All bits of a are bits of b. -/
def inM (a b : Nat) : Bool := a &&& b == a
theorem and_sub (a b : Nat) (hb : b < 2 ^ 64) (ha : a < 2 ^ 64) : a &&& (2 ^ 64 - 1 - b) = a - (a &&& b) := by
  have h1 : (BitVec.ofNat 64 a &&& BitVec.ofNat 64 b) &&& (BitVec.ofNat 64 a &&& ~~~BitVec.ofNat 64 b) = 0#64 := by
    ext i hi
    simp only [BitVec.getElem_and, BitVec.getElem_not, BitVec.getElem_zero]
    cases (BitVec.ofNat 64 a)[i] <;> cases (BitVec.ofNat 64 b)[i] <;> rfl
  have h2 := BitVec.add_eq_or_of_and_eq_zero _ _ h1
  have h3 : (BitVec.ofNat 64 a &&& BitVec.ofNat 64 b) ||| (BitVec.ofNat 64 a &&& ~~~BitVec.ofNat 64 b) = BitVec.ofNat 64 a := by
    ext i hi
    simp only [BitVec.getElem_or, BitVec.getElem_and, BitVec.getElem_not]
    cases (BitVec.ofNat 64 a)[i] <;> cases (BitVec.ofNat 64 b)[i] <;> rfl
  rw [h3] at h2
  have h4 := congrArg BitVec.toNat h2
  have ea : (BitVec.ofNat 64 a).toNat = a := by rw [BitVec.toNat_ofNat]; exact Nat.mod_eq_of_lt ha
  have eb : (BitVec.ofNat 64 b).toNat = b := by rw [BitVec.toNat_ofNat]; exact Nat.mod_eq_of_lt hb
  rw [BitVec.toNat_add, BitVec.toNat_and, BitVec.toNat_and, BitVec.toNat_not, ea, eb] at h4
  have hl : a &&& b ≤ a := Nat.and_le_left
  have hl2 : a &&& (2 ^ 64 - 1 - b) ≤ a := Nat.and_le_left
  -- no carry: both are below 2 ^ 64, and the sum is a
  have h5 : (a &&& b) + (a &&& (2 ^ 64 - 1 - b)) < 2 ^ 64 ∨ (a &&& b) + (a &&& (2 ^ 64 - 1 - b)) = a + 2 ^ 64 := by
    by_cases hlt : (a &&& b) + (a &&& (2 ^ 64 - 1 - b)) < 2 ^ 64
    · exact .inl hlt
    · right; omega
  rcases h5 with h5 | h5
  · rw [Nat.mod_eq_of_lt h5] at h4; omega
  · omega
theorem i64_andNot (a b : Nat) (ha : a < 2 ^ 63) (hb : b < 2 ^ 63) : bits .andNot .i64 (a : Int) (b : Int) = ((a - (a &&& b) : Nat) : Int) := by
  have ea : (BitVec.ofInt 64 (a : Int)).toNat = a := by rw [BitVec.ofInt_natCast, BitVec.toNat_ofNat]; exact Nat.mod_eq_of_lt (by omega)
  have eb : (BitVec.ofInt 64 (b : Int)).toNat = b := by rw [BitVec.ofInt_natCast, BitVec.toNat_ofNat]; exact Nat.mod_eq_of_lt (by omega)
  show IntKind.i64.wrap ((BitVec.ofInt 64 (a : Int) &&& ~~~BitVec.ofInt 64 (b : Int)).toNat : Int) = _
  rw [BitVec.toNat_and, BitVec.toNat_not, ea, eb, and_sub a b (by omega) (by omega)]
  exact wraps_i64 _ (by omega) (by have : a - (a &&& b) ≤ a := Nat.sub_le _ _; omega)
theorem sub_zero_iff (a b : Nat) : (a - (a &&& b) = 0) ↔ inM a b = true := by
  have hl : a &&& b ≤ a := Nat.and_le_left
  unfold inM
  rw [beq_iff_eq]
  omega
theorem inM_lt {a b : Nat} {k : Nat} (h : inM a b = true) (hb : b < 2 ^ k) : a < 2 ^ k := by
  unfold inM at h
  rw [beq_iff_eq] at h
  rw [← h]
  exact Nat.and_lt_two_pow _ hb
end Go.Proofs.YtoedmmhiinhljaaGreatDoor

/- A mask turned: both sides. -/
namespace Go.Proofs.YtoedmmhiinhljaaGreatDoor
open Go.RowKit
set_option linter.unusedVariables false
attribute [local go_sem ↓] Go.wp_at_zero Go.wp_at_succ

def okMask (W : Int) (rows : List Int) (x : Int) : Bool := decide (0 ≤ x) && inM x.toNat (maskV W rows)
theorem maskV_62 {W : Int} {rows : List Int} (h : isReg W rows = true) : maskV W rows < 2 ^ 36 := by
  obtain ⟨n, rfl, hn1, hn6, hh1, hh6, _⟩ := isReg_yes h
  have h36 : n * rows.length ≤ 6 * 6 := Nat.mul_le_mul hn6 hh6
  exact Nat.lt_of_lt_of_le (maskV_lt h) (Nat.pow_le_pow_right (by omega) (by omega))
theorem maskV_lt2 {W : Int} {rows : List Int} (h : isReg W rows = true) : maskV W rows < 2 ^ (W.toNat * rows.length) := by
  obtain ⟨n, rfl, _⟩ := isReg_yes h
  exact maskV_lt h
def tmOk (W : Int) (rows : List Int) (x m : Int) : Bool := (motV W rows).any (· == m) && okMask W rows x
def tmV (W : Int) (rows : List Int) (x m : Int) : Int := if tmOk W rows x m then (turnTo W.toNat rows.length m.toNat x.toNat (W.toNat * rows.length) : Nat) else 0
theorem motTo_mem {n h mv : Nat} : ∀ {k : Nat} {x : Int}, x ∈ motTo n h mv k → ∃ m : Nat, m < k ∧ x = (m : Int) ∧ goesM n h m = true
  | 0, x, hx => by simp [motTo] at hx
  | k + 1, x, hx => by
    unfold motTo at hx
    rcases List.mem_append.1 hx with h1 | h1
    · obtain ⟨m, a, b, c⟩ := motTo_mem h1
      exact ⟨m, by omega, b, c⟩
    · split at h1
      · next hk =>
        simp only [List.mem_singleton] at h1
        unfold keepM at hk
        rw [Bool.and_eq_true] at hk
        exact ⟨k, by omega, h1, hk.1⟩
      · simp at h1
theorem motV_any {W : Int} {rows : List Int} {m : Int} (h : (motV W rows).any (· == m) = true) : isReg W rows = true ∧ ∃ k : Nat, k < 8 ∧ m = (k : Int) ∧ goesM W.toNat rows.length k = true := by
  unfold motV at h
  cases hv : isReg W rows with
  | false => rw [hv] at h; simp at h
  | true =>
    rw [hv, if_pos rfl, List.any_eq_true] at h
    obtain ⟨x, hx, he⟩ := h
    rw [beq_iff_eq] at he
    subst he
    exact ⟨rfl, motTo_mem hx⟩
theorem motV_len (W : Int) (rows : List Int) : (motV W rows).length ≤ 8 := by
  unfold motV
  split
  · exact motTo_len _ _ _ 8
  · simp
theorem isMask_i (W : Int) (A : Option Addr) (h c : Nat) (rows : List Int) (x : Int) (w : World) (hr : Rd w A (vI rows)) (hl : rows.length = h) (hv : isReg W rows = true) (hx : x < 9223372036854775808) :
    Calls Tryz.prog 65 #[.agg #[.int .i64 W, .slice A h c], .int .i64 x] w (Ret w (.bool (okMask W rows x))) := by
  have HL := Lib.hid hl
  have HT := Lib.hid hv
  have hm62 := maskV_62 hv
  clear hl hv
  by_cases h0 : 0 ≤ x
  · obtain ⟨k, rfl⟩ : ∃ k : Nat, x = (k : Int) := ⟨x.toNat, by omega⟩
    obtain ⟨v, hve⟩ : ∃ v, maskV W rows = v := ⟨_, rfl⟩
    have hV : okMask W rows (k : Int) = inM k v := by unfold okMask; rw [hve, decide_eq_true h0]; rfl
    rw [hve] at hm62
    have hand := i64_andNot k v (by omega) (by omega)
    obtain ⟨t, ht⟩ : ∃ t, k - (k &&& v) = t := ⟨_, rfl⟩
    rw [ht] at hand
    have hti := sub_zero_iff k v
    rw [ht] at hti
    have hge : (k : Int) ≥ 0 := h0
    have HVE := Lib.hid hve
    cases hi : inM k v with
    | true =>
      rw [hi] at hV hti
      have HV := Lib.hid hV
      have ht0 : ((t : Int) == 0) = true := by have := hti.2 rfl; simp [this]
      clear hV hti ht hi hm62 hve
      go_enter Tryz.func65, Tryz.ntmps65
      go_wp2_with fail
      refine (mask_i _ _ _ _ rows _ (hr.alloc _) HL.out HT.out).mono ?_
      rw [HVE.out]
      rintro e w1 ⟨rfl, hb1⟩
      go_wp2_with fail
      go_ret
      exact ⟨by rw [HV.out]; rfl, (by (repeat (first | with_reducible exact Below.refl _ _ | with_reducible assumption | with_reducible apply bel_alloc | with_reducible apply bel_drew | with_reducible apply bel_drewN | ((with_reducible refine bel_set ?_ ?_); rotate_left; (simp <;> omega)) | (with_reducible refine bel_trans ?_ (by with_reducible assumption)))))⟩
    | false =>
      rw [hi] at hV hti
      have HV := Lib.hid hV
      have ht0 : ((t : Int) == 0) = false := by rw [beq_eq_false_iff_ne]; intro h; exact absurd (hti.1 (by omega)) (by decide)
      clear hV hti ht hi hm62 hve
      go_enter Tryz.func65, Tryz.ntmps65
      go_wp2_with fail
      refine (mask_i _ _ _ _ rows _ (hr.alloc _) HL.out HT.out).mono ?_
      rw [HVE.out]
      rintro e w1 ⟨rfl, hb1⟩
      go_wp2_with fail
      go_ret
      exact ⟨by rw [HV.out]; rfl, (by (repeat (first | with_reducible exact Below.refl _ _ | with_reducible assumption | with_reducible apply bel_alloc | with_reducible apply bel_drew | with_reducible apply bel_drewN | ((with_reducible refine bel_set ?_ ?_); rotate_left; (simp <;> omega)) | (with_reducible refine bel_trans ?_ (by with_reducible assumption)))))⟩
  · have HV : Hid (okMask W rows x = false) := by show okMask W rows x = false; unfold okMask; rw [decide_eq_false h0]; rfl
    have hge : decide (x ≥ 0) = false := by simpa using h0
    go_enter Tryz.func65, Tryz.ntmps65
    go_wp2_with fail
    go_ret
    exact ⟨by rw [HV.out]; rfl, (by (repeat (first | with_reducible exact Below.refl _ _ | with_reducible assumption | with_reducible apply bel_alloc | with_reducible apply bel_drew | with_reducible apply bel_drewN | ((with_reducible refine bel_set ?_ ?_); rotate_left; (simp <;> omega)) | (with_reducible refine bel_trans ?_ (by with_reducible assumption)))))⟩
theorem TurnMask_s (W : Int) (A : Option Addr) (h c : Nat) (rows : List Int) (x m : Int) (w : World) (hr : Rd w A (vI rows)) (hl : rows.length = h) (hx : x < 9223372036854775808) :
    Calls Tryz.prog 41 #[.agg #[.int .i64 W, .slice A h c], .int .i64 x, .int .i64 m] w (Ret w (.tuple #[.int .i64 (tmV W rows x m), .bool (tmOk W rows x m)])) := by
  have HL := Lib.hid hl
  have hml := motV_len W rows
  cases ha : (motV W rows).any (· == m) with
  | false =>
    have HO : Hid (tmOk W rows x m = false) := by show tmOk W rows x m = false; unfold tmOk; rw [ha]; rfl
    have HV : Hid (tmV W rows x m = 0) := by show tmV W rows x m = 0; unfold tmV; rw [HO.out]; rfl
    have HA := Lib.hid ha
    clear ha hl
    go_enter Tryz.func41, Tryz.ntmps41
    go_wp2_with fail
    refine (RegionMotions_s _ _ _ _ rows _ (hr.alloc _) HL.out).mono ?_
    rintro e w1 ⟨B, q, cq, rfl, ho, hb1⟩
    have hq : (motV W rows).length = q := by have := own_len ho; rw [vI_length] at this; omega
    have HQ := Lib.hid hq
    have hq8 : q ≤ 1099511627776 := by omega
    clear hq hml
    go_wp2_with fail
    refine (l7Has_s _ _ _ _ m _ (Rd.of_own ho) HQ.out hq8).mono ?_
    rw [HA.out]
    rintro e w2 ⟨rfl, hb2⟩
    go_wp2_with fail
    go_ret2
    exact ⟨by rw [HV.out, HO.out]; rfl, (by (repeat (first | with_reducible exact Below.refl _ _ | with_reducible assumption | with_reducible apply bel_alloc | with_reducible apply bel_drew | with_reducible apply bel_drewN | ((with_reducible refine bel_set ?_ ?_); rotate_left; (simp <;> omega)) | (with_reducible refine bel_trans ?_ (by with_reducible assumption)))))⟩
  | true =>
    obtain ⟨hv, k, hk8, rfl, hg⟩ := motV_any ha
    have HT := Lib.hid hv
    have HA := Lib.hid ha
    have HB0 := Lib.hid (Blk.new w 29 #[.int .i64 W, .slice A h c])
    by_cases h0 : 0 ≤ x
    · obtain ⟨q0, rfl⟩ : ∃ q : Nat, x = (q : Int) := ⟨x.toNat, by omega⟩
      have hm62 := maskV_62 hv
      obtain ⟨v, hve⟩ : ∃ v, maskV W rows = v := ⟨_, rfl⟩
      rw [hve] at hm62
      have hand := i64_and q0 v (by omega) (by omega)
      obtain ⟨t, ht⟩ : ∃ t, q0 &&& v = t := ⟨_, rfl⟩
      rw [ht] at hand
      have hx0 : ¬ (q0 : Int) < 0 := by omega
      have hxd : decide ((q0 : Int) < 0) = false := by simp
      have HVE := Lib.hid hve
      cases hi : inM q0 v with
      | false =>
        have hi2 : okMask W rows (q0 : Int) = false := by unfold okMask; rw [hve, decide_eq_true h0]; exact hi
        have HO : Hid (tmOk W rows q0 k = false) := by show tmOk W rows q0 k = false; unfold tmOk; rw [ha, hi2]; rfl
        have HV : Hid (tmV W rows q0 k = 0) := by show tmV W rows q0 k = 0; unfold tmV; rw [HO.out]; rfl
        have htq : ((t : Int) != (q0 : Int)) = true := by
          unfold inM at hi
          rw [ht, beq_eq_false_iff_ne] at hi
          rw [bne_iff_ne]; omega
        clear ha hl hv hg hi hi2 ht hm62 hve
        go_enter Tryz.func41, Tryz.ntmps41
        go_wp2_with fail
        refine (RegionMotions_s _ _ _ _ rows _ (hr.alloc _) HL.out).mono ?_
        rintro e w1 ⟨B, q, cq, rfl, ho, hb1⟩
        have hq : (motV W rows).length = q := by have := own_len ho; rw [vI_length] at this; omega
        have HQ := Lib.hid hq
        have hq8 : q ≤ 1099511627776 := by omega
        clear hq
        go_wp2_with fail
        refine (l7Has_s _ _ _ _ k _ (Rd.of_own ho) HQ.out hq8).mono ?_
        rw [HA.out]
        rintro e w2 ⟨rfl, hb2⟩
        have hB2 := (HB0.out.below hb1).below hb2
        have f0 : w2.cell? ⟨w.heap.size, 0, none⟩ = some (.int .i64 W) := by simpa using hB2.cell 0
        have f1 : w2.cell? ⟨w.heap.size, 1, none⟩ = some (.slice A h c) := by simpa using hB2.cell 1
        have hgw2 := hB2.lt
        clear hB2
        go_wp2_with fail
        refine (MaskOf_s _ _ _ _ rows _ (((hr.alloc _).below hb1).below hb2) HL.out).mono ?_
        rw [HVE.out]
        rintro e w3 ⟨rfl, hb3⟩
        go_wp2_with fail
        go_ret2
        exact ⟨by rw [HV.out, HO.out]; rfl, (by (repeat (first | with_reducible exact Below.refl _ _ | with_reducible assumption | with_reducible apply bel_alloc | with_reducible apply bel_drew | with_reducible apply bel_drewN | ((with_reducible refine bel_set ?_ ?_); rotate_left; (simp <;> omega)) | (with_reducible refine bel_trans ?_ (by with_reducible assumption)))))⟩
      | true =>
        have hi2 : okMask W rows (q0 : Int) = true := by unfold okMask; rw [hve, decide_eq_true h0]; exact hi
        have HO : Hid (tmOk W rows q0 k = true) := by show tmOk W rows q0 k = true; unfold tmOk; rw [ha, hi2]; rfl
        have htq : ((t : Int) != (q0 : Int)) = false := by
          unfold inM at hi
          rw [ht, beq_iff_eq] at hi
          rw [hi]; simp
        have hlt : q0 < 2 ^ 62 := Nat.lt_trans (inM_lt hi hm62) (by decide)
        obtain ⟨n, rfl, hn1, hn6, hh1, hh6, _⟩ := isReg_yes hv
        rw [hl] at hh1 hh6 hg
        have HV : Hid (tmV n rows q0 k = (turnTo n h k q0 (n * h) : Nat)) := by show tmV n rows q0 k = _; unfold tmV; rw [HO.out, hl]; rfl
        have HG : Hid (goesM n h k = true) := hg
        have HLT := Lib.hid hlt
        clear ha hl hv hg hlt hi hi2 ht hm62 hve
        go_enter Tryz.func41, Tryz.ntmps41
        go_wp2_with fail
        refine (RegionMotions_s _ _ _ _ rows _ (hr.alloc _) HL.out).mono ?_
        rintro e w1 ⟨B, q, cq, rfl, ho, hb1⟩
        have hq : (motV (n : Int) rows).length = q := by have := own_len ho; rw [vI_length] at this; omega
        have HQ := Lib.hid hq
        have hq8 : q ≤ 1099511627776 := by omega
        clear hq
        go_wp2_with fail
        refine (l7Has_s _ _ _ _ k _ (Rd.of_own ho) HQ.out hq8).mono ?_
        rw [HA.out]
        rintro e w2 ⟨rfl, hb2⟩
        have hB2 := (HB0.out.below hb1).below hb2
        have f0 : w2.cell? ⟨w.heap.size, 0, none⟩ = some (.int .i64 (n : Int)) := by simpa using hB2.cell 0
        have f1 : w2.cell? ⟨w.heap.size, 1, none⟩ = some (.slice A h c) := by simpa using hB2.cell 1
        have hgw2 := hB2.lt
        clear hB2
        go_wp2_with fail
        refine (MaskOf_s _ _ _ _ rows _ (((hr.alloc _).below hb1).below hb2) HL.out).mono ?_
        rw [HVE.out]
        rintro e w3 ⟨rfl, hb3⟩
        have hB3 := ((HB0.out.below hb1).below hb2).below hb3
        have g0 : w3.cell? ⟨w.heap.size, 0, none⟩ = some (.int .i64 (n : Int)) := by simpa using hB3.cell 0
        have g1 : w3.cell? ⟨w.heap.size, 1, none⟩ = some (.slice A h c) := by simpa using hB3.cell 1
        have hgw3 := hB3.lt
        clear hB3 f0 f1
        go_wp2_with fail
        refine (l23Turn_s n A h c rows q0 k _ ((((hr.alloc _).below hb1).below hb2).below hb3) HL.out ⟨hn1, hn6⟩ ⟨hh1, hh6⟩ hk8 HG.out HLT.out).mono ?_
        rintro e w4 ⟨rfl, hb4⟩
        go_wp2_with fail
        go_ret2
        exact ⟨by rw [HV.out, HO.out]; rfl, (by (repeat (first | with_reducible exact Below.refl _ _ | with_reducible assumption | with_reducible apply bel_alloc | with_reducible apply bel_drew | with_reducible apply bel_drewN | ((with_reducible refine bel_set ?_ ?_); rotate_left; (simp <;> omega)) | (with_reducible refine bel_trans ?_ (by with_reducible assumption)))))⟩
    · have hi2 : okMask W rows x = false := by unfold okMask; rw [decide_eq_false h0]; rfl
      have HO : Hid (tmOk W rows x k = false) := by show tmOk W rows x k = false; unfold tmOk; rw [ha, hi2]; rfl
      have HV : Hid (tmV W rows x k = 0) := by show tmV W rows x k = 0; unfold tmV; rw [HO.out]; rfl
      have hxd : decide (x < 0) = true := by simp; omega
      clear ha hl hv hg hi2 h0
      go_enter Tryz.func41, Tryz.ntmps41
      go_wp2_with fail
      refine (RegionMotions_s _ _ _ _ rows _ (hr.alloc _) HL.out).mono ?_
      rintro e w1 ⟨B, q, cq, rfl, ho, hb1⟩
      have hq : (motV W rows).length = q := by have := own_len ho; rw [vI_length] at this; omega
      have HQ := Lib.hid hq
      have hq8 : q ≤ 1099511627776 := by omega
      clear hq
      go_wp2_with fail
      refine (l7Has_s _ _ _ _ k _ (Rd.of_own ho) HQ.out hq8).mono ?_
      rw [HA.out]
      rintro e w2 ⟨rfl, hb2⟩
      have hB2 := (HB0.out.below hb1).below hb2
      have f0 : w2.cell? ⟨w.heap.size, 0, none⟩ = some (.int .i64 W) := by simpa using hB2.cell 0
      have f1 : w2.cell? ⟨w.heap.size, 1, none⟩ = some (.slice A h c) := by simpa using hB2.cell 1
      have hgw2 := hB2.lt
      clear hB2
      go_wp2_with fail
      go_ret2
      exact ⟨by rw [HV.out, HO.out]; rfl, (by (repeat (first | with_reducible exact Below.refl _ _ | with_reducible assumption | with_reducible apply bel_alloc | with_reducible apply bel_drew | with_reducible apply bel_drewN | ((with_reducible refine bel_set ?_ ?_); rotate_left; (simp <;> omega)) | (with_reducible refine bel_trans ?_ (by with_reducible assumption)))))⟩
end Go.Proofs.YtoedmmhiinhljaaGreatDoor

/- Stable sorting by a key: segments, rotations, merges. No program is in sight. -/
namespace Go.Proofs.YtoedmmhiinhljaaGreatDoor
namespace StM
set_option linter.unusedVariables false
/-- The values from a on, n of them. -/
def sg (d : Nat → Int) (a : Nat) : Nat → List Int
  | 0 => []
  | n + 1 => d a :: sg d (a + 1) n
theorem sg_len (d : Nat → Int) : ∀ (n a : Nat), (sg d a n).length = n
  | 0, a => rfl
  | n + 1, a => by simp [sg, sg_len d n]
theorem sg_app (d : Nat → Int) : ∀ (n m a : Nat), sg d a (n + m) = sg d a n ++ sg d (a + n) m
  | 0, m, a => by simp [sg]
  | n + 1, m, a => by rw [Nat.succ_add]; simp only [sg, List.cons_append]; rw [sg_app d n m (a + 1), show a + 1 + n = a + (n + 1) by omega]
theorem sg_congr {d e : Nat → Int} : ∀ (n a b : Nat), (∀ k, k < n → d (a + k) = e (b + k)) → sg d a n = sg e b n
  | 0, a, b, h => rfl
  | n + 1, a, b, h => by
    simp only [sg]
    rw [show d a = e b from h 0 (by omega), sg_congr n (a + 1) (b + 1) fun k hk => by rw [show a + 1 + k = a + (k + 1) by omega, show b + 1 + k = b + (k + 1) by omega]; exact h _ (by omega)]
theorem sg_mem {d : Nat → Int} {x : Int} : ∀ {n a : Nat}, x ∈ sg d a n → ∃ k, a ≤ k ∧ k < a + n ∧ x = d k
  | 0, a, h => by simp [sg] at h
  | n + 1, a, h => by
    rcases List.mem_cons.1 h with h | h
    · exact ⟨a, Nat.le_refl _, by omega, h⟩
    · obtain ⟨k, h1, h2, h3⟩ := sg_mem h
      exact ⟨k, by omega, by omega, h3⟩
/-- [s, m) and [m, e) change places. -/
def rot (d : Nat → Int) (s m e : Nat) : Nat → Int := fun k => if k < s then d k else if k < s + (e - m) then d (m + (k - s)) else if k < e then d (k - (e - m)) else d k
variable (key : Int → Nat)
/-- Sorted by the key within [a, b). -/
def Srt (a b : Nat) (d : Nat → Int) : Prop := ∀ i j, a ≤ i → i < j → j < b → key (d i) ≤ key (d j)
/-- Within [a, b) the values of each key stay in their order; nothing else changes. -/
structure Stb (a b : Nat) (d d' : Nat → Int) : Prop where
  out : ∀ k, k < a ∨ b ≤ k → d' k = d k
  fil : ∀ q, (sg d' a (b - a)).filter (fun x => key x == q) = (sg d a (b - a)).filter (fun x => key x == q)
variable {key}
theorem Stb.refl (a b : Nat) (d : Nat → Int) : Stb key a b d d := ⟨fun _ _ => rfl, fun _ => rfl⟩
theorem Stb.trans {a b : Nat} {d e f : Nat → Int} (h : Stb key a b d e) (k : Stb key a b e f) : Stb key a b d f :=
  ⟨fun x hx => (k.out x hx).trans (h.out x hx), fun q => (k.fil q).trans (h.fil q)⟩
theorem Stb.mono {a b a' b' : Nat} {d e : Nat → Int} (h : Stb key a' b' d e) (h1 : a ≤ a') (h2 : a' ≤ b') (h3 : b' ≤ b) : Stb key a b d e := by
  refine ⟨fun x hx => h.out x (by omega), fun q => ?_⟩
  have key2 : ∀ f : Nat → Int, sg f a (b - a) = sg f a (a' - a) ++ (sg f a' (b' - a') ++ sg f b' (b - b')) := fun f => by
    have e1 := sg_app f (a' - a) (b - a') a
    have e2 := sg_app f (b' - a') (b - b') a'
    rw [show a' - a + (b - a') = b - a by omega, show a + (a' - a) = a' by omega] at e1
    rw [show b' - a' + (b - b') = b - a' by omega, show a' + (b' - a') = b' by omega] at e2
    rw [e1, e2]
  rw [key2, key2]
  simp only [List.filter_append]
  rw [h.fil q, sg_congr (d := e) (e := d) (a' - a) a a fun k hk => h.out _ (by omega), sg_congr (d := e) (e := d) (b - b') b' b' fun k hk => h.out _ (by omega)]
/-- A value of the new segment was one of the old. -/
theorem Stb.from_ {a b : Nat} {d e : Nat → Int} (h : Stb key a b d e) {k : Nat} (h1 : a ≤ k) (h2 : k < b) : ∃ i, a ≤ i ∧ i < b ∧ e k = d i := by
  have hm : ∀ (n a : Nat) (k : Nat), a ≤ k → k < a + n → e k ∈ sg e a n := by
    intro n
    induction n with
    | zero => intro a k h1 h2; omega
    | succ n ih =>
      intro a k h1 h2
      by_cases hk : k = a
      · subst hk; exact List.mem_cons_self ..
      · exact List.mem_cons_of_mem _ (ih (a + 1) k (by omega) (by omega))
  have h3 : e k ∈ (sg e a (b - a)).filter (fun x => key x == key (e k)) := List.mem_filter.2 ⟨hm _ _ _ h1 (by omega), by simp⟩
  rw [h.fil] at h3
  obtain ⟨i, h4, h5, h6⟩ := sg_mem (List.mem_filter.1 h3).1
  exact ⟨i, h4, by omega, h6⟩
theorem fil_swap {A B : List Int} (h : ∀ x ∈ A, ∀ y ∈ B, key x ≠ key y) (q : Nat) : (B ++ A).filter (fun x => key x == q) = (A ++ B).filter (fun x => key x == q) := by
  rw [List.filter_append, List.filter_append]
  by_cases hA : A.filter (fun x => key x == q) = []
  · rw [hA]; simp
  · have hB : B.filter (fun x => key x == q) = [] := by
      rw [List.filter_eq_nil_iff]
      intro y hy hyq
      obtain ⟨x, hx⟩ := List.exists_mem_of_ne_nil _ hA
      obtain ⟨hx1, hx2⟩ := List.mem_filter.1 hx
      exact h x hx1 y hy (by rw [beq_iff_eq] at hx2 hyq; rw [hx2, hyq])
    rw [hB]; simp
theorem rot_stb {d : Nat → Int} {s m e : Nat} (h1 : s ≤ m) (h2 : m ≤ e) (h : ∀ i j, s ≤ i → i < m → m ≤ j → j < e → key (d j) < key (d i)) : Stb key s e d (rot d s m e) := by
  refine ⟨fun k hk => ?_, fun q => ?_⟩
  · unfold rot
    by_cases h3 : k < s
    · rw [if_pos h3]
    · rw [if_neg h3, if_neg (by omega), if_neg (by omega)]
  · have e1 := sg_app (rot d s m e) (e - m) (m - s) s
    have e2 := sg_app d (m - s) (e - m) s
    rw [show e - m + (m - s) = e - s by omega] at e1
    rw [show m - s + (e - m) = e - s by omega, show s + (m - s) = m by omega] at e2
    have e3 : sg (rot d s m e) s (e - m) = sg d m (e - m) := sg_congr _ _ _ fun k hk => by
      unfold rot
      rw [if_neg (by omega), if_pos (by omega), show s + k - s = k by omega]
    have e4 : sg (rot d s m e) (s + (e - m)) (m - s) = sg d s (m - s) := sg_congr _ _ _ fun k hk => by
      unfold rot
      rw [if_neg (by omega), if_neg (by omega), if_pos (by omega), show s + (e - m) + k - (e - m) = s + k by omega]
    rw [e1, e2, e3, e4]
    refine fil_swap (fun x hx y hy => ?_) q
    obtain ⟨i, hi1, hi2, rfl⟩ := sg_mem hx
    obtain ⟨j, hj1, hj2, rfl⟩ := sg_mem hy
    have := h i j hi1 (by omega) hj1 (by omega)
    omega
/-- Sorted lists with the same values of each key, in order, are equal. -/
theorem stab_unique : ∀ {L M : List Int}, L.Pairwise (fun x y => key x ≤ key y) → M.Pairwise (fun x y => key x ≤ key y) → (∀ q, L.filter (fun x => key x == q) = M.filter (fun x => key x == q)) → L = M
  | [], [], _, _, _ => rfl
  | [], y :: M, _, _, h => by have := h (key y); simp at this
  | x :: L, [], _, _, h => by have := h (key x); simp at this
  | x :: L, y :: M, hL, hM, h => by
    have hL' := List.pairwise_cons.1 hL
    have hM' := List.pairwise_cons.1 hM
    have k1 : key y ≤ key x := by
      have h1 : x ∈ (y :: M).filter (fun z => key z == key x) := by rw [← h]; simp
      rcases List.mem_cons.1 (List.mem_filter.1 h1).1 with e | e
      · rw [e]; exact Nat.le_refl _
      · exact hM'.1 _ e
    have k2 : key x ≤ key y := by
      have h1 : y ∈ (x :: L).filter (fun z => key z == key y) := by rw [h]; simp
      rcases List.mem_cons.1 (List.mem_filter.1 h1).1 with e | e
      · rw [e]; exact Nat.le_refl _
      · exact hL'.1 _ e
    have hk : key x = key y := Nat.le_antisymm k2 k1
    have hxy : x = y := by
      have h1 := h (key x)
      rw [List.filter_cons_of_pos (by simp), List.filter_cons_of_pos (by simp [hk])] at h1
      exact (List.cons.inj h1).1
    subst hxy
    congr 1
    refine stab_unique hL'.2 hM'.2 fun q => ?_
    have h1 := h q
    simp only [List.filter_cons] at h1
    split at h1
    · exact (List.cons.inj h1).2
    · exact h1

/-- Two segments of n values change places. -/
def sw (d : Nat → Int) (a b n : Nat) : Nat → Int := fun k => if a ≤ k ∧ k < a + n then d (b + (k - a)) else if b ≤ k ∧ k < b + n then d (a + (k - b)) else d k
theorem rot_idl (d : Nat → Int) (m e : Nat) (h : m ≤ e) : rot d m m e = d := by
  funext k
  unfold rot
  split
  · rfl
  · split
    · congr 1; omega
    · split
      · omega
      · rfl
theorem rot_idr (d : Nat → Int) (s m : Nat) (h : s ≤ m) : rot d s m m = d := by
  funext k
  unfold rot
  split
  · rfl
  · split
    · omega
    · split
      · congr 1; omega
      · rfl
theorem rot_gt (d : Nat → Int) (m i j : Nat) (h : j < i) (hi : i ≤ m) : rot (sw d (m - i) m j) (m - (i - j)) m (m + j) = rot d (m - i) m (m + j) := by
  funext k
  unfold rot sw
  repeat' split
  all_goals first
    | omega
    | (congr 1; omega)
theorem rot_lt (d : Nat → Int) (m i j : Nat) (h : i < j) (hi : i ≤ m) : rot (sw d (m - i) (m + j - i) i) (m - i) m (m + (j - i)) = rot d (m - i) m (m + j) := by
  funext k
  unfold rot sw
  repeat' split
  all_goals first
    | omega
    | (congr 1; omega)
theorem rot_eq (d : Nat → Int) (m i : Nat) (hi : i ≤ m) : sw d (m - i) m i = rot d (m - i) m (m + i) := by
  funext k
  unfold rot sw
  repeat' split
  all_goals first
    | omega
    | (congr 1; omega)
/-- One pair more of two segments. -/
theorem sw_succ (d : Nat → Int) (a b n : Nat) (h : a + (n + 1) ≤ b) : (fun k => if k = a + n then sw d a b n (b + n) else if k = b + n then sw d a b n (a + n) else sw d a b n k) = sw d a b (n + 1) := by
  funext k
  unfold sw
  repeat' split
  all_goals first
    | omega
    | (congr 1; omega)
theorem merge1 {d : Nat → Int} {a m b i : Nat} (hm : m = a + 1) (h1 : m ≤ i) (h2 : i ≤ b) (hs : Srt key m b d) (hl : ∀ k, m ≤ k → k < i → key (d k) < key (d a)) (hr : ∀ k, i ≤ k → k < b → key (d a) ≤ key (d k)) :
    Stb key a b d (rot d a m i) ∧ Srt key a b (rot d a m i) := by
  refine ⟨(rot_stb (by omega) h1 fun x y hx1 hx2 hy1 hy2 => ?_).mono (Nat.le_refl _) (by omega) h2, fun x y hx hxy hy => ?_⟩
  · obtain rfl : x = a := by omega
    exact hl y hy1 hy2
  · unfold rot
    rw [if_neg (by omega), if_neg (by omega : ¬ y < a)]
    by_cases c1 : x < a + (i - m)
    · rw [if_pos c1]
      by_cases c2 : y < a + (i - m)
      · rw [if_pos c2]; exact hs _ _ (by omega) (by omega) (by omega)
      · rw [if_neg c2]
        by_cases c3 : y < i
        · rw [if_pos c3, show y - (i - m) = a by omega]
          exact Nat.le_of_lt (hl _ (by omega) (by omega))
        · rw [if_neg c3]; exact hs _ _ (by omega) (by omega) (by omega)
    · rw [if_neg c1, if_neg (by omega : ¬ y < a + (i - m)), if_neg (by omega : ¬ y < i)]
      by_cases c3 : x < i
      · rw [if_pos c3, show x - (i - m) = a by omega]; exact hr _ (by omega) hy
      · rw [if_neg c3]; exact hs _ _ (by omega) (by omega) (by omega)
theorem merge2 {d : Nat → Int} {a m b i : Nat} (hm : b = m + 1) (h1 : a ≤ i) (h2 : i ≤ m) (hs : Srt key a m d) (hl : ∀ k, a ≤ k → k < i → key (d k) ≤ key (d m)) (hr : ∀ k, i ≤ k → k < m → key (d m) < key (d k)) :
    Stb key a b d (rot d i m b) ∧ Srt key a b (rot d i m b) := by
  refine ⟨(rot_stb h2 (by omega) fun x y hx1 hx2 hy1 hy2 => ?_).mono h1 (by omega) (Nat.le_refl _), fun x y hx hxy hy => ?_⟩
  · obtain rfl : y = m := by omega
    exact hr x hx1 hx2
  · unfold rot
    by_cases c1 : x < i
    · rw [if_pos c1]
      by_cases c2 : y < i
      · rw [if_pos c2]; exact hs _ _ (by omega) (by omega) (by omega)
      · rw [if_neg c2]
        by_cases c3 : y < i + (b - m)
        · rw [if_pos c3, show m + (y - i) = m by omega]; exact hl _ (by omega) c1
        · rw [if_neg c3, if_pos hy]; exact hs _ _ (by omega) (by omega) (by omega)
    · rw [if_neg c1, if_neg (by omega : ¬ y < i)]
      rw [if_neg (by omega : ¬ y < i + (b - m)), if_pos hy]
      by_cases c3 : x < i + (b - m)
      · rw [if_pos c3, show m + (x - i) = m by omega]; exact Nat.le_of_lt (hr _ (by omega) (by omega))
      · rw [if_neg c3, if_pos (by omega)]; exact hs _ _ (by omega) (by omega) (by omega)
/-- After the rotation in the middle. -/
theorem half {d : Nat → Int} {a m b s e q : Nat} (h1 : a ≤ s) (h2 : s ≤ m) (h3 : m ≤ e) (h4 : e ≤ b) (hq : q = s + (e - m)) (h5 : Srt key a m d) (h6 : Srt key m b d)
    (lo : ∀ i j, a ≤ i → i < s → e ≤ j → j < b → key (d i) ≤ key (d j)) (hi : ∀ i j, s ≤ i → i < m → m ≤ j → j < e → key (d j) < key (d i)) :
    Stb key a b d (rot d s m e) ∧ Srt key a s (rot d s m e) ∧ Srt key s q (rot d s m e) ∧ Srt key q e (rot d s m e) ∧ Srt key e b (rot d s m e) ∧ (∀ x y, a ≤ x → x < q → q ≤ y → y < b → key (rot d s m e x) ≤ key (rot d s m e y)) := by
  subst hq
  have p1 : ∀ k, k < s → rot d s m e k = d k := fun k hk => by unfold rot; rw [if_pos hk]
  have p2 : ∀ k, s ≤ k → k < s + (e - m) → rot d s m e k = d (m + (k - s)) := fun k hk hk2 => by unfold rot; rw [if_neg (by omega), if_pos hk2]
  have p3 : ∀ k, s + (e - m) ≤ k → k < e → rot d s m e k = d (k - (e - m)) := fun k hk hk2 => by unfold rot; rw [if_neg (by omega), if_neg (by omega), if_pos hk2]
  have p4 : ∀ k, e ≤ k → rot d s m e k = d k := fun k hk => by unfold rot; rw [if_neg (by omega), if_neg (by omega), if_neg (by omega)]
  refine ⟨(rot_stb h2 h3 hi).mono h1 (by omega) h4, fun x y hx hxy hy => ?_, fun x y hx hxy hy => ?_, fun x y hx hxy hy => ?_, fun x y hx hxy hy => ?_, fun x y hx hx2 hy hy2 => ?_⟩
  · rw [p1 _ (by omega), p1 _ hy]; exact h5 _ _ hx hxy (by omega)
  · rw [p2 _ hx (by omega), p2 _ (by omega) hy]; exact h6 _ _ (by omega) (by omega) (by omega)
  · rw [p3 _ hx (by omega), p3 _ (by omega) hy]; exact h5 _ _ (by omega) (by omega) (by omega)
  · rw [p4 _ hx, p4 _ (by omega)]; exact h6 _ _ (by omega) hxy hy
  · by_cases c1 : x < s
    · rw [p1 _ c1]
      by_cases c2 : y < e
      · rw [p3 _ hy c2]
        exact h5 _ _ hx (by omega) (by omega)
      · rw [p4 _ (by omega)]; exact lo _ _ hx c1 (by omega) hy2
    · rw [p2 _ (by omega) hx2]
      by_cases c2 : y < e
      · rw [p3 _ hy c2]; exact Nat.le_of_lt (hi _ _ (by omega) (by omega) (by omega) (by omega))
      · rw [p4 _ (by omega)]; exact h6 _ _ (by omega) (by omega) hy2
/-- Both halves merged: all is merged. -/
theorem join {d e f : Nat → Int} {a q b : Nat} (h1 : a ≤ q) (h2 : q ≤ b) (hx : ∀ x y, a ≤ x → x < q → q ≤ y → y < b → key (d x) ≤ key (d y))
    (s1 : Stb key a q d e) (t1 : Srt key a q e) (s2 : Stb key q b e f) (t2 : Srt key q b f) : Stb key a b d f ∧ Srt key a b f := by
  refine ⟨(s1.mono (Nat.le_refl _) h1 h2).trans (s2.mono h1 h2 (Nat.le_refl _)), fun x y hx1 hxy hy => ?_⟩
  by_cases c1 : y < q
  · rw [s2.out _ (.inl (by omega)), s2.out _ (.inl c1)]; exact t1 _ _ hx1 hxy c1
  · by_cases c2 : x < q
    · rw [s2.out _ (.inl c2)]
      obtain ⟨i, i1, i2, i3⟩ := s1.from_ (k := x) hx1 c2
      obtain ⟨j, j1, j2, j3⟩ := s2.from_ (k := y) (by omega) hy
      rw [i3, j3, s1.out _ (.inr j1)]
      exact hx _ _ i1 i2 j1 j2
    · exact t2 _ _ (by omega) hxy hy
/-- What the search by halves finds, one way or the other. -/
theorem start_lo {d : Nat → Int} {a m b mid s r0 s0 : Nat} (hab : a < m) (hmb : m < b) (hmid : mid = (a + b) / 2) (hs0 : (mid < m ∧ s0 = mid + m - b ∧ r0 = mid) ∨ (m ≤ mid ∧ s0 = a ∧ r0 = m)) (h1 : s0 ≤ s) (h2 : s ≤ r0)
    (h5 : Srt key a m d) (h6 : Srt key m b d) (hlo : ∀ c, s0 ≤ c → c < s → key (d c) ≤ key (d (mid + m - 1 - c))) (hhi : ∀ c, s ≤ c → c < r0 → key (d (mid + m - 1 - c)) < key (d c)) :
    a ≤ s ∧ s ≤ m ∧ m ≤ mid + m - s ∧ mid + m - s ≤ b ∧ mid = s + (mid + m - s - m) ∧ (∀ i j, a ≤ i → i < s → mid + m - s ≤ j → j < b → key (d i) ≤ key (d j)) ∧ (∀ i j, s ≤ i → i < m → m ≤ j → j < mid + m - s → key (d j) < key (d i)) := by
  refine ⟨by omega, by omega, by omega, by omega, by omega, fun i j hi1 hi2 hj1 hj2 => ?_, fun i j hi1 hi2 hj1 hj2 => ?_⟩
  · by_cases c : s0 < s
    · have k1 := hlo (s - 1) (by omega) (by omega)
      have k2 : key (d i) ≤ key (d (s - 1)) := by
        by_cases e : i = s - 1
        · rw [e]; exact Nat.le_refl _
        · exact h5 _ _ hi1 (by omega) (by omega)
      have k3 : key (d (mid + m - 1 - (s - 1))) ≤ key (d j) := by
        by_cases e : mid + m - 1 - (s - 1) = j
        · rw [e]; exact Nat.le_refl _
        · exact h6 _ _ (by omega) (by omega) hj2
      omega
    · omega
  · by_cases c : s < r0
    · have k1 := hhi s (Nat.le_refl _) c
      have k2 : key (d s) ≤ key (d i) := by
        by_cases e : s = i
        · rw [e]; exact Nat.le_refl _
        · exact h5 _ _ (by omega) (by omega) hi2
      have k3 : key (d j) ≤ key (d (mid + m - 1 - s)) := by
        by_cases e : j = mid + m - 1 - s
        · rw [e]; exact Nat.le_refl _
        · exact h6 _ _ hj1 (by omega) (by omega)
      omega
    · omega

/-- Where a value goes in: behind the last one whose key is no greater. -/
def pos (key : Int → Nat) (x : Int) (out : List Int) : Nat → Nat
  | 0 => 0
  | k + 1 => if key x < key (out.getD k 0) then pos key x out k else k + 1
theorem pos_le (x : Int) (out : List Int) : ∀ k, pos key x out k ≤ k
  | 0 => Nat.le_refl _
  | k + 1 => by
    unfold pos
    split
    · exact Nat.le_succ_of_le (pos_le x out k)
    · exact Nat.le_refl _
theorem pos_hi (x : Int) (out : List Int) : ∀ k j, pos key x out k ≤ j → j < k → key x < key (out.getD j 0)
  | 0, j, _, h => by omega
  | k + 1, j, h1, h2 => by
    unfold pos at h1
    split at h1
    · next h =>
      by_cases e : j = k
      · rw [e]; exact h
      · exact pos_hi x out k j h1 (by omega)
    · omega
theorem pos_lo (x : Int) (out : List Int) : ∀ k, 0 < pos key x out k → key (out.getD (pos key x out k - 1) 0) ≤ key x
  | 0, h => by simp [pos] at h
  | k + 1, h => by
    unfold pos at h ⊢
    split
    · next h2 => rw [if_pos h2] at h; exact pos_lo x out k h
    · next h2 => simpa using h2
def insS (key : Int → Nat) (out : List Int) (x : Int) : List Int := out.take (pos key x out out.length) ++ x :: out.drop (pos key x out out.length)
def stS (key : Int → Nat) (L : List Int) : List Int := L.foldl (insS key) []
theorem insS_fil (out : List Int) (x : Int) (q : Nat) : (insS key out x).filter (fun z => key z == q) = (out ++ [x]).filter (fun z => key z == q) := by
  obtain ⟨k, hk⟩ : ∃ k, pos key x out out.length = k := ⟨_, rfl⟩
  have hd : ∀ y ∈ out.drop k, ∀ z ∈ [x], key y ≠ key z := fun y hy z hz => by
    obtain ⟨j, hj, rfl⟩ := List.mem_iff_getElem.1 hy
    rw [List.getElem_drop]
    rw [List.length_drop] at hj
    have := pos_hi (key := key) x out out.length (k + j) (by omega) (by omega)
    rw [List.getD_eq_getElem?_getD, List.getElem?_eq_getElem (by omega), Option.getD_some] at this
    simp only [List.mem_singleton] at hz
    subst hz
    omega
  have h2 := fil_swap (key := key) hd q
  unfold insS
  rw [hk, show x :: out.drop k = [x] ++ out.drop k from rfl, List.filter_append, h2, ← List.filter_append, ← List.append_assoc, List.take_append_drop]
theorem insS_srt {out : List Int} {x : Int} (h : out.Pairwise fun a b => key a ≤ key b) : (insS key out x).Pairwise fun a b => key a ≤ key b := by
  obtain ⟨k, hk⟩ : ∃ k, pos key x out out.length = k := ⟨_, rfl⟩
  have hkl : k ≤ out.length := hk ▸ pos_le x out out.length
  have hg : ∀ i j (hij : i < j) (hj : j < out.length), key (out[i]'(by omega)) ≤ key out[j] := fun i j hij hj => List.pairwise_iff_getElem.1 h i j (by omega) hj hij
  have hT : ∀ y ∈ out.take k, key y ≤ key x := fun y hy => by
    obtain ⟨j, hj, rfl⟩ := List.mem_iff_getElem.1 hy
    rw [List.length_take] at hj
    rw [List.getElem_take]
    have h1 := pos_lo (key := key) x out out.length (by rw [hk]; omega)
    rw [hk, List.getD_eq_getElem?_getD, List.getElem?_eq_getElem (by omega), Option.getD_some] at h1
    by_cases e : j = k - 1
    · subst e; exact h1
    · exact Nat.le_trans (hg j (k - 1) (by omega) (by omega)) h1
  have hD : ∀ y ∈ out.drop k, key x ≤ key y := fun y hy => by
    obtain ⟨j, hj, rfl⟩ := List.mem_iff_getElem.1 hy
    rw [List.length_drop] at hj
    rw [List.getElem_drop]
    have := pos_hi (key := key) x out out.length (k + j) (by omega) (by omega)
    rw [List.getD_eq_getElem?_getD, List.getElem?_eq_getElem (by omega), Option.getD_some] at this
    omega
  have hs := h
  rw [← List.take_append_drop k out, List.pairwise_append] at hs
  unfold insS
  rw [hk, List.pairwise_append]
  refine ⟨hs.1, List.pairwise_cons.2 ⟨hD, hs.2.1⟩, fun a ha b hb => ?_⟩
  rcases List.mem_cons.1 hb with e | hb
  · rw [e]; exact hT a ha
  · exact hs.2.2 a ha b hb
theorem stS_both (L : List Int) : (stS key L).Pairwise (fun a b => key a ≤ key b) ∧ ∀ q, (stS key L).filter (fun z => key z == q) = L.filter (fun z => key z == q) := by
  have gen : ∀ (L out : List Int), out.Pairwise (fun a b => key a ≤ key b) → (L.foldl (insS key) out).Pairwise (fun a b => key a ≤ key b) ∧ ∀ q, (L.foldl (insS key) out).filter (fun z => key z == q) = (out ++ L).filter (fun z => key z == q) := by
    intro L
    induction L with
    | nil => intro out h; exact ⟨h, fun q => by simp⟩
    | cons x t ih =>
      intro out h
      obtain ⟨h1, h2⟩ := ih (insS key out x) (insS_srt h)
      refine ⟨h1, fun q => ?_⟩
      rw [List.foldl_cons, h2, List.filter_append, insS_fil, ← List.filter_append, List.append_assoc]
      rfl
  have h := gen L [] List.Pairwise.nil
  exact ⟨h.1, fun q => by rw [show stS key L = L.foldl (insS key) [] from rfl, h.2 q]; rfl⟩
theorem stS_len (L : List Int) : (stS key L).length = L.length := by
  have gen : ∀ (L out : List Int), (L.foldl (insS key) out).length = out.length + L.length := by
    intro L
    induction L with
    | nil => intro out; simp
    | cons x t ih =>
      intro out
      have hkl := pos_le (key := key) x out out.length
      rw [List.foldl_cons, ih]
      unfold insS
      simp only [List.length_append, List.length_take, List.length_cons, List.length_drop]
      omega
  have := gen L []
  simpa [stS] using this
theorem sg_pair {d : Nat → Int} {a n : Nat} (h : Srt key a (a + n) d) : (sg d a n).Pairwise (fun x y => key x ≤ key y) := by
  induction n generalizing a with
  | zero => exact List.Pairwise.nil
  | succ n ih =>
    refine List.pairwise_cons.2 ⟨fun y hy => ?_, ih (a := a + 1) fun i j h1 h2 h3 => h i j (by omega) h2 (by omega)⟩
    obtain ⟨k, h1, h2, rfl⟩ := sg_mem hy
    exact h a k (Nat.le_refl _) (by omega) (by omega)
/-- What any stable sort gives. -/
theorem stb_eq {d e : Nat → Int} {n : Nat} (h : Stb key 0 n d e) (hs : Srt key 0 n e) : sg e 0 n = stS key (sg d 0 n) := by
  obtain ⟨h1, h2⟩ := stS_both (key := key) (sg d 0 n)
  refine stab_unique (sg_pair (by rw [Nat.zero_add]; exact hs)) h1 fun q => ?_
  rw [h2 q]
  have := h.fil q
  rw [Nat.sub_zero] at this
  exact this
/-- One step of the insertion sort: two neighbours out of order change places. -/
theorem nb_stb {d : Nat → Int} {j : Nat} (h0 : 0 < j) (h : key (d j) < key (d (j - 1))) : Stb key (j - 1) (j + 1) d (rot d (j - 1) j (j + 1)) :=
  rot_stb (by omega) (by omega) fun x y hx1 hx2 hy1 hy2 => by
    obtain rfl : x = j - 1 := by omega
    obtain rfl : y = j := by omega
    exact h
theorem nb_swap (d : Nat → Int) (j : Nat) (h0 : 0 < j) : (fun k => if k = j then d (j - 1) else if k = j - 1 then d j else d k) = rot d (j - 1) j (j + 1) := by
  funext k
  unfold rot
  repeat' split
  all_goals first
    | omega
    | (congr 1; omega)
end StM
end Go.Proofs.YtoedmmhiinhljaaGreatDoor

/- More of stable sorting: single exchanges, the insertion's inner loop, blocks. No program is in sight. -/
namespace Go.Proofs.YtoedmmhiinhljaaGreatDoor
namespace StM
set_option linter.unusedVariables false
variable {key : Int → Nat}
/-- Two values change places. -/
def sw2 (d : Nat → Int) (i j : Nat) : Nat → Int := fun k => if k = i then d j else if k = j then d i else d k
theorem sw2_nb (d : Nat → Int) {j p : Nat} (h : j = p + 1) : sw2 d j p = rot d p j (j + 1) := by
  have := nb_swap d j (by omega)
  rw [show j - 1 = p by omega] at this
  exact this
theorem sw2_sw (d : Nat → Int) (a b n : Nat) (h : a + (n + 1) ≤ b) : sw2 (sw d a b n) (a + n) (b + n) = sw d a b (n + 1) := sw_succ d a b n h
theorem sw_zero (d : Nat → Int) (a b : Nat) : sw d a b 0 = d := by
  funext k
  unfold sw
  rw [if_neg (by omega), if_neg (by omega)]
/-- The first value of a segment wanders on by one. -/
theorem rot_up (d : Nat → Int) {a m k : Nat} (hm : m = a + 1) (h : a ≤ k) : sw2 (rot d a m (k + 1)) k (k + 1) = rot d a m (k + 2) := by
  subst hm
  funext x
  unfold sw2 rot
  repeat' split
  all_goals first
    | omega
    | (congr 1; omega)
/-- The last value of a segment wanders back by one. -/
theorem rot_dn (d : Nat → Int) {p k m b : Nat} (hb : b = m + 1) (hk : k = p + 1) (h : k ≤ m) : sw2 (rot d k m b) k p = rot d p m b := by
  subst hb
  subst hk
  funext x
  unfold sw2 rot
  repeat' split
  all_goals first
    | omega
    | (congr 1; omega)
/-- Two neighbours out of order change places. -/
theorem nb2 {a b j p : Nat} {d : Nat → Int} (hj : j = p + 1) (h : key (d j) < key (d p)) (h1 : a ≤ p) (h2 : j < b) : Stb key a b d (sw2 d j p) := by
  have k := nb_stb (key := key) (d := d) (j := j) (by omega) (by rw [show j - 1 = p by omega]; exact h)
  rw [show j - 1 = p by omega] at k
  rw [sw2_nb d hj]
  exact k.mono h1 (by omega) (by omega)
/-- Sorted but for place j, whose value is less than all behind it. -/
def Nr (key : Int → Nat) (a i j : Nat) (d : Nat → Int) : Prop :=
  (∀ x y, a ≤ x → x < y → y ≤ i → x ≠ j → y ≠ j → key (d x) ≤ key (d y)) ∧ (∀ y, j < y → y ≤ i → key (d j) < key (d y))
theorem Nr.start {a i : Nat} {d : Nat → Int} (h : Srt key a i d) : Nr key a i i d :=
  ⟨fun x y h1 h2 h3 h4 h5 => h x y h1 h2 (by omega), fun y h1 h2 => by omega⟩
theorem Nr.step {a i j p : Nat} {d : Nat → Int} (h : Nr key a i j d) (hj : j = p + 1) (ha : a ≤ p) (hi : j ≤ i) (hl : key (d j) < key (d p)) : Nr key a i p (sw2 d j p) := by
  subst hj
  refine ⟨fun x y h1 h2 h3 h4 h5 => ?_, fun y h1 h2 => ?_⟩
  · unfold sw2
    rw [if_neg h4, if_neg h5]
    by_cases c1 : x = p + 1
    · rw [if_pos c1, if_neg (by omega)]
      exact h.1 p y (by omega) (by omega) h3 (by omega) (by omega)
    · rw [if_neg c1]
      by_cases c2 : y = p + 1
      · rw [if_pos c2]
        exact h.1 x p h1 (by omega) (by omega) c1 (by omega)
      · rw [if_neg c2]
        exact h.1 x y h1 h2 h3 c1 c2
  · unfold sw2
    rw [if_neg (by omega : ¬ p = p + 1), if_pos rfl]
    by_cases c2 : y = p + 1
    · rw [if_pos c2]; exact hl
    · rw [if_neg c2, if_neg (by omega)]
      exact h.2 y (by omega) h2
theorem Nr.stop {a i j : Nat} {d : Nat → Int} (h : Nr key a i j d) (ha : a ≤ j) (hi : j ≤ i) (hl : j = a ∨ ∃ p, j = p + 1 ∧ key (d p) ≤ key (d j)) : Srt key a (i + 1) d := by
  intro x y h1 h2 h3
  by_cases c1 : x = j
  · subst c1; exact Nat.le_of_lt (h.2 y h2 (by omega))
  · by_cases c2 : y = j
    · rcases hl with e | ⟨p, e, hp⟩
      · omega
      · subst c2
        by_cases c3 : x = p
        · rw [c3]; exact hp
        · exact Nat.le_trans (h.1 x p h1 (by omega) (by omega) c1 (by omega)) hp
    · exact h.1 x y h1 h2 (by omega) c1 c2
theorem Srt.one (a b : Nat) (d : Nat → Int) (h : b ≤ a + 1) : Srt key a b d := fun i j h1 h2 h3 => by omega
theorem Srt.sub {a b a' b' : Nat} {d : Nat → Int} (h : Srt key a b d) (h1 : a ≤ a') (h2 : b' ≤ b) : Srt key a' b' d := fun i j x y z => h i j (by omega) y (by omega)
theorem Srt.eq {a b : Nat} {d e : Nat → Int} (h : Srt key a b d) (he : ∀ k, a ≤ k → k < b → e k = d k) : Srt key a b e := fun i j h1 h2 h3 => by
  rw [he i h1 (by omega), he j (by omega) h3]; exact h i j h1 h2 h3
/-- Each block of so many places is in order, for the blocks that begin before u. -/
def Bs (key : Int → Nat) (s n u : Nat) (d : Nat → Int) : Prop := ∀ a, s ∣ a → a < u → Srt key a (min (a + s) n) d
theorem Bs.zero (s n : Nat) (d : Nat → Int) : Bs key s n 0 d := fun a _ h => by omega
theorem dvd_lt {s a b : Nat} (h1 : s ∣ a) (h2 : s ∣ b) (h : a < b + s) : a ≤ b := by
  obtain ⟨x, rfl⟩ := h1
  obtain ⟨y, rfl⟩ := h2
  refine Nat.mul_le_mul_left _ ?_
  refine Nat.lt_succ_iff.1 (Nat.lt_of_mul_lt_mul_left (a := s) ?_)
  rw [Nat.mul_succ]
  exact h
/-- One block more. -/
theorem Bs.step {s n a b e : Nat} {d d' : Nat → Int} (h : Bs key s n a d) (hs : 0 < s) (ha : s ∣ a) (hb : b = min (a + s) n) (hu : e ≤ a + s) (h1 : Stb key a b d d') (h2 : Srt key a b d') : Bs key s n e d' := by
  intro x hx hxe
  have hle : x ≤ a := dvd_lt hx ha (by omega)
  by_cases c : x = a
  · rw [c, ← hb]; exact h2
  · have hxa : x < a := by omega
    have hxs : x + s ≤ a := by
      rcases Nat.lt_or_ge a (x + s) with h3 | h3
      · exact absurd (dvd_lt ha hx h3) (by omega)
      · exact h3
    exact (h x hx hxa).eq fun k k1 k2 => h1.out k (.inl (by omega))
/-- The last block is of one half only: nothing is to be merged. -/
theorem Bs.last {s n a : Nat} {d : Nat → Int} (h : Bs key (2 * s) n a d) (hs : 0 < s) (ha : 2 * s ∣ a) (hn : n ≤ a + s) (h2 : a < n → Srt key a n d) : Bs key (2 * s) n n d := by
  intro x hx hxn
  have hle : x ≤ a := dvd_lt hx ha (by omega)
  by_cases c : x = a
  · rw [c, show min (a + 2 * s) n = n by omega]
    exact h2 (by omega)
  · exact h x hx (by omega)
/-- The blocks behind are as they were. -/
def Rs (key : Int → Nat) (s n a : Nat) (d : Nat → Int) : Prop := ∀ x, s ∣ x → a ≤ x → x < n → Srt key x (min (x + s) n) d
theorem Rs.of {s n : Nat} {d : Nat → Int} (h : Bs key s n n d) : Rs key s n 0 d := fun x hx _ hn => h x hx hn
theorem Rs.step {s n a b a' : Nat} {d d' : Nat → Int} (h : Rs key s n a d) (h1 : Stb key a b d d') (h2 : b ≤ a') (h3 : a ≤ a') : Rs key s n a' d' := fun x hx h4 hn =>
  (h x hx (by omega) hn).eq fun k k1 k2 => h1.out k (.inr (by omega))
theorem Rs.left {s n a : Nat} {d : Nat → Int} (h : Rs key s n a d) (ha : 2 * s ∣ a) (hn : a + s ≤ n) (hs : 0 < s) : Srt key a (a + s) d := by
  have := h a (Nat.dvd_trans (Nat.dvd_mul_left s 2) ha) (Nat.le_refl _) (by omega)
  rw [show min (a + s) n = a + s by omega] at this
  exact this
theorem Rs.right {s n a b : Nat} {d : Nat → Int} (h : Rs key s n a d) (ha : 2 * s ∣ a) (hn : a + s < n) (hb : b = min (a + 2 * s) n) : Srt key (a + s) b d := by
  have := h (a + s) (Nat.dvd_add (Nat.dvd_trans (Nat.dvd_mul_left s 2) ha) (Nat.dvd_refl s)) (by omega) hn
  rw [show min (a + s + s) n = b by omega] at this
  exact this
theorem Rs.alone {s n a : Nat} {d : Nat → Int} (h : Rs key s n a d) (ha : 2 * s ∣ a) (hn : n ≤ a + s) (hl : a < n) : Srt key a n d := by
  have := h a (Nat.dvd_trans (Nat.dvd_mul_left s 2) ha) (Nat.le_refl _) hl
  rw [show min (a + s) n = n by omega] at this
  exact this
theorem Bs.all {s n : Nat} {d : Nat → Int} (h : Bs key s n n d) (hn : n ≤ s) : Srt key 0 n d := by
  by_cases c : n = 0
  · exact Srt.one _ _ _ (by omega)
  · have := h 0 (Nat.dvd_zero s) (by omega)
    rw [show min (0 + s) n = n by omega] at this
    exact this
theorem Stb.wide {a b n : Nat} {d e f : Nat → Int} (h : Stb key 0 n d e) (k : Stb key a b e f) (h1 : a ≤ b) (h2 : b ≤ n) : Stb key 0 n d f := h.trans (k.mono (Nat.zero_le _) h1 h2)
/-- The merge, after the search and the rotation, out of its two halves. -/
theorem merge3 {d e f : Nat → Int} {a m b s t q : Nat} (h1 : a ≤ s) (h2 : s ≤ m) (h3 : m ≤ t) (h4 : t ≤ b) (hq : q = s + (t - m)) (h5 : Srt key a m d) (h6 : Srt key m b d)
    (lo : ∀ i j, a ≤ i → i < s → t ≤ j → j < b → key (d i) ≤ key (d j)) (hi : ∀ i j, s ≤ i → i < m → m ≤ j → j < t → key (d j) < key (d i))
    (H1 : Stb key a q (rot d s m t) e ∧ Srt key a q e) (H2 : Stb key q b e f ∧ Srt key q b f) : Stb key a b d f ∧ Srt key a b f := by
  obtain ⟨k1, _, _, _, _, k6⟩ := half h1 h2 h3 h4 hq h5 h6 lo hi
  obtain ⟨j1, j2⟩ := join (by omega) (by omega) k6 H1.1 H1.2 H2.1 H2.2
  exact ⟨k1.trans j1, j2⟩
theorem sg_get (d : Nat → Int) : ∀ (n a k : Nat), k < n → (sg d a n)[k]? = some (d (a + k))
  | 0, a, k, h => by omega
  | n + 1, a, 0, h => by simp [sg]
  | n + 1, a, k + 1, h => by
    simp only [sg, List.getElem?_cons_succ]
    rw [sg_get d n (a + 1) k (by omega), show a + 1 + k = a + (k + 1) by omega]
theorem sg_set (d : Nat → Int) (n i : Nat) (v : Int) : (sg d 0 n).set i v = sg (fun k => if k = i then v else d k) 0 n := by
  apply List.ext_getElem?
  intro k
  rw [List.getElem?_set]
  by_cases hk : k < n
  · rw [sg_get _ n 0 k hk, sg_get _ n 0 k hk, Nat.zero_add, sg_len]
    by_cases c : i = k
    · subst c; simp [hk]
    · rw [if_neg c, if_neg (fun e => c e.symm)]
  · rw [List.getElem?_eq_none (by rw [sg_len]; omega), List.getElem?_eq_none (by rw [sg_len]; omega), sg_len]
    by_cases c : i = k
    · rw [if_pos c, if_neg (by omega)]
    · rw [if_neg c]
theorem sg_sw2 (d : Nat → Int) (n i j : Nat) : ((sg d 0 n).set i (d j)).set j (d i) = sg (sw2 d i j) 0 n := by
  rw [sg_set, sg_set]
  congr 1
  funext k
  unfold sw2
  repeat' split
  all_goals first
    | rfl
    | omega
    | (congr 1; omega)
end StM
end Go.Proofs.YtoedmmhiinhljaaGreatDoor

/- The place of the least bit. No program is in sight. -/
namespace Go.Proofs.YtoedmmhiinhljaaGreatDoor
set_option linter.unusedVariables false
/-- The place of the least bit. -/
def lowN (m : Nat) : Nat := Lib.ctz 64 m
theorem lowN_bit {m : Nat} (h0 : m ≠ 0) (h : m < 2 ^ 64) : m.testBit (lowN m) = true ∧ lowN m < 64 := by
  obtain ⟨h1, h2⟩ := Lib.lowest_bit 64 m h0 h
  refine ⟨?_, h2⟩
  have h3 : (m &&& (2 ^ 64 - m)).testBit (lowN m) = true := by rw [h1]; exact Nat.testBit_two_pow_self
  rw [Nat.testBit_and] at h3
  simp only [Bool.and_eq_true] at h3
  exact h3.1
theorem lowN_below {m : Nat} (h0 : m ≠ 0) (h : m < 2 ^ 64) {j : Nat} (hj : j < lowN m) : m.testBit j = false := by
  have key : ∀ (f x : Nat), 0 < x → ∀ j, j < Lib.ctzFrom f x → x.testBit j = false := by
    intro f
    induction f with
    | zero => intro x _ j hj; simp [Lib.ctzFrom] at hj
    | succ f ih =>
      intro x hx j hj
      unfold Lib.ctzFrom at hj
      split at hj
      · omega
      · cases j with
        | zero => rw [Nat.testBit_zero]; simp; omega
        | succ j => rw [Nat.testBit_succ]; exact ih _ (by omega) j (by omega)
  refine key 64 m (by omega) j ?_
  have : lowN m = Lib.ctzFrom 64 m := by unfold lowN Lib.ctz; rw [if_neg h0]
  omega
end Go.Proofs.YtoedmmhiinhljaaGreatDoor

/- The place of the least bit: the library's function, out of its table. -/
namespace Go.Proofs.YtoedmmhiinhljaaGreatDoor
open Go.RowKit
set_option linter.unusedVariables false
attribute [local go_sem ↓] Go.wp_at_zero Go.wp_at_succ

/-- The library's table is there. -/
def Tb (w : World) : Prop := ∀ j, j < Lib.deBruijn64tab.length → w.cell? ⟨1, j, none⟩ = some (.int .u8 (Lib.deBruijn64tab.getD j 0))
theorem Tb.below {w w' : World} (h : Tb w) (hb : Below w.heap.size w w') : Tb w' := fun j hj => keep_below hb (h j hj)
theorem TZ64_l (x : Nat) (w : World) (h0 : x ≠ 0) (hx : x < 2 ^ 62) (hT : Tb w) : Calls Tryz.prog 84 #[.int .u64 (x : Int)] w (Ret w (.int .i64 (lowN x : Nat))) := by
  have hx64 : x < 18446744073709551616 := by omega
  obtain ⟨hlow, hk⟩ := Lib.lowest_bit 64 x h0 hx64
  obtain ⟨hi, htab⟩ := Lib.deBruijn64_at _ hk
  have hcell := hT _ hi
  rw [htab] at hcell
  have key := tz64_key x _ hx64 h0 hlow
  have hx0 : ((x : Int) == 0) = false := by simp; omega
  obtain ⟨k, hk2⟩ : ∃ k, lowN x = k := ⟨_, rfl⟩
  have hk3 : Lib.ctz 64 x = k := hk2
  rw [hk3] at hcell hk key hi
  rw [hk2]
  obtain ⟨idx, hidx⟩ : ∃ idx, 2 ^ k * 285870213051353865 % 18446744073709551616 / 288230376151711744 = idx := ⟨_, rfl⟩
  rw [hidx] at hcell key
  have hi2 : idx < 64 := by rw [← hidx]; omega
  clear hidx hi hlow htab hk2 hk3 hT
  go_enter Tryz.func84, Tryz.ntmps84
  go_wp2_with (simp only [key])
  go_ret
  exact ⟨rfl, Below.refl _ _⟩
theorem TZ_l (x : Nat) (w : World) (h0 : x ≠ 0) (hx : x < 2 ^ 62) (hT : Tb w) : Calls Tryz.prog 69 #[.int .u64 (x : Int)] w (Ret w (.int .i64 (lowN x : Nat))) := by
  have h := TZ64_l x w h0 hx hT
  have H := Lib.hid h
  have hw : IntKind.u64.wrap (x : Int) = (x : Int) := by rw [IntKind.wrap_u64]; omega
  clear h hT h0
  go_enter Tryz.func69, Tryz.ntmps69
  go_wp2_with fail
  refine H.out.mono ?_
  rintro e w1 ⟨rfl, hb1⟩
  go_wp2_with fail
  go_ret
  exact ⟨rfl, hb1⟩
end Go.Proofs.YtoedmmhiinhljaaGreatDoor

/- What the library's stable sort asks of the program's test and of the exchange; the row under way. -/
namespace Go.Proofs.YtoedmmhiinhljaaGreatDoor
open Go.RowKit Go.Shelf
set_option linter.unusedVariables false
attribute [local go_sem ↓] Go.wp_at_zero Go.wp_at_succ

/-- The place of the least bit; that of nothing is 0. -/
def keyT (x : Int) : Nat := if x = 0 then 0 else lowN x.toNat
set_option maxRecDepth 100000 in
theorem leastBit_i (x : Int) (w : World) (h0 : 0 ≤ x) (hx : x < 2 ^ 62) (hT : Tb w) : Calls Tryz.prog 68 #[.int .i64 x] w (Ret w (.int .i64 (keyT x : Nat))) := by
  obtain ⟨m, rfl⟩ : ∃ m : Nat, x = m := ⟨x.toNat, by omega⟩
  by_cases hm : m = 0
  · subst hm
    have hk : keyT ((0 : Nat) : Int) = 0 := rfl
    rw [hk]
    have h0I : (((0 : Nat) : Int) == 0) = true := rfl
    go_enter Tryz.func68, Tryz.ntmps68
    go_wp2_with fail
    go_ret
    exact ⟨rfl, Below.refl _ _⟩
  · have hk : keyT (m : Int) = lowN m := by unfold keyT; rw [if_neg (by omega), Int.toNat_natCast]
    rw [hk]
    have H := Lib.hid (TZ_l m w hm (by omega) hT)
    have hmI : ((m : Int) == 0) = false := by simp; omega
    have hw : IntKind.u64.wrap (m : Int) = (m : Int) := by rw [IntKind.wrap_u64]; omega
    clear hk hT h0 hx hm
    go_enter Tryz.func68, Tryz.ntmps68
    go_wp2_with fail
    refine H.out.mono ?_
    rintro e w1 ⟨rfl, hb1⟩
    go_wp2_with fail
    go_ret
    exact ⟨rfl, hb1⟩

/-- The row holds the values d; the test's own variable holds the row; the library's table is there. -/
structure SS (w : World) (base g n c B : Nat) (d : Nat → Int) : Prop where
  own : w.ownsRow base 3 1 (.slice (some ⟨g, 0, none⟩) n c) n (vI (StM.sg d 0 n))
  box : w.cell? ⟨B, 0, none⟩ = some (.slice (some ⟨g, 0, none⟩) n c)
  ne : B ≠ g
  tb : Tb w
  tbl : 1 < base
  rng : ∀ k, k < n → 0 ≤ d k ∧ d k < 2 ^ 62
section
variable {w w' : World} {base g n c B : Nat} {d : Nat → Int}
theorem SS.lt (h : SS w base g n c B d) : base ≤ g ∧ g < w.heap.size := own_lt h.own g rfl
theorem SS.keep (h : SS w base g n c B d) (hb : Below w.heap.size w w') : SS w' base g n c B d :=
  ⟨own_keep h.own hb, keep_below hb h.box, h.ne, h.tb.below hb, h.tbl, h.rng⟩
theorem SS.at_ (h : SS w base g n c B d) {k : Nat} (hk : k < n) : w.cell? ⟨g, k, none⟩ = some (.int .i64 (d k)) := by
  have := h.own.cellAt (g := g) k (by omega)
  rw [this]
  simp only [vI, List.getElem?_map]
  rw [StM.sg_get _ _ _ _ hk, Nat.zero_add]
  rfl
theorem SS.frz (h : SS w base g n c B d) (o : Nat) : w.frozen? ⟨g, o, none⟩ = false := h.own.frozenAt o
theorem SS.sw (h : SS w base g n c B d) {i j : Nat} (hi : i < n) (hj : j < n) :
    SS ((w.setCell ⟨g, i, none⟩ (.int .i64 (d j))).setCell ⟨g, j, none⟩ (.int .i64 (d i))) base g n c B (StM.sw2 d i j) := by
  have hg := h.lt
  have hcell : ∀ (a : Addr) v, a.block ≠ g → w.cell? a = some v → ((w.setCell ⟨g, i, none⟩ (.int .i64 (d j))).setCell ⟨g, j, none⟩ (.int .i64 (d i))).cell? a = some v := fun a v ha hv =>
    keep_grown (grown_set (grown_set (World.grownBy.refl w (some g)) rfl _) rfl _) hv (fun e => ha (by injection e))
  refine ⟨?_, hcell _ _ h.ne h.box, h.ne, fun k hk => hcell _ _ (by have := h.tbl; show 1 ≠ g; omega) (h.tb k hk), h.tbl, fun k hk => ?_⟩
  · have h2 := ((h.own.stored i (.int .i64 (d j))).1.stored j (.int .i64 (d i))).1
    have e : ((vI (StM.sg d 0 n)).set i (.int .i64 (d j))).set j (.int .i64 (d i)) = vI (StM.sg (StM.sw2 d i j) 0 n) := by
      rw [← StM.sg_sw2]
      simp [vI, List.map_set]
    rw [e] at h2
    exact h2
  · unfold StM.sw2
    split
    · exact h.rng j hj
    · split
      · exact h.rng i hi
      · exact h.rng k hk
end
set_option maxHeartbeats 800000 in
set_option maxRecDepth 100000 in
/-- The test: is the least bit of value i before that of value j? -/
theorem lessT {w : World} {base g n c B : Nat} {d : Nat → Int} (h : SS w base g n c B d) {i j : Nat} (hi : i < n) (hj : j < n) (b : Bool) (hb : b = decide (keyT (d i) < keyT (d j))) :
    Calls Tryz.prog 67 #[.int .i64 (i : Int), .int .i64 (j : Int), .pointer (some ⟨B, 0, none⟩)] w (Ret w (.bool b)) := by
  have c1 := h.at_ hi
  have c2 := h.at_ hj
  have hg := h.lt.2
  have hB := h.box
  have hBl := World.block_lt_of_cell? w _ hB
  obtain ⟨x, hx⟩ : ∃ x, d i = x := ⟨_, rfl⟩
  obtain ⟨y, hy⟩ : ∃ y, d j = y := ⟨_, rfl⟩
  have rx := h.rng i hi
  have ry := h.rng j hj
  rw [hx] at c1 rx hb
  rw [hy] at c2 ry hb
  have HT := Lib.hid h.tb
  obtain ⟨p, hp⟩ : ∃ p : Nat, keyT x = p := ⟨_, rfl⟩
  obtain ⟨q, hq⟩ : ∃ q : Nat, keyT y = q := ⟨_, rfl⟩
  have HB2 : Hid (decide (p < q) = b) := by show _ = _; rw [hb, hp, hq]
  have HP := Lib.hid (show ((keyT x : Nat) : Int) = (p : Int) by rw [hp])
  have HQ := Lib.hid (show ((keyT y : Nat) : Int) = (q : Int) by rw [hq])
  have RX := Lib.hid rx
  have RY := Lib.hid ry
  have hi0 : (0 : Int) ≤ (i : Int) := by omega
  have hi1 : (i : Int) < (n : Int) := by omega
  have hj0 : (0 : Int) ≤ (j : Int) := by omega
  have hj1 : (j : Int) < (n : Int) := by omega
  clear h hx hy hp hq hb rx ry
  go_enter Tryz.func67, Tryz.ntmps67
  go_wp2_with fail
  (refine wp_region_below (by kernel_rfl) (by kernel_rfl) ?_; (repeat (first | go_big_quiet_skip | (refine quietV (v := ?_) (by rfl) rfl (fun w' hbw => ?_) ?_; rotate_left; ((try dsimp only at hbw); have hbc := (bcell hbw).1; have hbf := (bcell hbw).2; go_simp; first | done | with_reducible rfl | first | exact callsBI (leastBit_i x _ RX.out.1 RX.out.2 (HT.out.below hbw)) HP.out hbw | exact callsBI (leastBit_i y _ RY.out.1 RY.out.2 (HT.out.below hbw)) HQ.out hbw); simp only [List.setIfInBounds_toArray, List.set_cons_zero, List.set_cons_succ]))); refine wpQuiet_nil ?_; intro wq hbq)
  go_wp2_with fail
  go_ret
  exact ⟨by rw [← HB2.out]; rfl, hbq⟩
/-- What is asked of the exchange. -/
def SwT (sf : Nat) (th : Value) (base g n c B : Nat) : Prop := ∀ (w : World) (d : Nat → Int) (i j : Nat), SS w base g n c B d → i < n → j < n →
  ∃ w', (callFunc sf #[.int .i64 (i : Int), .int .i64 (j : Int), .slice (some ⟨g, 0, none⟩) n c, th]).run Tryz.prog w = .ok (.value (.tuple #[])) w' ∧ SS w' base g n c B (StM.sw2 d i j) ∧ ∀ a, World.grownBy a w (some g) → World.grownBy a w' (some g)
set_option maxRecDepth 100000 in
theorem infoIT : ∃ ie, Tryz.prog.info? 3 = some ie ∧ ie.size = 1 := by
  obtain ⟨i0, hi, _, hz1, _⟩ := info_parts infoI
  exact ⟨i0, hi, hz1⟩
set_option maxRecDepth 100000 in
theorem swapT (sf : Nat) (gS : Bool) (hx : ∀ args W, (callFunc sf args).run Tryz.prog W = ((Extern.ReflectliteSwapper.swap gS args).run Tryz.prog W).andThen fun v w' => .ok (.value v) w') (hagg : ∀ w, (isAgg 3).run Tryz.prog w = .ok false w)
    (base g n c B : Nat) : SwT sf (typeHandle Tryz.prog 3) base g n c B := by
  intro w d i j h hi hj
  obtain ⟨ie, hie, hsz⟩ := infoIT
  have hr := Lib.run_swap_one (P := Tryz.prog) gS 3 ie hie hsz hagg g 0 n c i j hi hj (.int .i64 (d i)) (.int .i64 (d j)) rfl rfl w (by rw [Nat.zero_add]; exact h.at_ hi) (by rw [Nat.zero_add]; exact h.at_ hj) (h.frz _) (h.frz _)
  rw [Nat.zero_add, Nat.zero_add] at hr
  refine ⟨_, ?_, h.sw hi hj, fun a h => grown_set (grown_set h rfl _) rfl _⟩
  rw [hx, hr]
  rfl
/-- What a step of the sort leaves. -/
def StP (w : World) (base g n c B : Nat) (R : (Nat → Int) → Prop) (e : Ending) (w' : World) : Prop :=
  e = .returned (.tuple #[]) ∧ ∃ d', SS w' base g n c B d' ∧ w.grownBy w' (some g) ∧ R d'
/-- What the sort hands on: the test and the exchange. -/
def datT (sf : Nat) (th : Value) (g n c B : Nat) : Array Value := #[.func (.func 67) #[] #[.pointer (some ⟨B, 0, none⟩)], .func (.func sf) #[] #[.slice (some ⟨g, 0, none⟩) n c, th]]
theorem grown_allocT {w w' : World} {o : Obj} {row : Option Nat} (h : (w.alloc o).grownBy w' row) : w.grownBy w' row :=
  ⟨h.os, h.tape, h.output, by have := h.size; simp at this; omega, fun k hk hne => (h.block k (by simp; omega) hne).trans (Below.heap_alloc w o k hk)⟩
end Go.Proofs.YtoedmmhiinhljaaGreatDoor

/- A tiling turned: plain. -/
namespace Go.Proofs.YtoedmmhiinhljaaGreatDoor
open Go.RowKit
set_option linter.unusedVariables false
/-- Is the tiling turned at all? -/
def ttOk (W : Int) (rows l : List Int) (m : Int) : Bool := (motV W rows).any (· == m) && l.all (okMask W rows)
/-- Its masks, turned and in order. -/
def ttV (W : Int) (rows l : List Int) (m : Int) : List Int := if ttOk W rows l m then StM.stS keyT (l.map fun x => tmV W rows x m) else []
theorem ttV_len (W : Int) (rows l : List Int) (m : Int) : (ttV W rows l m).length ≤ l.length := by
  unfold ttV
  split
  · rw [StM.stS_len, List.length_map]; exact Nat.le_refl _
  · simp
theorem tmOk_eq {W : Int} {rows : List Int} {m : Int} (h : (motV W rows).any (· == m) = true) (x : Int) : tmOk W rows x m = okMask W rows x := by unfold tmOk; rw [h]; rfl
theorem tmV_lt {W : Int} {rows : List Int} {x m : Int} : 0 ≤ tmV W rows x m ∧ tmV W rows x m < 2 ^ 62 := by
  unfold tmV
  split
  · next h =>
    unfold tmOk at h
    rw [Bool.and_eq_true] at h
    obtain ⟨hv, k, hk, rfl, hg⟩ := motV_any h.1
    obtain ⟨n, rfl, hn1, hn6, hh1, hh6, _⟩ := isReg_yes hv
    have h36 : n * rows.length ≤ 36 := Nat.mul_le_mul hn6 hh6
    rw [Int.toNat_natCast] at hg
    have hp := pos_ok ⟨hn1, hn6⟩ ⟨hh1, hh6⟩ hk hg
    have h1 := (turn_bits (mask := x.toNat) hp.2 hp.1 h36 (n * rows.length) (Nat.le_refl _)).1
    have h2 : (2 : Nat) ^ (n * rows.length) ≤ 2 ^ 36 := Nat.pow_le_pow_right (by decide) h36
    simp only [Int.toNat_natCast]
    omega
  · exact ⟨by decide, by decide⟩
theorem ttV_all {W : Int} {rows l : List Int} {m : Int} (h : ∀ x ∈ l, tmOk W rows x m = true) : ttV W rows l m = StM.stS keyT (l.map fun x => tmV W rows x m) ∧ ttOk W rows l m = (motV W rows).any (· == m) := by
  cases ha : (motV W rows).any (· == m) with
  | false =>
    have hl : l = [] := by
      cases l with
      | nil => rfl
      | cons x t =>
        have := h x (List.mem_cons_self ..)
        unfold tmOk at this
        rw [ha] at this
        simp at this
    subst hl
    have h0 : ttOk W rows [] m = false := by unfold ttOk; rw [ha]; rfl
    exact ⟨by unfold ttV; rw [h0]; rfl, h0⟩
  | true =>
    have h1 : l.all (okMask W rows) = true := List.all_eq_true.2 fun x hx => by rw [← tmOk_eq ha x]; exact h x hx
    have h0 : ttOk W rows l m = true := by unfold ttOk; rw [ha, h1]; rfl
    exact ⟨by unfold ttV; rw [h0]; rfl, h0⟩
theorem ttOk_no {W : Int} {rows l : List Int} {m x : Int} (hx : x ∈ l) (h : tmOk W rows x m = false) : ttOk W rows l m = false := by
  unfold tmOk at h
  unfold ttOk
  cases ha : (motV W rows).any (· == m) with
  | false => rfl
  | true =>
    rw [ha, Bool.true_and] at h
    rw [Bool.true_and, ← Bool.not_eq_true, List.all_eq_true]
    intro h2
    rw [h2 x hx] at h
    cases h
theorem ttV_no {W : Int} {rows l : List Int} {m : Int} (h : ttOk W rows l m = false) : ttV W rows l m = [] := by unfold ttV; rw [h]; rfl
theorem map_take_succ {α β : Type} (f : α → β) {l : List α} {i : Nat} (h : i < l.length) : (l.take (i + 1)).map f = (l.take i).map f ++ [f l[i]] := by rw [List.take_succ_eq_append_getElem h, List.map_append]; rfl
theorem all_take_succ {α : Type} {P : α → Prop} {l : List α} {i : Nat} (h : i < l.length) (h1 : ∀ x ∈ l.take i, P x) (h2 : P l[i]) : ∀ x ∈ l.take (i + 1), P x := fun x hx => by
  rw [List.take_succ_eq_append_getElem h, List.mem_append, List.mem_singleton] at hx
  rcases hx with hx | hx
  · exact h1 x hx
  · rw [hx]; exact h2
end Go.Proofs.YtoedmmhiinhljaaGreatDoor

/- The canonical tiling: plain. -/
namespace Go.Proofs.YtoedmmhiinhljaaGreatDoor
open Go.RowKit
set_option linter.unusedVariables false
/-- The lexicographic order. -/
def lxI : List Int → List Int → Bool
  | [], [] => false
  | [], _ :: _ => true
  | _ :: _, [] => false
  | x :: a, y :: b => if x = y then lxI a b else decide (x < y)
theorem lxI_same {a b : List Int} {k : Nat} (ha : k ≤ a.length) (hb : k ≤ b.length) (h : ∀ j, j < k → a.getD j 0 = b.getD j 0) : lxI a b = lxI (a.drop k) (b.drop k) := by
  induction k generalizing a b with
  | zero => rfl
  | succ k ih =>
    match a, b, ha, hb with
    | x :: a, y :: b, ha, hb =>
      have h0 := h 0 (by omega)
      simp only [List.getD_cons_zero] at h0
      subst h0
      simp only [lxI, if_pos, List.drop_succ_cons]
      simp only [List.length_cons, Nat.add_le_add_iff_right] at ha hb
      exact ih ha hb fun j hj => by simpa using h (j + 1) (by omega)
theorem lxI_diff {a b : List Int} {k : Nat} (ha : k < a.length) (hb : k < b.length) (h : ∀ j, j < k → a.getD j 0 = b.getD j 0) (hne : a.getD k 0 ≠ b.getD k 0) : lxI a b = decide (a.getD k 0 < b.getD k 0) := by
  rw [lxI_same (Nat.le_of_lt ha) (Nat.le_of_lt hb) h, List.drop_eq_getElem_cons ha, List.drop_eq_getElem_cons hb]
  rw [List.getD_eq_getElem?_getD, List.getElem?_eq_getElem ha, List.getD_eq_getElem?_getD, List.getElem?_eq_getElem hb] at hne ⊢
  simp only [Option.getD_some] at hne ⊢
  simp only [lxI]
  rw [if_neg hne]
theorem lxI_end {a b : List Int} {k : Nat} (ha : k ≤ a.length) (hb : k ≤ b.length) (h : ∀ j, j < k → a.getD j 0 = b.getD j 0) (he : k = a.length ∨ k = b.length) : lxI a b = decide (a.length < b.length) := by
  rw [lxI_same ha hb h]
  rcases he with rfl | rfl
  · rw [List.drop_length]
    by_cases hl : a.length < b.length
    · rw [decide_eq_true hl, List.drop_eq_getElem_cons hl]
      rfl
    · rw [decide_eq_false hl, List.drop_eq_nil_of_le (by omega)]
      rfl
  · rw [List.drop_length, decide_eq_false (by omega)]
    cases List.drop b.length a <;> rfl
/-- The first of some lists. -/
def canF (o : Option (List Int)) (t : List Int) : Option (List Int) := match o with
  | none => some t
  | some b => some (if lxI t b then t else b)
def canL (ts : List (List Int)) : Option (List Int) := ts.foldl canF none
theorem canL_snoc (ts : List (List Int)) (t : List Int) : canL (ts ++ [t]) = canF (canL ts) t := by simp [canL]
theorem canL_take {ts : List (List Int)} {k : Nat} (h : k < ts.length) : canL (ts.take (k + 1)) = canF (canL (ts.take k)) ts[k] := by rw [List.take_succ_eq_append_getElem h, canL_snoc]
theorem canL_some {ts : List (List Int)} : ∀ {k : Nat}, k < ts.length → (canL (ts.take (k + 1))).isSome = true
  | k, h => by rw [canL_take h]; unfold canF; split <;> rfl
def canOk (W : Int) (rows l : List Int) : Bool := l.all (okMask W rows) && decide (motV W rows ≠ [])
def canV (W : Int) (rows l : List Int) : List Int := if l.all (okMask W rows) then (canL ((motV W rows).map (ttV W rows l))).getD [] else []
theorem canL_len {n : Nat} : ∀ (ts : List (List Int)), (∀ t ∈ ts, t.length ≤ n) → ((canL ts).getD []).length ≤ n := by
  have gen : ∀ (ts : List (List Int)) (o : Option (List Int)), (∀ t ∈ ts, t.length ≤ n) → (o.getD []).length ≤ n → ((ts.foldl canF o).getD []).length ≤ n := by
    intro ts
    induction ts with
    | nil => intro o _ h; exact h
    | cons t ts ih =>
      intro o h1 h2
      refine ih _ (fun x hx => h1 x (List.mem_cons_of_mem _ hx)) ?_
      have ht := h1 t (List.mem_cons_self ..)
      cases o with
      | none => exact ht
      | some b =>
        show (if lxI t b then t else b).length ≤ n
        split
        · exact ht
        · exact h2
  intro ts h
  exact gen ts none h (by simp)
theorem canV_len (W : Int) (rows l : List Int) : (canV W rows l).length ≤ l.length := by
  unfold canV
  split
  · refine canL_len _ fun t ht => ?_
    obtain ⟨m, _, rfl⟩ := List.mem_map.1 ht
    exact ttV_len W rows l m
  · simp
theorem motV_mem {W : Int} {rows : List Int} {m : Int} (h : m ∈ motV W rows) : (motV W rows).any (· == m) = true := List.any_eq_true.2 ⟨m, h, by simp⟩
theorem ttOk_mem {W : Int} {rows l : List Int} {m : Int} (h : m ∈ motV W rows) : ttOk W rows l m = l.all (okMask W rows) := by unfold ttOk; rw [motV_mem h]; rfl
end Go.Proofs.YtoedmmhiinhljaaGreatDoor

/- How many bits a number has: the library's way by sums of neighbours. No program is in sight. -/
namespace Go.Proofs.YtoedmmhiinhljaaGreatDoor
open Go.RowKit
set_option linter.unusedVariables false
/-- Numbers by bytes. -/
def byt : List Nat → Nat
  | [] => 0
  | d :: t => 256 * byt t + d
theorem land_split (k a b c d : Nat) (hb : b < 2 ^ k) (hd : d < 2 ^ k) : (2 ^ k * a + b) &&& (2 ^ k * c + d) = 2 ^ k * (a &&& c) + (b &&& d) := by
  have hbd : b &&& d < 2 ^ k := Nat.lt_of_le_of_lt Nat.and_le_left hb
  apply Nat.eq_of_testBit_eq
  intro i
  rw [Nat.testBit_and, Nat.testBit_two_pow_mul_add a hb, Nat.testBit_two_pow_mul_add c hd, Nat.testBit_two_pow_mul_add _ hbd]
  split
  · rw [Nat.testBit_and]
  · rw [Nat.testBit_and]
theorem low_and (t a b m : Nat) (ha : a < 2 ^ t) (hm : m < 2 ^ t) : (2 ^ t * b + a) &&& m = a &&& m := by
  have h := land_split t b a 0 m ha hm
  simpa using h
theorem byt_len0 (m : Nat) : byt (List.replicate 0 m) = 0 := rfl
theorem byt_shift_and (j m : Nat) (hj : j ≤ 8) (hm : m < 2 ^ (8 - j)) : ∀ ds : List Nat, (∀ d ∈ ds, d < 256) → byt ds / 2 ^ j &&& byt (List.replicate ds.length m) = byt (ds.map fun d => d / 2 ^ j &&& m)
  | [], _ => by simp [byt]
  | d :: t, h => by
    have ih := byt_shift_and j m hj hm t (fun x hx => h x (by simp [hx]))
    have hd := h d (by simp)
    have hp : 2 ^ j * 2 ^ (8 - j) = 256 := by rw [← Nat.pow_add, show j + (8 - j) = 8 from by omega]
    have hjp : 0 < 2 ^ j := Nat.pow_pos (by decide)
    have hkp : 0 < 2 ^ (8 - j) := Nat.pow_pos (by decide)
    have hdj : d / 2 ^ j < 2 ^ (8 - j) := by rw [Nat.div_lt_iff_lt_mul hjp, Nat.mul_comm, hp]; exact hd
    have hm2 : m < 2 ^ 8 := Nat.lt_of_lt_of_le hm (Nat.pow_le_pow_right (by decide) (by omega))
    have e1 : (256 * byt t + d) / 2 ^ j = 2 ^ 8 * (byt t / 2 ^ j) + (2 ^ (8 - j) * (byt t % 2 ^ j) + d / 2 ^ j) := by
      have e2 : 256 * byt t + d = 2 ^ j * (2 ^ (8 - j) * byt t) + d := by rw [← Nat.mul_assoc, hp]
      rw [e2, Nat.mul_add_div hjp]
      have e3 := Nat.div_add_mod (byt t) (2 ^ j)
      have e4 : 2 ^ (8 - j) * byt t = 2 ^ 8 * (byt t / 2 ^ j) + 2 ^ (8 - j) * (byt t % 2 ^ j) := by
        conv => lhs; rw [← e3]
        rw [Nat.mul_add, ← Nat.mul_assoc, Nat.mul_comm (2 ^ (8 - j)) (2 ^ j), hp]
      omega
    have hlow : 2 ^ (8 - j) * (byt t % 2 ^ j) + d / 2 ^ j < 2 ^ 8 := by
      have h1 : byt t % 2 ^ j + 1 ≤ 2 ^ j := Nat.mod_lt _ hjp
      have h2 : 2 ^ (8 - j) * (byt t % 2 ^ j + 1) ≤ 2 ^ (8 - j) * 2 ^ j := Nat.mul_le_mul_left _ h1
      rw [Nat.mul_comm _ (2 ^ j), hp, Nat.mul_add] at h2
      omega
    show (256 * byt t + d) / 2 ^ j &&& (256 * byt (List.replicate t.length m) + m) = 256 * byt (t.map _) + (d / 2 ^ j &&& m)
    rw [e1, show (256 : Nat) = 2 ^ 8 from rfl, land_split 8 _ _ _ _ hlow hm2, ih, low_and (8 - j) _ _ _ hdj hm]
theorem byt_and (m : Nat) (hm : m < 256) (ds : List Nat) (h : ∀ d ∈ ds, d < 256) : byt ds &&& byt (List.replicate ds.length m) = byt (ds.map fun d => d &&& m) := by
  have h1 := byt_shift_and 0 m (by decide) (by simpa using hm) ds h
  simpa using h1
theorem byt_add : ∀ a b : List Nat, a.length = b.length → byt a + byt b = byt (List.zipWith (· + ·) a b)
  | [], [], _ => rfl
  | x :: s, y :: t, h => by
    have := byt_add s t (by simpa using h)
    show 256 * byt s + x + (256 * byt t + y) = 256 * byt (List.zipWith _ s t) + (x + y)
    omega
  | [], _ :: _, h => by simp at h
  | _ :: _, [], h => by simp at h
theorem byt_map2 (f g : Nat → Nat) (ds : List Nat) : byt (ds.map f) + byt (ds.map g) = byt (ds.map fun d => f d + g d) := by
  rw [byt_add _ _ (by simp)]
  congr 1
  induction ds with
  | nil => rfl
  | cons d t ih => simp [ih]
/-- The first sums of a byte. -/
def st1 (b : Nat) : Nat := (b / 2 &&& 85) + (b &&& 85)
def st2 (b : Nat) : Nat := (b / 4 &&& 51) + (b &&& 51)
def nb8 (b : Nat) : Nat := (List.range 8).countP fun i => b.testBit i
theorem st_all : ((List.range 256).all fun b => decide (st1 b < 256) && decide (st2 (st1 b) < 256) && decide (st2 (st1 b) / 16 ≤ 4) && decide (st2 (st1 b) % 16 ≤ 4) && decide (st2 (st1 b) / 16 + st2 (st1 b) % 16 = nb8 b)) = true := by decide +kernel
theorem st_ok {b : Nat} (h : b < 256) : st1 b < 256 ∧ st2 (st1 b) < 256 ∧ st2 (st1 b) / 16 ≤ 4 ∧ st2 (st1 b) % 16 ≤ 4 ∧ st2 (st1 b) / 16 + st2 (st1 b) % 16 = nb8 b := by
  have h0 := st_all
  rw [List.all_eq_true] at h0
  have := h0 b (by simpa using h)
  simpa [Bool.and_eq_true, and_assoc] using this
theorem stage1 (ds : List Nat) (h : ∀ d ∈ ds, d < 256) : (byt ds / 2 &&& byt (List.replicate ds.length 85)) + (byt ds &&& byt (List.replicate ds.length 85)) = byt (ds.map st1) := by
  have h1 := byt_shift_and 1 85 (by decide) (by decide) ds h
  rw [Nat.pow_one] at h1
  rw [h1, byt_and 85 (by decide) ds h, byt_map2]
  rfl
theorem stage2 (ds : List Nat) (h : ∀ d ∈ ds, d < 256) : (byt ds / 4 &&& byt (List.replicate ds.length 51)) + (byt ds &&& byt (List.replicate ds.length 51)) = byt (ds.map st2) := by
  have h1 := byt_shift_and 2 51 (by decide) (by decide) ds h
  rw [show (2 : Nat) ^ 2 = 4 from rfl] at h1
  rw [h1, byt_and 51 (by decide) ds h, byt_map2]
  rfl
/-- Bytes whose halves are small: the halves are added. -/
theorem stage3 : ∀ ds : List Nat, (∀ d ∈ ds, d < 256 ∧ d / 16 ≤ 4 ∧ d % 16 ≤ 4) → (byt ds / 16 + byt ds) &&& byt (List.replicate ds.length 15) = byt (ds.map fun d => d / 16 + d % 16)
  | [], _ => by simp [byt]
  | d :: t, h => by
    have ih := stage3 t (fun x hx => h x (by simp [hx]))
    obtain ⟨h1, h2, h3⟩ := h d (by simp)
    have hl : byt t % 16 ≤ 4 := by
      cases t with
      | nil => simp [byt]
      | cons e s =>
        have := (h e (by simp)).2.2
        show (256 * byt s + e) % 16 ≤ 4
        omega
    have e1 : (256 * byt t + d) / 16 + (256 * byt t + d) = 2 ^ 8 * (byt t / 16 + byt t) + (16 * (byt t % 16) + d / 16 + d) := by omega
    show ((256 * byt t + d) / 16 + (256 * byt t + d)) &&& (256 * byt (List.replicate t.length 15) + 15) = 256 * byt (t.map _) + (d / 16 + d % 16)
    rw [e1, show (256 : Nat) = 2 ^ 8 from rfl, land_split 8 _ _ _ _ (by omega) (by decide), ih]
    congr 1
    rw [show (15 : Nat) = 2 ^ 4 - 1 from rfl, Nat.and_two_pow_sub_one_eq_mod]
    omega
/-- The last sums. -/
theorem last7 (c0 c1 c2 c3 c4 c5 c6 c7 x y z : Nat) (h0 : c0 ≤ 8) (h1 : c1 ≤ 8) (h2 : c2 ≤ 8) (h3 : c3 ≤ 8) (h4 : c4 ≤ 8) (h5 : c5 ≤ 8) (h6 : c6 ≤ 8) (h7 : c7 ≤ 8)
    (hx : x = byt [c0, c1, c2, c3, c4, c5, c6, c7] + byt [c0, c1, c2, c3, c4, c5, c6, c7] / 256) (hy : y = x + x / 65536) (hz : z = y + y / 4294967296) : z % 128 = c0 + c1 + c2 + c3 + c4 + c5 + c6 + c7 := by
  simp only [byt] at hx
  have hx' : x = (c0 + c1) + 256 * (c1 + c2) + 65536 * (c2 + c3) + 16777216 * (c3 + c4) + 4294967296 * (c4 + c5) + 1099511627776 * (c5 + c6) + 281474976710656 * (c6 + c7) + 72057594037927936 * c7 := by omega
  have hy' : y = (c0 + c1 + c2 + c3) + 256 * (c1 + c2 + c3 + c4) + 65536 * (c2 + c3 + c4 + c5) + 16777216 * (c3 + c4 + c5 + c6) + 4294967296 * (c4 + c5 + c6 + c7) + 1099511627776 * (c5 + c6 + c7) + 281474976710656 * (c6 + c7) + 72057594037927936 * c7 := by omega
  clear hx hx' hy
  obtain ⟨lo, hlo⟩ : ∃ lo, lo = (c0 + c1 + c2 + c3) + 256 * (c1 + c2 + c3 + c4) + 65536 * (c2 + c3 + c4 + c5) + 16777216 * (c3 + c4 + c5 + c6) := ⟨_, rfl⟩
  obtain ⟨hi, hhi⟩ : ∃ hi, hi = (c4 + c5 + c6 + c7) + 256 * (c5 + c6 + c7) + 65536 * (c6 + c7) + 16777216 * c7 := ⟨_, rfl⟩
  have h32 : lo < 4294967296 := by omega
  have hyl : y = lo + 4294967296 * hi := by omega
  have hd : y / 4294967296 = hi := by rw [hyl, Nat.add_mul_div_left _ _ (by decide), Nat.div_eq_of_lt h32, Nat.zero_add]
  rw [hd] at hz
  obtain ⟨a, ha⟩ : ∃ a, a = (c1 + c2 + c3 + c4) + 256 * (c2 + c3 + c4 + c5) + 65536 * (c3 + c4 + c5 + c6) + 16777216 * hi + (c5 + c6 + c7) + 256 * (c6 + c7) + 65536 * c7 := ⟨_, rfl⟩
  have hz' : z = (c0 + c1 + c2 + c3 + c4 + c5 + c6 + c7) + 256 * a := by omega
  clear hy' hz hd ha hyl hlo hhi h32
  omega
/-- The number of bits. -/
def pop (n : Nat) : Nat := (List.range 64).countP fun i => n.testBit i
def bytes8 (n : Nat) : List Nat := [n % 256, n / 256 % 256, n / 65536 % 256, n / 16777216 % 256, n / 4294967296 % 256, n / 1099511627776 % 256, n / 281474976710656 % 256, n / 72057594037927936]
theorem byt_bytes (n : Nat) : byt (bytes8 n) = n := by
  simp only [bytes8, byt]
  omega
theorem bytes_lt {n : Nat} (h : n < 2 ^ 64) : ∀ d ∈ bytes8 n, d < 256 := by
  intro d hd
  simp only [bytes8, List.mem_cons, List.not_mem_nil, or_false] at hd
  omega
theorem countP_shift (p : Nat → Bool) (a b : Nat) : (List.range (a + b)).countP p = (List.range a).countP p + (List.range b).countP fun i => p (a + i) := by
  induction b with
  | zero => simp
  | succ b ih => rw [← Nat.add_assoc, List.range_succ, List.countP_append, ih, List.range_succ, List.countP_append, Nat.add_assoc]; simp
theorem nb8_at (n k : Nat) : nb8 (n / 2 ^ (8 * k) % 256) = (List.range 8).countP fun i => n.testBit (8 * k + i) := by
  unfold nb8
  apply List.countP_congr
  intro i hi
  have hi8 : i < 8 := by simpa using hi
  rw [show (256 : Nat) = 2 ^ 8 from rfl, Nat.testBit_mod_two_pow, Nat.testBit_div_two_pow]
  simp [hi8, Nat.add_comm]
theorem pop_bytes {n : Nat} (h : n < 2 ^ 64) : pop n = nb8 (n % 256) + nb8 (n / 256 % 256) + nb8 (n / 65536 % 256) + nb8 (n / 16777216 % 256) + nb8 (n / 4294967296 % 256) + nb8 (n / 1099511627776 % 256) + nb8 (n / 281474976710656 % 256) + nb8 (n / 72057594037927936) := by
  have e7 : n / 72057594037927936 = n / 2 ^ (8 * 7) % 256 := by
    rw [show (2 : Nat) ^ (8 * 7) = 72057594037927936 from rfl]; omega
  have h0 : nb8 (n % 256) = (List.range 8).countP fun i => n.testBit (0 + i) := by have h := nb8_at n 0; rw [show (2 : Nat) ^ (8 * 0) = 1 from rfl, Nat.div_one] at h; exact h
  have h1 : nb8 (n / 256 % 256) = (List.range 8).countP fun i => n.testBit (8 + i) := nb8_at n 1
  have h2 : nb8 (n / 65536 % 256) = (List.range 8).countP fun i => n.testBit (16 + i) := nb8_at n 2
  have h3 : nb8 (n / 16777216 % 256) = (List.range 8).countP fun i => n.testBit (24 + i) := nb8_at n 3
  have h4 : nb8 (n / 4294967296 % 256) = (List.range 8).countP fun i => n.testBit (32 + i) := nb8_at n 4
  have h5 : nb8 (n / 1099511627776 % 256) = (List.range 8).countP fun i => n.testBit (40 + i) := nb8_at n 5
  have h6 : nb8 (n / 281474976710656 % 256) = (List.range 8).countP fun i => n.testBit (48 + i) := nb8_at n 6
  have h7 : nb8 (n / 72057594037927936) = (List.range 8).countP fun i => n.testBit (56 + i) := by rw [e7]; exact nb8_at n 7
  simp only [Nat.zero_add] at h0
  rw [h0, h1, h2, h3, h4, h5, h6, h7]
  unfold pop
  have s := fun a => countP_shift (fun i => n.testBit i) a 8
  rw [show (64 : Nat) = 56 + 8 from rfl, s, show (56 : Nat) = 48 + 8 from rfl, s, show (48 : Nat) = 40 + 8 from rfl, s, show (40 : Nat) = 32 + 8 from rfl, s, show (32 : Nat) = 24 + 8 from rfl, s, show (24 : Nat) = 16 + 8 from rfl, s, show (16 : Nat) = 8 + 8 from rfl, s]
/-- The library's sums. -/
def popS (n : Nat) : Nat :=
  let a := (n / 2 &&& 0x5555555555555555) + (n &&& 0x5555555555555555)
  let b := (a / 4 &&& 0x3333333333333333) + (a &&& 0x3333333333333333)
  let c := (b / 16 + b) &&& 0x0f0f0f0f0f0f0f0f
  let x := c + c / 256
  let y := x + x / 65536
  let z := y + y / 4294967296
  z % 128
theorem popS_eq {n : Nat} (h : n < 2 ^ 64) : popS n = pop n := by
  have hb := bytes_lt h
  have e0 := byt_bytes n
  have s1 := stage1 (bytes8 n) hb
  have hb1 : ∀ d ∈ (bytes8 n).map st1, d < 256 := fun d hd => by
    obtain ⟨b, hb', rfl⟩ := List.mem_map.1 hd
    exact (st_ok (hb b hb')).1
  have s2 := stage2 ((bytes8 n).map st1) hb1
  have hb2 : ∀ d ∈ ((bytes8 n).map st1).map st2, d < 256 ∧ d / 16 ≤ 4 ∧ d % 16 ≤ 4 := fun d hd => by
    rw [List.map_map] at hd
    obtain ⟨b, hb', rfl⟩ := List.mem_map.1 hd
    have := st_ok (hb b hb')
    exact ⟨this.2.1, this.2.2.1, this.2.2.2.1⟩
  have s3 := stage3 (((bytes8 n).map st1).map st2) hb2
  rw [e0] at s1
  have m1 : byt (List.replicate (bytes8 n).length 85) = 0x5555555555555555 := by simp only [bytes8, List.length_cons, List.length_nil]; decide
  have m2 : byt (List.replicate ((bytes8 n).map st1).length 51) = 0x3333333333333333 := by simp only [bytes8, List.map_cons, List.map_nil, List.length_cons, List.length_nil]; decide
  have m3 : byt (List.replicate (((bytes8 n).map st1).map st2).length 15) = 0x0f0f0f0f0f0f0f0f := by simp only [bytes8, List.map_cons, List.map_nil, List.length_cons, List.length_nil]; decide
  rw [m1] at s1
  rw [m2] at s2
  rw [m3] at s3
  have hl : ((((bytes8 n).map st1).map st2).map fun d => d / 16 + d % 16) = (bytes8 n).map nb8 := by
    rw [List.map_map, List.map_map]
    refine List.map_congr_left fun b hb' => ?_
    exact (st_ok (hb b hb')).2.2.2.2
  rw [hl] at s3
  have n8 : ∀ b, nb8 b ≤ 8 := fun b => by
    have h := List.countP_le_length (p := fun i => b.testBit i) (l := List.range 8)
    simpa [nb8] using h
  unfold popS
  simp only [s1, s2, s3]
  rw [pop_bytes h]
  have := last7 (nb8 (n % 256)) (nb8 (n / 256 % 256)) (nb8 (n / 65536 % 256)) (nb8 (n / 16777216 % 256)) (nb8 (n / 4294967296 % 256)) (nb8 (n / 1099511627776 % 256)) (nb8 (n / 281474976710656 % 256)) (nb8 (n / 72057594037927936)) _ _ _ (n8 _) (n8 _) (n8 _) (n8 _) (n8 _) (n8 _) (n8 _) (n8 _) rfl rfl rfl
  simpa only [bytes8, List.map_cons, List.map_nil] using this
end Go.Proofs.YtoedmmhiinhljaaGreatDoor

/- Lists in a strict order, each element once: the reference's insertion, the program's search, a sorted list without repetitions. No program is in sight. -/
namespace Go.Proofs.YtoedmmhiinhljaaGreatDoor
open Go.RowKit
set_option linter.unusedVariables false
/-- A strict total order. -/
structure STO {α : Type} (lt : α → α → Bool) : Prop where
  irr : ∀ a, lt a a = false
  trans : ∀ {a b c}, lt a b = true → lt b c = true → lt a c = true
  tot : ∀ {a b}, lt a b = false → lt b a = false → a = b
section
variable {α : Type} {lt : α → α → Bool}
abbrev IncG (lt : α → α → Bool) (l : List α) : Prop := l.Pairwise (fun a b => lt a b = true)
theorem STO.asym (h : STO lt) {a b : α} (k : lt a b = true) : lt b a = false := by
  cases hb : lt b a with
  | false => rfl
  | true => rw [← h.irr a, ← h.trans k hb]
theorem incG_eq (h : STO lt) : ∀ (a b : List α), IncG lt a → IncG lt b → (∀ x, x ∈ a ↔ x ∈ b) → a = b
  | [], [], _, _, _ => rfl
  | [], y :: t, _, _, h => absurd ((h y).2 (by simp)) (by simp)
  | x :: s, [], _, _, h => absurd ((h x).1 (by simp)) (by simp)
  | x :: s, y :: t, ha, hb, hm => by
    obtain ⟨a1, a2⟩ := List.pairwise_cons.1 ha
    obtain ⟨b1, b2⟩ := List.pairwise_cons.1 hb
    have hxy : x = y := by
      refine h.tot ?_ ?_
      · rcases List.mem_cons.1 ((hm y).2 (by simp)) with h2 | h2
        · rw [← h2]; exact h.irr _
        · cases he : lt x y with
          | false => rfl
          | true =>
            rcases List.mem_cons.1 ((hm x).1 (by simp)) with h3 | h3
            · rw [h3] at he; rw [h.irr] at he; cases he
            · have := b1 x h3; rw [h.asym this] at he; cases he
      · rcases List.mem_cons.1 ((hm y).2 (by simp)) with h2 | h2
        · rw [← h2]; exact h.irr _
        · exact h.asym (a1 y h2)
    subst hxy
    congr 1
    refine incG_eq h s t a2 b2 fun z => ⟨fun hz => ?_, fun hz => ?_⟩
    · rcases List.mem_cons.1 ((hm z).1 (by simp [hz])) with h2 | h2
      · have := a1 z hz; rw [h2, h.irr] at this; cases this
      · exact h2
    · rcases List.mem_cons.1 ((hm z).2 (by simp [hz])) with h2 | h2
      · have := b1 z hz; rw [h2, h.irr] at this; cases this
      · exact h2
/-- An element put between those that are less and those that are greater. -/
theorem ins_inc {l : List α} (h : IncG lt l) (n : α) (k : Nat) (hf : ∀ x ∈ l.take k, lt x n = true) (hb : ∀ x ∈ l.drop k, lt n x = true) :
    IncG lt (l.take k ++ [n] ++ l.drop k) ∧ ∀ x, x ∈ l.take k ++ [n] ++ l.drop k ↔ x ∈ l ∨ x = n := by
  refine ⟨?_, fun x => ?_⟩
  · rw [IncG, List.append_assoc, List.pairwise_append]
    refine ⟨List.Pairwise.sublist (List.take_sublist _ _) h, ?_, fun x hx y hy => ?_⟩
    · rw [List.singleton_append, List.pairwise_cons]
      exact ⟨hb, List.Pairwise.sublist (List.drop_sublist _ _) h⟩
    · rcases List.mem_append.1 hy with hy | hy
      · simp only [List.mem_singleton] at hy; rw [hy]; exact hf x hx
      · rw [← List.take_append_drop k l, IncG, List.pairwise_append] at h
        exact h.2.2 x hx y hy
  · simp only [List.mem_append, List.mem_singleton]
    constructor
    · rintro ((h1 | h1) | h1)
      · exact .inl (List.mem_of_mem_take h1)
      · exact .inr h1
      · exact .inl (List.mem_of_mem_drop h1)
    · rintro (h1 | h1)
      · rw [← List.take_append_drop k l] at h1
        rcases List.mem_append.1 h1 with h2 | h2
        · exact .inl (.inl h2)
        · exact .inr h2
      · exact .inl (.inr h1)
/-- In order, those that are less stand in front. -/
theorem incG_split (hO : STO lt) (n : α) : ∀ {l : List α}, IncG lt l → (∀ x ∈ l.take (l.countP fun x => lt x n), lt x n = true) ∧ (∀ x ∈ l.drop (l.countP fun x => lt x n), lt x n = false)
  | [], _ => by simp
  | a :: t, h => by
    obtain ⟨h1, h2⟩ := List.pairwise_cons.1 h
    obtain ⟨i1, i2⟩ := incG_split hO n h2
    cases ha : lt a n with
    | true =>
      have e : (a :: t).countP (fun x => lt x n) = t.countP (fun x => lt x n) + 1 := by rw [List.countP_cons, if_pos ha]
      rw [e, List.take_succ_cons, List.drop_succ_cons]
      refine ⟨fun x hx => ?_, i2⟩
      rcases List.mem_cons.1 hx with hx | hx
      · rw [hx]; exact ha
      · exact i1 x hx
    | false =>
      have hall : ∀ x ∈ t, lt x n = false := fun x hx => by
        cases hxn : lt x n with
        | false => rfl
        | true => rw [hO.trans (h1 x hx) hxn] at ha; cases ha
      have e : (a :: t).countP (fun x => lt x n) = 0 := by
        rw [List.countP_eq_zero]
        intro x hx
        rcases List.mem_cons.1 hx with hx | hx
        · rw [hx, ha]; simp
        · rw [hall x hx]; simp
      rw [e]
      refine ⟨fun x hx => by simp at hx, fun x hx => ?_⟩
      rcases List.mem_cons.1 hx with hx | hx
      · rw [hx]; exact ha
      · exact hall x hx
end
section
variable {α : Type} [Inhabited α] {lt : α → α → Bool}
/-- How many elements stay ahead of n: counted down from k. -/
def cutG (lt : α → α → Bool) (l : List α) (n : α) : Nat → Nat
  | 0 => 0
  | k + 1 => if lt n (l.getD k default) then cutG lt l n k else k + 1
def putG [DecidableEq α] (lt : α → α → Bool) (l : List α) (n : α) : List α :=
  if 0 < cutG lt l n l.length ∧ l.getD (cutG lt l n l.length - 1) default = n then l else l.take (cutG lt l n l.length) ++ [n] ++ l.drop (cutG lt l n l.length)
/-- The program's way: how many are less. -/
def putB [DecidableEq α] (lt : α → α → Bool) (l : List α) (n : α) : List α :=
  if l.countP (fun x => lt x n) < l.length ∧ l.getD (l.countP fun x => lt x n) default = n then l else l.take (l.countP fun x => lt x n) ++ [n] ++ l.drop (l.countP fun x => lt x n)
theorem cutG_le (l : List α) (n : α) (k : Nat) : cutG lt l n k ≤ k := by
  induction k with
  | zero => exact Nat.le_refl _
  | succ k ih => unfold cutG; split <;> omega
theorem cutG_above (l : List α) (n : α) : ∀ k, k ≤ l.length → ∀ i, cutG lt l n k ≤ i → i < k → lt n (l.getD i default) = true
  | 0, _, i, _, h => absurd h (by omega)
  | k + 1, hk, i, hc, hi => by
    unfold cutG at hc
    split at hc
    · next h =>
      rcases Nat.lt_or_ge i k with h1 | h1
      · exact cutG_above l n k (by omega) i hc h1
      · obtain rfl : i = k := by omega
        exact h
    · omega
theorem cutG_at (l : List α) (n : α) : ∀ k, 0 < cutG lt l n k → lt n (l.getD (cutG lt l n k - 1) default) = false
  | 0, h => absurd h (by simp [cutG])
  | k + 1, h => by
    unfold cutG at h ⊢
    split
    · next h1 => rw [if_pos h1] at h; exact cutG_at l n k h
    · next h1 => simpa using h1
theorem incG_get (hO : STO lt) {l : List α} (h : IncG lt l) {i j : Nat} (hij : i < j) (hj : j < l.length) : lt (l.getD i default) (l.getD j default) = true := by
  rw [IncG, List.pairwise_iff_getElem] at h
  have := h i j (by omega) hj hij
  simpa [List.getD_eq_getElem?_getD, hj, show i < l.length by omega] using this
theorem getD_mem {l : List α} {i : Nat} (h : i < l.length) : l.getD i default ∈ l := by
  rw [List.getD_eq_getElem?_getD, List.getElem?_eq_getElem h]; exact List.getElem_mem _
theorem putG_inc [DecidableEq α] (hO : STO lt) {l : List α} (h : IncG lt l) (n : α) : IncG lt (putG lt l n) ∧ ∀ x, x ∈ putG lt l n ↔ x ∈ l ∨ x = n := by
  unfold putG
  have hk := cutG_le (lt := lt) l n l.length
  have ha := cutG_above (lt := lt) l n l.length (Nat.le_refl _)
  have hat := cutG_at (lt := lt) l n l.length
  generalize cutG lt l n l.length = k at hk ha hat
  split
  · next hc =>
    refine ⟨h, fun x => ⟨.inl, fun hx => ?_⟩⟩
    rcases hx with hx | rfl
    · exact hx
    · rw [← hc.2]; exact getD_mem (by omega)
  · next hc =>
    have hlt : 0 < k → lt (l.getD (k - 1) default) n = true := fun h0 => by
      cases he : lt (l.getD (k - 1) default) n with
      | true => rfl
      | false => exact absurd ⟨h0, hO.tot he (hat h0)⟩ hc
    refine ins_inc h n k (fun x hx => ?_) (fun x hx => ?_)
    · obtain ⟨i, hi, rfl⟩ := List.mem_iff_getElem.1 hx
      rw [List.length_take] at hi
      rw [List.getElem_take]
      have h1 := hlt (by omega)
      have e : l[i]'(by omega) = l.getD i default := by rw [List.getD_eq_getElem?_getD, List.getElem?_eq_getElem (by omega)]; rfl
      rw [e]
      rcases Nat.lt_or_ge i (k - 1) with h2 | h2
      · exact hO.trans (incG_get hO h h2 (by omega)) h1
      · obtain rfl : i = k - 1 := by omega
        exact h1
    · obtain ⟨i, hi, rfl⟩ := List.mem_iff_getElem.1 hx
      rw [List.length_drop] at hi
      rw [List.getElem_drop]
      have := ha (k + i) (by omega) (by omega)
      rwa [List.getD_eq_getElem?_getD, List.getElem?_eq_getElem (by omega)] at this
theorem putB_inc [DecidableEq α] (hO : STO lt) {l : List α} (h : IncG lt l) (n : α) : IncG lt (putB lt l n) ∧ ∀ x, x ∈ putB lt l n ↔ x ∈ l ∨ x = n := by
  unfold putB
  obtain ⟨h1, h2⟩ := incG_split hO n h
  have hk : l.countP (fun x => lt x n) ≤ l.length := List.countP_le_length
  generalize l.countP (fun x => lt x n) = k at h1 h2 hk
  split
  · next hc =>
    refine ⟨h, fun x => ⟨.inl, fun hx => ?_⟩⟩
    rcases hx with hx | rfl
    · exact hx
    · rw [← hc.2]; exact getD_mem hc.1
  · next hc =>
    refine ins_inc h n k h1 fun x hx => ?_
    cases hnx : lt n x with
    | true => rfl
    | false =>
      have e : x = n := hO.tot (h2 x hx) hnx
      exfalso
      apply hc
      have hkl : k < l.length := by
        rcases Nat.lt_or_ge k l.length with hl | hl
        · exact hl
        · rw [List.drop_of_length_le hl] at hx; cases hx
      refine ⟨hkl, ?_⟩
      have e0 : l.getD k default = l[k] := by rw [List.getD_eq_getElem?_getD, List.getElem?_eq_getElem hkl]; rfl
      rw [e0]
      rw [List.drop_eq_getElem_cons hkl] at hx
      rcases List.mem_cons.1 hx with hx | hx
      · rw [← e]; exact hx.symm
      · obtain ⟨i, hi, hxi⟩ := List.mem_iff_getElem.1 hx
        rw [List.length_drop] at hi
        rw [List.getElem_drop] at hxi
        rw [IncG, List.pairwise_iff_getElem] at h
        have := h k (k + 1 + i) hkl (by omega) (by omega)
        rw [hxi, e] at this
        have hk2 := h2 l[k] (by rw [List.drop_eq_getElem_cons hkl]; exact List.mem_cons_self)
        rw [this] at hk2
        cases hk2
theorem putB_eq [DecidableEq α] (hO : STO lt) {l : List α} (h : IncG lt l) (n : α) : putB lt l n = putG lt l n := by
  obtain ⟨a1, a2⟩ := putB_inc hO h n
  obtain ⟨b1, b2⟩ := putG_inc hO h n
  exact incG_eq hO _ _ a1 b1 fun x => by rw [a2, b2]
theorem foldlG_inc [DecidableEq α] (hO : STO lt) : ∀ (l acc : List α), IncG lt acc → IncG lt (l.foldl (putG lt) acc) ∧ ∀ x, x ∈ l.foldl (putG lt) acc ↔ x ∈ acc ∨ x ∈ l
  | [], acc, h => ⟨h, fun x => by simp⟩
  | a :: t, acc, h => by
    obtain ⟨h1, h2⟩ := putG_inc hO h a
    obtain ⟨h3, h4⟩ := foldlG_inc hO t (putG lt acc a) h1
    refine ⟨h3, fun x => ?_⟩
    rw [List.foldl_cons, h4, h2, List.mem_cons]
    constructor
    · rintro ((h | h) | h)
      · exact .inl h
      · exact .inr (.inl h)
      · exact .inr (.inr h)
    · rintro (h | h | h)
      · exact .inl (.inl h)
      · exact .inl (.inr h)
      · exact .inr h
/-- The reference's way: each put in its place. -/
def sortG [DecidableEq α] (lt : α → α → Bool) (l : List α) : List α := l.foldl (putG lt) []
theorem sortG_inc [DecidableEq α] (hO : STO lt) (l : List α) : IncG lt (sortG lt l) ∧ ∀ x, x ∈ sortG lt l ↔ x ∈ l := by
  obtain ⟨h1, h2⟩ := foldlG_inc hO l [] List.Pairwise.nil
  exact ⟨h1, fun x => by rw [sortG, h2]; simp⟩
/-- The program's way: sorted, then each but once. -/
def keepG [DecidableEq α] (s : List α) (i : Nat) : Bool := i == 0 || s.getD (i - 1) default != s.getD i default
def dedG [DecidableEq α] (s : List α) : Nat → List α
  | 0 => []
  | k + 1 => dedG s k ++ (if keepG s k then [s.getD k default] else [])
theorem dedG_len [DecidableEq α] (s : List α) (k : Nat) : (dedG s k).length ≤ k := by
  induction k with
  | zero => simp [dedG]
  | succ k ih => unfold dedG; rw [List.length_append]; split <;> simp <;> omega
theorem dedG_all [DecidableEq α] (hO : STO lt) {s : List α} (hs : s.Pairwise (fun a b => lt b a = false)) : ∀ k, k ≤ s.length → IncG lt (dedG s k) ∧ (∀ x, x ∈ dedG s k ↔ x ∈ s.take k) ∧ ∀ x ∈ dedG s k, 0 < k ∧ lt (s.getD (k - 1) default) x = false
  | 0, _ => ⟨List.Pairwise.nil, fun x => by simp [dedG], fun x hx => by simp [dedG] at hx⟩
  | k + 1, hk => by
    obtain ⟨h1, h2, h3⟩ := dedG_all hO hs k (by omega)
    have hkl : k < s.length := by omega
    have hg : s.getD k default = s[k] := by rw [List.getD_eq_getElem?_getD, List.getElem?_eq_getElem hkl]; rfl
    have hmono : 0 < k → lt (s.getD k default) (s.getD (k - 1) default) = false := fun h0 => by
      rw [List.pairwise_iff_getElem] at hs
      have := hs (k - 1) k (by omega) hkl (by omega)
      rw [hg, List.getD_eq_getElem?_getD, List.getElem?_eq_getElem (by omega)]
      exact this
    -- what is not above the last one is not above the next
    have hnext : ∀ x, 0 < k → lt (s.getD (k - 1) default) x = false → lt (s.getD k default) x = false := fun x h0 hx => by
      cases he : lt (s.getD k default) x with
      | false => rfl
      | true =>
        exfalso
        have hm := hmono h0
        cases hy : lt (s.getD (k - 1) default) (s.getD k default) with
        | true => rw [hO.trans hy he] at hx; cases hx
        | false => rw [hO.tot hy hm] at hx; rw [hx] at he; cases he
    unfold dedG
    rw [List.take_succ_eq_append_getElem hkl]
    cases hka : keepG s k with
    | true =>
      rw [if_pos rfl, hg]
      refine ⟨?_, fun x => ?_, fun x hx => ⟨by omega, ?_⟩⟩
      · rw [IncG, List.pairwise_append]
        refine ⟨h1, by simp, fun x hx y hy => ?_⟩
        simp only [List.mem_singleton] at hy
        subst hy
        obtain ⟨h0, hle⟩ := h3 x hx
        have hm := hnext x h0 hle
        rw [hg] at hm
        cases hc : lt x s[k] with
        | true => rfl
        | false =>
          exfalso
          have e : x = s[k] := hO.tot hc hm
          simp only [keepG, Bool.or_eq_true, beq_iff_eq, bne_iff_ne, ne_eq] at hka
          rcases hka with h | h
          · omega
          · apply h
            refine hO.tot ?_ (hmono h0)
            rw [hg, ← e]
            exact hle
      · simp only [List.mem_append, h2 x]
      · simp only [Nat.add_sub_cancel]
        rcases List.mem_append.1 hx with hx | hx
        · obtain ⟨h0, hle⟩ := h3 x hx
          exact hnext x h0 hle
        · simp only [List.mem_singleton] at hx
          rw [hx, hg]
          exact hO.irr _
    | false =>
      simp only [Bool.false_eq_true, if_false, List.append_nil]
      simp only [keepG, Bool.or_eq_false_iff, beq_eq_false_iff_ne, bne_eq_false_iff_eq, ne_eq] at hka
      refine ⟨h1, fun x => ?_, fun x hx => ⟨by omega, ?_⟩⟩
      · rw [h2 x, List.mem_append, List.mem_singleton]
        refine ⟨.inl, fun h => ?_⟩
        rcases h with h | h
        · exact h
        · rw [h, ← hg, ← hka.2, List.getD_eq_getElem?_getD, List.getElem?_eq_getElem (by omega)]
          simp only [Option.getD_some]
          rw [List.mem_iff_getElem]
          exact ⟨k - 1, by rw [List.length_take]; omega, by rw [List.getElem_take]⟩
      · obtain ⟨h0, hle⟩ := h3 x hx
        exact hnext x h0 hle
/-- A sorted list of the same elements, without repetitions, is the reference's. -/
theorem dedG_eq [DecidableEq α] (hO : STO lt) {s l : List α} (hs : s.Pairwise (fun a b => lt b a = false)) (hm : ∀ x, x ∈ s ↔ x ∈ l) : dedG s s.length = sortG lt l := by
  obtain ⟨h1, h2, _⟩ := dedG_all hO hs s.length (Nat.le_refl _)
  obtain ⟨h3, h4⟩ := sortG_inc hO l
  refine incG_eq hO _ _ h1 h3 fun x => ?_
  rw [h2, h4, List.take_length, hm]
theorem putG_len [DecidableEq α] (l : List α) (n : α) : (putG lt l n).length ≤ l.length + 1 := by
  unfold putG
  split
  · omega
  · simp only [List.length_append, List.length_take, List.length_drop, List.length_cons, List.length_nil]; omega
theorem foldlG_len [DecidableEq α] (l acc : List α) : (l.foldl (putG lt) acc).length ≤ acc.length + l.length := by
  induction l generalizing acc with
  | nil => simp
  | cons a t ih =>
    rw [List.foldl_cons]
    have := ih (putG lt acc a)
    have := putG_len (lt := lt) acc a
    simp only [List.length_cons]
    omega
theorem sortG_len [DecidableEq α] (l : List α) : (sortG lt l).length ≤ l.length := by
  have := foldlG_len (lt := lt) l []
  simpa [sortG] using this
theorem putG_same [DecidableEq α] {l : List α} {n : α} {k : Nat} (hk : cutG lt l n l.length = k) (h0 : 0 < k) (h1 : l.getD (k - 1) default = n) : putG lt l n = l := by unfold putG; rw [hk, if_pos ⟨h0, h1⟩]
theorem putG_new [DecidableEq α] {l : List α} {n : α} {k : Nat} (hk : cutG lt l n l.length = k) (h1 : ¬ (0 < k ∧ l.getD (k - 1) default = n)) : putG lt l n = l.take k ++ [n] ++ l.drop k := by unfold putG; rw [hk, if_neg h1]
/-- An element that is there already is not put again. -/
theorem sortG_same [DecidableEq α] (hO : STO lt) {a b : List α} (h : ∀ x, x ∈ a ↔ x ∈ b) : sortG lt a = sortG lt b := by
  obtain ⟨h1, h2⟩ := sortG_inc hO a
  obtain ⟨h3, h4⟩ := sortG_inc hO b
  exact incG_eq hO _ _ h1 h3 fun x => by rw [h2, h4, h]
theorem sortG_id [DecidableEq α] (hO : STO lt) {a : List α} (h : IncG lt a) : sortG lt a = a := by
  obtain ⟨h1, h2⟩ := sortG_inc hO a
  exact incG_eq hO _ _ h1 h fun x => by rw [h2]
end
end Go.Proofs.YtoedmmhiinhljaaGreatDoor

/- Plain functions on cells: shapes, connected shapes. No program is in sight. -/
namespace Go.Proofs.YtoedmmhiinhljaaGreatDoor
open Go.RowKit
set_option linter.unusedVariables false

def befC (a b : C) : Bool := decide (a.2 < b.2) || (a.2 == b.2 && decide (a.1 < b.1))
theorem befC_trans {a b c : C} (h : befC a b = true) (k : befC b c = true) : befC a c = true := by
  simp only [befC, Bool.or_eq_true, Bool.and_eq_true, decide_eq_true_eq, beq_iff_eq] at *
  omega
theorem befC_irr (a : C) : befC a a = false := by simp [befC]
/-- The k-th cell of a list is on the board and behind the one before it. -/
def shapeAt (l : List C) (k : Nat) (c : C) : Bool := onB c && (k == 0 || befC (l.getD (k - 1) (0, 0)) c)
def shapeTo (l : List C) (k : Nat) : Bool := (List.range k).all fun i => shapeAt l i (l.getD i (0, 0))
def isShape (l : List C) : Bool := shapeTo l l.length && (decide (1 ≤ l.length) && decide (l.length ≤ 8))
theorem shapeTo_succ (l : List C) (k : Nat) (hk : k < l.length) : shapeTo l (k + 1) = (shapeTo l k && shapeAt l k l[k]) := by
  unfold shapeTo
  rw [List.range_succ, List.all_append]
  simp [List.getD_eq_getElem?_getD, hk]
theorem shapeTo_at {l : List C} {k : Nat} (h : shapeTo l k = true) {i : Nat} (hi : i < k) (hl : i < l.length) : shapeAt l i l[i] = true := by
  unfold shapeTo at h
  rw [List.all_eq_true] at h
  have := h i (by simp; omega)
  rwa [List.getD_eq_getElem?_getD, List.getElem?_eq_getElem hl] at this
theorem isShape_no (l : List C) (k : Nat) (hk : k < l.length) (h : shapeAt l k l[k] = false) : isShape l = false := by
  have : shapeTo l l.length = false := by
    rw [Bool.eq_false_iff]
    intro ht
    rw [shapeTo_at ht hk hk] at h
    cases h
  unfold isShape
  rw [this]
  rfl
theorem shape_len {l : List C} (h : isShape l = true) : 1 ≤ l.length ∧ l.length ≤ 8 := by
  simp only [isShape, Bool.and_eq_true, decide_eq_true_eq] at h
  exact h.2
theorem shape_to {l : List C} (h : isShape l = true) : shapeTo l l.length = true := by
  simp only [isShape, Bool.and_eq_true, decide_eq_true_eq] at h
  exact h.1
theorem shape_onB {l : List C} (h : isShape l = true) : ∀ c ∈ l, onB c = true := by
  intro c hc
  obtain ⟨i, hi, rfl⟩ := List.mem_iff_getElem.1 hc
  have := shapeTo_at (shape_to h) hi hi
  simp only [shapeAt, Bool.and_eq_true] at this
  exact this.1
theorem shape_small {l : List C} (h : isShape l = true) : ∀ c ∈ l, small c := fun c hc => small_of_onB (shape_onB h c hc)
theorem shape_bef {l : List C} (h : isShape l = true) : ∀ j i (hj : j < l.length) (hi : i < j), befC (l[i]'(by omega)) l[j] = true := by
  intro j
  induction j with
  | zero => intro i _ hi; omega
  | succ j ih =>
    intro i hj hi
    have h1 := shapeTo_at (shape_to h) hj hj
    simp only [shapeAt, Bool.and_eq_true] at h1
    have h2 := h1.2
    rw [show (j + 1 == 0) = false from rfl, Bool.false_or, show j + 1 - 1 = j from rfl, List.getD_eq_getElem?_getD, List.getElem?_eq_getElem (by omega : j < l.length)] at h2
    rcases Nat.lt_or_ge i j with h3 | h3
    · exact befC_trans (ih i (by omega) h3) h2
    · obtain rfl : i = j := by omega
      exact h2
theorem shape_nodup {l : List C} (h : isShape l = true) : l.Nodup := by
  rw [List.Nodup, List.pairwise_iff_getElem]
  intro i j hi hj hij he
  have := shape_bef h j i hj hij
  rw [he, befC_irr] at this
  cases this

/-- What is reached from a cell by steps within a list. -/
inductive Rch (s : List C) (a : C) : C → Prop
  | base : Rch s a a
  | step {b c : C} : Rch s a b → c ∈ s → near b c = true → Rch s a c
def s0 (s : List C) : C := s.getD 0 (0, 0)
noncomputable def conn (s : List C) : Bool := @decide (∀ c ∈ s, Rch s (s0 s) c) (Classical.propDecidable _)
theorem conn_iff (s : List C) : conn s = true ↔ ∀ c ∈ s, Rch s (s0 s) c := by
  unfold conn
  exact @decide_eq_true_iff _ (Classical.propDecidable _)
theorem nodup_len {α : Type} [DecidableEq α] : ∀ (l m : List α), l.Nodup → (∀ x ∈ l, x ∈ m) → l.length ≤ m.length := by
  intro l
  induction l with
  | nil => intro m _ _; simp
  | cons a t ih =>
    intro m hn hs
    have ha := hs a (by simp)
    have h1 := ih (m.erase a) (List.nodup_cons.1 hn).2 (fun x hx => (List.mem_erase_of_ne (by rintro rfl; exact (List.nodup_cons.1 hn).1 hx)).2 (hs x (by simp [hx])))
    rw [List.length_erase_of_mem ha] at h1
    have : 0 < m.length := List.length_pos_of_mem ha
    simp only [List.length_cons]
    omega
theorem nodup_full {α : Type} [DecidableEq α] (l m : List α) (hl : l.Nodup) (hs : ∀ x ∈ l, x ∈ m) (he : l.length = m.length) : ∀ x ∈ m, x ∈ l := by
  intro x hx
  rcases Decidable.em (x ∈ l) with h | h
  · exact h
  · have := nodup_len (x :: l) m (List.nodup_cons.2 ⟨h, hl⟩) (fun y hy => by
      rcases List.mem_cons.1 hy with rfl | hy
      · exact hx
      · exact hs y hy)
    simp only [List.length_cons] at this
    omega
theorem nodup_inj {α : Type} {l : List α} (h : l.Nodup) {i j : Nat} (hi : i < l.length) (hj : j < l.length) (he : l[i] = l[j]) : i = j := by
  rw [List.Nodup, List.pairwise_iff_getElem] at h
  rcases Nat.lt_trichotomy i j with h1 | h1 | h1
  · exact absurd he (h i j hi hj h1)
  · exact h1
  · exact absurd he.symm (h j i hj hi h1)
/-- Connectedness as the reference finds it: the list of all that was seen is closed. -/
theorem conn_of_list (s seen : List C) (h0 : s0 s ∈ seen) (hsub : ∀ c ∈ seen, c ∈ s) (hnd : seen.Nodup) (hs : s.Nodup) (hr : ∀ c ∈ seen, Rch s (s0 s) c)
    (hcl : ∀ b ∈ seen, ∀ c ∈ s, near b c = true → c ∈ seen) : conn s = decide (seen.length = s.length) := by
  rw [Bool.eq_iff_iff, conn_iff, decide_eq_true_eq]
  constructor
  · intro h
    have all : ∀ c, Rch s (s0 s) c → c ∈ seen := by
      intro c hc
      induction hc with
      | base => exact h0
      | step _ hc hn ih => exact hcl _ ih _ hc hn
    have h1 := nodup_len s seen hs (fun c hc => all c (h c hc))
    have h2 := nodup_len seen s hnd hsub
    omega
  · intro h c hc
    exact hr c (nodup_full seen s hnd hsub h c hc)
/-- As the program finds it: the marks are closed. -/
def cnt (fl : List Bool) : Nat := fl.count true
theorem conn_of_marks (s : List C) (fl : List Bool) (hl : fl.length = s.length) (h0 : fl[0]? = some true) (hnd : s.Nodup)
    (hin : ∀ i (h : i < s.length), fl[i]? = some true → Rch s (s0 s) s[i])
    (hcl : ∀ i j (hi : i < s.length) (hj : j < s.length), fl[i]? = some true → near s[i] s[j] = true → fl[j]? = some true) : conn s = decide (cnt fl = s.length) := by
  have hpos : 0 < s.length := by
    rw [← hl]
    rcases Nat.eq_zero_or_pos fl.length with h | h
    · rw [List.getElem?_eq_none (by omega)] at h0; cases h0
    · exact h
  rw [Bool.eq_iff_iff, conn_iff, decide_eq_true_eq]
  unfold cnt
  rw [← hl, List.count_eq_length]
  constructor
  · intro h
    have all : ∀ c, Rch s (s0 s) c → ∃ i, ∃ h : i < s.length, s[i] = c ∧ fl[i]? = some true := by
      intro c hc
      induction hc with
      | base => exact ⟨0, hpos, by simp [s0, List.getD_eq_getElem?_getD, hpos], h0⟩
      | step _ hc hn ih =>
        obtain ⟨i, hi, rfl, hf⟩ := ih
        obtain ⟨j, hj, rfl⟩ := List.mem_iff_getElem.1 hc
        exact ⟨j, hj, rfl, hcl i j hi hj hf hn⟩
    intro b hb
    obtain ⟨j, hj, rfl⟩ := List.mem_iff_getElem.1 hb
    obtain ⟨i, hi, he, hf⟩ := all (s[j]'(by omega)) (h _ (List.getElem_mem _))
    obtain rfl := nodup_inj hnd hi (by omega) he
    rw [List.getElem?_eq_getElem hj] at hf
    injection hf with hf
    exact hf.symm
  · intro h c hc
    obtain ⟨i, hi, rfl⟩ := List.mem_iff_getElem.1 hc
    refine hin i hi ?_
    rw [List.getElem?_eq_getElem (by omega)]
    rw [← h _ (List.getElem_mem (by omega : i < fl.length))]
theorem cnt_set (fl : List Bool) (j : Nat) (h : fl[j]? = some false) : cnt (fl.set j true) = cnt fl + 1 := by
  unfold cnt
  induction fl generalizing j with
  | nil => simp at h
  | cons a t ih =>
    cases j with
    | zero =>
      simp at h
      subst h
      simp
    | succ j =>
      simp at h
      simp only [List.set_cons_succ, List.count_cons, ih j h]
      omega
theorem cnt_le (fl : List Bool) : cnt fl ≤ fl.length := List.count_le_length
end Go.Proofs.YtoedmmhiinhljaaGreatDoor

/- Cells in order, shapes in order, corners: plain functions. No program is in sight. -/
namespace Go.Proofs.YtoedmmhiinhljaaGreatDoor
open Go.RowKit
set_option linter.unusedVariables false
theorem befC_sto : STO befC where
  irr := befC_irr
  trans := fun h k => befC_trans h k
  tot := fun {a b} h k => by
    simp only [befC, Bool.or_eq_false_iff, Bool.and_eq_false_iff, decide_eq_false_iff_not, beq_eq_false_iff_ne] at h k
    refine Prod.ext ?_ ?_
    · rcases h.2 with h2 | h2
      · omega
      · rcases k.2 with k2 | k2 <;> omega
    · omega
/-- Lists of cells, by the first place where they differ. -/
def lexC : List C → List C → Bool
  | a :: s, b :: t => befC a b || (a == b && lexC s t)
  | _, _ => false
def ltS (s t : List C) : Bool := decide (s.length < t.length) || (s.length == t.length && lexC s t)
def cmpS (s t : List C) : Int := if ltS s t then -1 else if ltS t s then 1 else 0
theorem lexC_irr : ∀ s, lexC s s = false
  | [] => rfl
  | a :: s => by simp [lexC, befC_irr, lexC_irr s]
theorem lexC_trans : ∀ {a b c : List C}, lexC a b = true → lexC b c = true → lexC a c = true
  | [], _, _, h, _ => by simp [lexC] at h
  | _ :: _, [], _, h, _ => by simp [lexC] at h
  | _ :: _, _ :: _, [], _, h => by simp [lexC] at h
  | a :: s, b :: t, c :: u, h, k => by
    simp only [lexC, Bool.or_eq_true, Bool.and_eq_true, beq_iff_eq] at h k ⊢
    rcases h with h | ⟨rfl, h⟩
    · rcases k with k | ⟨rfl, k⟩
      · exact .inl (befC_trans h k)
      · exact .inl h
    · rcases k with k | ⟨rfl, k⟩
      · exact .inl k
      · exact .inr ⟨rfl, lexC_trans h k⟩
theorem lexC_tot : ∀ {a b : List C}, a.length = b.length → lexC a b = false → lexC b a = false → a = b
  | [], [], _, _, _ => rfl
  | [], _ :: _, h, _, _ => by simp at h
  | _ :: _, [], h, _, _ => by simp at h
  | a :: s, b :: t, hl, h, k => by
    simp only [lexC, Bool.or_eq_false_iff, Bool.and_eq_false_iff, beq_eq_false_iff_ne] at h k
    have e : a = b := befC_sto.tot h.1 k.1
    subst e
    rcases h.2 with h2 | h2
    · exact absurd rfl h2
    · rcases k.2 with k2 | k2
      · exact absurd rfl k2
      · rw [lexC_tot (by simpa using hl) h2 k2]
theorem ltS_sto : STO ltS where
  irr := fun a => by simp [ltS, lexC_irr]
  trans := fun {a b c} h k => by
    simp only [ltS, Bool.or_eq_true, Bool.and_eq_true, decide_eq_true_eq, beq_iff_eq] at h k ⊢
    rcases h with h | ⟨h1, h2⟩
    · left
      rcases k with k | k <;> omega
    · rcases k with k | ⟨k1, k2⟩
      · left; omega
      · exact .inr ⟨by omega, lexC_trans h2 k2⟩
  tot := fun {a b} h k => by
    simp only [ltS, Bool.or_eq_false_iff, Bool.and_eq_false_iff, decide_eq_false_iff_not, beq_eq_false_iff_ne] at h k
    have hl : a.length = b.length := by omega
    rcases h.2 with h2 | h2
    · exact absurd hl h2
    · rcases k.2 with k2 | k2
      · exact absurd hl.symm k2
      · exact lexC_tot hl h2 k2
theorem cmpS_neg (s t : List C) : decide (cmpS s t ≥ 0) = !ltS s t := by
  unfold cmpS
  cases ltS s t with
  | true => rfl
  | false =>
    simp only [Bool.false_eq_true, if_false]
    split <;> rfl
/-- From place k on. -/
theorem cmpS_len {s t : List C} (h : s.length < t.length) : cmpS s t = -1 := by
  unfold cmpS ltS
  rw [decide_eq_true h]
  rfl
theorem cmpS_len2 {s t : List C} (h : t.length < s.length) : cmpS s t = 1 := by
  have h1 : ltS s t = false := by simp only [ltS, Bool.or_eq_false_iff, Bool.and_eq_false_iff, decide_eq_false_iff_not, beq_eq_false_iff_ne]; omega
  have h2 : ltS t s = true := by unfold ltS; rw [decide_eq_true h]; rfl
  unfold cmpS
  rw [h1, h2]
  rfl
theorem cmpS_at {s t : List C} (hl : s.length = t.length) {k : Nat} (hk : k < s.length) (heq : s.take k = t.take k) (a b : C) (ha : s[k] = a) (hb : t[k]'(hl ▸ hk) = b) :
    (befC a b = true → cmpS s t = -1) ∧ (befC b a = true → cmpS s t = 1) := by
  have hlex : ∀ (k : Nat) (s t : List C) (hk : k < s.length) (hk2 : k < t.length), s.take k = t.take k → befC s[k] t[k] = true → lexC s t = true := by
    intro k
    induction k with
    | zero =>
      intro s t hk hk2 _ h
      cases s with
      | nil => simp at hk
      | cons x s =>
        cases t with
        | nil => simp at hk2
        | cons y t => simp only [List.getElem_cons_zero] at h; simp [lexC, h]
    | succ k ih =>
      intro s t hk hk2 he h
      cases s with
      | nil => simp at hk
      | cons x s =>
        cases t with
        | nil => simp at hk2
        | cons y t =>
          simp only [List.take_succ_cons, List.cons.injEq] at he
          simp only [List.getElem_cons_succ] at h
          simp only [lexC, Bool.or_eq_true, Bool.and_eq_true, beq_iff_eq]
          exact .inr ⟨he.1, ih s t (by simpa using hk) (by simpa using hk2) he.2 h⟩
  refine ⟨fun h => ?_, fun h => ?_⟩
  · have h1 : ltS s t = true := by
      unfold ltS
      rw [hlex k s t hk (hl ▸ hk) heq (by rw [ha, hb]; exact h)]
      simp [hl]
    unfold cmpS
    rw [h1]
    rfl
  · have h1 : ltS t s = true := by
      unfold ltS
      rw [hlex k t s (hl ▸ hk) hk heq.symm (by rw [ha, hb]; exact h)]
      simp [hl]
    unfold cmpS
    rw [h1, ltS_sto.asym h1]
    rfl
theorem cmpS_eq (s : List C) : cmpS s s = 0 := by
  unfold cmpS
  rw [ltS_sto.irr]
  rfl
theorem take_eq_step {α : Type} {s t : List α} {k : Nat} (hk : k < s.length) (hk2 : k < t.length) (h : s.take k = t.take k) (he : s[k] = t[k]) : s.take (k + 1) = t.take (k + 1) := by
  rw [List.take_succ_eq_append_getElem hk, List.take_succ_eq_append_getElem hk2, h, he]
theorem take_eq_all {α : Type} {s t : List α} (hl : s.length = t.length) {k : Nat} (hk : s.length ≤ k) (h : s.take k = t.take k) : s = t := by
  rwa [List.take_of_length_le hk, List.take_of_length_le (by omega)] at h
/-- The least number of a list, that is not empty, from its first element on. -/
def minTo (f : C → Int) (s : List C) : Nat → Int
  | 0 => f (s.getD 0 default)
  | k + 1 => if f (s.getD k default) < minTo f s k then f (s.getD k default) else minTo f s k
def minC (f : C → Int) (s : List C) : Int := minTo f s s.length
theorem minTo_le (f : C → Int) (s : List C) : ∀ k, k ≤ s.length → ∀ c ∈ s.take k, minTo f s k ≤ f c
  | 0, _, c, h => by simp at h
  | k + 1, hk, c, h => by
    have hkl : k < s.length := by omega
    rw [List.take_succ_eq_append_getElem hkl] at h
    have e : s.getD k default = s[k] := by rw [List.getD_eq_getElem?_getD, List.getElem?_eq_getElem hkl]; rfl
    unfold minTo
    rw [e]
    rcases List.mem_append.1 h with h | h
    · have := minTo_le f s k (by omega) c h
      split <;> omega
    · simp only [List.mem_singleton] at h
      subst h
      split <;> omega
theorem minTo_at (f : C → Int) (s : List C) (h0 : 0 < s.length) : ∀ k, k ≤ s.length → ∃ c ∈ s, minTo f s k = f c
  | 0, _ => ⟨s.getD 0 default, getD_mem h0, rfl⟩
  | k + 1, hk => by
    unfold minTo
    split
    · exact ⟨_, getD_mem (by omega), rfl⟩
    · exact minTo_at f s h0 k (by omega)
theorem minC_le (f : C → Int) {s : List C} {c : C} (h : c ∈ s) : minC f s ≤ f c := minTo_le f s s.length (Nat.le_refl _) c (by rw [List.take_length]; exact h)
theorem minC_at (f : C → Int) {s : List C} (h0 : 0 < s.length) : ∃ c ∈ s, minC f s = f c := minTo_at f s h0 s.length (Nat.le_refl _)
theorem minC_uniq (f : C → Int) {s : List C} (h0 : 0 < s.length) {m : Int} (h1 : ∃ c ∈ s, m = f c) (h2 : ∀ c ∈ s, m ≤ f c) : minC f s = m := by
  obtain ⟨c, hc, e⟩ := minC_at f h0
  obtain ⟨d, hd, e2⟩ := h1
  have := minC_le f hd
  have := h2 c hc
  omega
theorem minC_same (f : C → Int) {s t : List C} (h0 : 0 < s.length) (h1 : 0 < t.length) (h : ∀ x, x ∈ s ↔ x ∈ t) : minC f s = minC f t := by
  obtain ⟨c, hc, e⟩ := minC_at f h1
  exact minC_uniq f h0 ⟨c, (h c).2 hc, e⟩ fun d hd => minC_le f ((h d).1 hd)
/-- Moved. -/
def mv (s : List C) (x y : Int) : List C := s.map fun c => (c.1 + x, c.2 + y)
theorem mv_len (s : List C) (x y : Int) : (mv s x y).length = s.length := by simp [mv]
theorem mv_take (s : List C) (x y : Int) (k : Nat) (hk : k < s.length) : mv (s.take (k + 1)) x y = mv (s.take k) x y ++ [(s[k].1 + x, s[k].2 + y)] := by
  rw [List.take_succ_eq_append_getElem hk]
  show List.map _ (_ ++ _) = _
  rw [List.map_append]
  rfl
theorem mv_inc {s : List C} (h : IncG befC s) (x y : Int) : IncG befC (mv s x y) := by
  unfold IncG mv
  rw [List.pairwise_map]
  refine h.imp fun {a b} hab => ?_
  simp only [befC, Bool.or_eq_true, Bool.and_eq_true, decide_eq_true_eq, beq_iff_eq] at hab ⊢
  omega
theorem mv_mem (s : List C) (x y : Int) (c : C) : c ∈ mv s x y ↔ (c.1 - x, c.2 - y) ∈ s := by
  simp only [mv, List.mem_map]
  constructor
  · rintro ⟨d, hd, rfl⟩
    have e : ((d.1 + x - x, d.2 + y - y) : C) = d := Prod.ext (by simp) (by simp)
    simpa [e] using hd
  · intro h
    exact ⟨_, h, Prod.ext (by simp) (by simp)⟩
/-- To the corner: the program's way, the reference's way. -/
def sortC (s : List C) : List C := sortG befC s
def cornI (s : List C) : List C := sortC (mv s (-(minC (·.1) s)) (-(minC (·.2) s)))
def cornS (s : List C) : List C := mv s (-(minC (·.1) s)) (-(minC (·.2) s))
theorem sortC_ne {s : List C} (h : 0 < s.length) : 0 < (sortC s).length := by
  obtain ⟨h1, h2⟩ := sortG_inc befC_sto s
  exact List.length_pos_of_mem ((h2 _).2 (List.getElem_mem h))
theorem sortC_mem (s : List C) (c : C) : c ∈ sortC s ↔ c ∈ s := (sortG_inc befC_sto s).2 c
theorem sortC_inc (s : List C) : IncG befC (sortC s) := (sortG_inc befC_sto s).1
theorem sortC_id {s : List C} (h : IncG befC s) : sortC s = s := sortG_id befC_sto h
theorem corn_eq {s : List C} (h : 0 < s.length) : cornI s = cornS (sortC s) := by
  unfold cornI cornS
  rw [minC_same (·.1) (sortC_ne h) h (sortC_mem s), minC_same (·.2) (sortC_ne h) h (sortC_mem s)]
  refine incG_eq befC_sto _ _ (sortC_inc _) (mv_inc (sortC_inc s) _ _) fun c => ?_
  rw [sortC_mem, mv_mem, mv_mem, sortC_mem]
theorem sortC_len (s : List C) : (sortC s).length ≤ s.length := sortG_len s
theorem cornI_len (s : List C) : (cornI s).length ≤ s.length := by
  have := sortC_len (mv s (-(minC (·.1) s)) (-(minC (·.2) s)))
  rwa [mv_len] at this
theorem isShape_inc {l : List C} (h : isShape l = true) : IncG befC l := by
  rw [IncG, List.pairwise_iff_getElem]
  intro i j hi hj hij
  exact shape_bef h j i hj hij
theorem minC_small {s : List C} (h0 : 0 < s.length) (h : ∀ c ∈ s, small c) : (-1000 ≤ minC (·.1) s ∧ minC (·.1) s ≤ 1000) ∧ (-1000 ≤ minC (·.2) s ∧ minC (·.2) s ≤ 1000) := by
  obtain ⟨c, hc, e⟩ := minC_at (·.1) h0
  obtain ⟨d, hd, e2⟩ := minC_at (·.2) h0
  have h1 := h c hc
  have h2 := h d hd
  unfold small at h1 h2
  rw [e, e2]
  exact ⟨h1.1, h2.2⟩
end Go.Proofs.YtoedmmhiinhljaaGreatDoor

/- Shapes turned, their orientations: plain functions. No program is in sight. -/
namespace Go.Proofs.YtoedmmhiinhljaaGreatDoor
open Go.RowKit
set_option linter.unusedVariables false
/-- A cell turned. -/
def rotC : Nat → C → C
  | 0, c => c
  | k + 1, c => (-(rotC k c).2, (rotC k c).1)
def flipC (m : Nat) (c : C) : C := if 4 ≤ m then (-c.1, c.2) else c
def motC (m : Nat) (c : C) : C := rotC (m % 4) (flipC m c)
def in7 (b : Int) (c : C) : Prop := (-b ≤ c.1 ∧ c.1 ≤ b) ∧ (-b ≤ c.2 ∧ c.2 ≤ b)
theorem in7_rot {b : Int} {c : C} (h : in7 b c) : ∀ k, in7 b (rotC k c)
  | 0 => h
  | k + 1 => by
    have := in7_rot h k
    unfold in7 at this ⊢
    simp only [rotC]
    omega
theorem in7_flip {b : Int} {c : C} (h : in7 b c) (m : Nat) : in7 b (flipC m c) := by
  unfold in7 at h ⊢
  unfold flipC
  split
  · simp only; omega
  · exact h
theorem in7_mot {b : Int} {c : C} (h : in7 b c) (m : Nat) : in7 b (motC m c) := in7_rot (in7_flip h m) _
theorem in7_onB {c : C} (h : onB c = true) : in7 7 c := by
  simp [onB] at h
  unfold in7
  omega
/-- A shape turned, in its corner. -/
def turnV (s : List C) (m : Nat) : List C := cornI (s.map (motC m))
theorem turn_in {s : List C} (hs : isShape s = true) (m : Nat) : ∀ c ∈ s.map (motC m), in7 7 c := by
  intro c hc
  obtain ⟨d, hd, rfl⟩ := List.mem_map.1 hc
  exact in7_mot (in7_onB (shape_onB hs d hd)) m
theorem corn_in {s : List C} (h0 : 0 < s.length) (h : ∀ c ∈ s, in7 7 c) : ∀ c ∈ cornI s, (0 ≤ c.1 ∧ c.1 ≤ 14) ∧ (0 ≤ c.2 ∧ c.2 ≤ 14) := by
  intro c hc
  unfold cornI at hc
  rw [sortC_mem, mv_mem] at hc
  have h1 := h _ hc
  have h2 := minC_le (·.1) hc
  have h3 := minC_le (·.2) hc
  obtain ⟨d, hd, e⟩ := minC_at (·.1) h0
  obtain ⟨f, hf, e2⟩ := minC_at (·.2) h0
  have h4 := h d hd
  have h5 := h f hf
  unfold in7 at h1 h4 h5
  simp only at h1 h2 h3
  omega
theorem turn_small {s : List C} (hs : isShape s = true) (m : Nat) : ∀ c ∈ turnV s m, (0 ≤ c.1 ∧ c.1 ≤ 14) ∧ (0 ≤ c.2 ∧ c.2 ≤ 14) :=
  corn_in (by have := (shape_len hs).1; rw [List.length_map]; omega) (turn_in hs m)
theorem turn_len {s : List C} (hs : isShape s = true) (m : Nat) : 1 ≤ (turnV s m).length ∧ (turnV s m).length ≤ 8 := by
  have h1 := shape_len hs
  have h2 := cornI_len (s.map (motC m))
  rw [List.length_map] at h2
  refine ⟨?_, by unfold turnV; omega⟩
  have h3 : 0 < (mv (s.map (motC m)) (-(minC (·.1) (s.map (motC m)))) (-(minC (·.2) (s.map (motC m))))).length := by rw [mv_len, List.length_map]; omega
  exact sortC_ne h3
/-- The orientations on the way. -/
def orTo (s : List C) : Nat → List (List C)
  | 0 => []
  | k + 1 => putG ltS (orTo s k) (turnV s k)
def orV (s : List C) : List (List C) := if isShape s then orTo s 8 else []
theorem orTo_inc (s : List C) : ∀ k, IncG ltS (orTo s k)
  | 0 => List.Pairwise.nil
  | k + 1 => (putG_inc ltS_sto (orTo_inc s k) _).1
theorem orTo_mem (s : List C) : ∀ k x, x ∈ orTo s k → ∃ m, m < k ∧ x = turnV s m
  | 0, x, h => by simp [orTo] at h
  | k + 1, x, h => by
    rcases ((putG_inc ltS_sto (orTo_inc s k) _).2 x).1 h with h | h
    · obtain ⟨m, hm, e⟩ := orTo_mem s k x h
      exact ⟨m, by omega, e⟩
    · exact ⟨k, by omega, h⟩
theorem orTo_len (s : List C) : ∀ k, (orTo s k).length ≤ k
  | 0 => by simp [orTo]
  | k + 1 => by
    have h1 := orTo_len s k
    have h2 := putG_len (lt := ltS) (orTo s k) (turnV s k)
    show (putG ltS (orTo s k) (turnV s k)).length ≤ _
    omega
theorem orV_fine {s : List C} : ∀ t ∈ orV s, (1 ≤ t.length ∧ t.length ≤ 8) ∧ ∀ c ∈ t, (0 ≤ c.1 ∧ c.1 ≤ 14) ∧ (0 ≤ c.2 ∧ c.2 ≤ 14) := by
  intro t ht
  unfold orV at ht
  split at ht
  · next hs =>
    obtain ⟨m, _, rfl⟩ := orTo_mem s 8 t ht
    exact ⟨turn_len hs m, turn_small hs m⟩
  · simp at ht
theorem orV_len (s : List C) : (orV s).length ≤ 8 := by
  unfold orV
  split
  · exact orTo_len s 8
  · simp
end Go.Proofs.YtoedmmhiinhljaaGreatDoor

/- 'append(append(append([]T{}, a...), x), b...)' in a region that draws its order: the two literals may be made in either order. -/
namespace Go.Proofs.YtoedmmhiinhljaaGreatDoor
open Go.RowKit
set_option linter.unusedVariables false
section
variable {P : Program} {ops : Array Oper} {md : Region.Mode} {C : World → Prop} {Q : Exit → Act → World → Prop}
theorem rg_one {f i : Nat} {o : Oper} {listed : Array Bool} {a : Act} {w : World} (hr : Region.ready md ops listed = [i]) (hi : ops[i]? = some o) (hg : o.guard = none)
    (h : ∀ w', C w' → Ext w w' → o.wp P a w' (fun a' w'' => C w'' ∧ wpRg P md ops C Q f (listed.setIfInBounds i true) a' w'') Q) : wpRg P md ops C Q (f + 1) listed a w := by
  refine ⟨fun e => by rw [hr] at e; simp at e, fun j hj w' hc he => ?_⟩
  rw [hr] at hj
  obtain rfl : j = i := by simpa using hj
  unfold wpOp
  simp only [hi]
  rw [if_pos (by simp [Region.wanted, hg])]
  exact .inl (h w' hc he)
theorem rg_two {f i k : Nat} {o o2 : Oper} {listed : Array Bool} {a : Act} {w : World} (hr : Region.ready md ops listed = [i, k]) (hi : ops[i]? = some o) (hg : o.guard = none) (hk : ops[k]? = some o2) (hg2 : o2.guard = none)
    (h : ∀ w', C w' → Ext w w' → o.wp P a w' (fun a' w'' => C w'' ∧ wpRg P md ops C Q f (listed.setIfInBounds i true) a' w'') Q)
    (h2 : ∀ w', C w' → Ext w w' → o2.wp P a w' (fun a' w'' => C w'' ∧ wpRg P md ops C Q f (listed.setIfInBounds k true) a' w'') Q) : wpRg P md ops C Q (f + 1) listed a w := by
  refine ⟨fun e => by rw [hr] at e; simp at e, fun j hj w' hc he => ?_⟩
  rw [hr] at hj
  unfold wpOp
  rcases (by simpa using hj : j = i ∨ j = k) with rfl | rfl
  · simp only [hi]
    rw [if_pos (by simp [Region.wanted, hg])]
    exact .inl (h w' hc he)
  · simp only [hk]
    rw [if_pos (by simp [Region.wanted, hg2])]
    exact .inl (h2 w' hc he)
end
section
variable {P : Program} {ops : Array Oper} {C : World → Prop} {Q : Exit → Act → World → Prop} {w0 : World}
theorem wp_region_rg {id : Nat} {a : Act} {w : World} {l : List Oper} (n : Nat) (hl : l.length = n) (hm : P.follows .mixedOrders = true) (h : wpRg P .any l.toArray (ExC w) (NoPanic Q) n (Array.replicate n false) a w) : (Code.region id l.toArray true).wp P Q a w := by
  subst hl
  exact wp_region_noPanic (wp_region_any hm (wpAny_of_wpRg _ _ _ _ (ExC.drawn w) (wpRg_ext h (ExC.drawn w))))
/-- An operation that only reads is taken first. -/
theorem rgT {i d : Nat} {oi : Oper} {v : Value} {f : Nat} {listed : Array Bool} {ts : Array Value} {ds : List Deferred} {w : World} (hi : ops[i]? = some oi) (hd : oi.dst = some d)
    (hs : Region.noSelect ops = true) (hf : Region.free .any ops listed i = true) (hr : (Region.ready .any ops listed).contains i = true) (hw : Region.wanted oi (yielded ops ts) = true)
    (hy : ∀ w', ExC w0 w' → oi.quietAt P { tmps := ts, defers := ds } (Ext w') w' v)
    (h : wpRg P .any ops (ExC w0) (NoPanic Q) f (listed.setIfInBounds i true) { tmps := ts.setIfInBounds d v, defers := ds } w) : wpRg P .any ops (ExC w0) (NoPanic Q) (f + 1) listed { tmps := ts, defers := ds } w :=
  wpRg_first (fun _ _ h k => h.ext k) hi (Region.noSelect_spec hs) (fun _ _ _ h => h) f listed _ w (Region.free_spec hi hf) (by simpa using hr) (.inl ⟨hw, hy⟩) (by rw [hd]; exact h)
end
/-- a is a0 but for some slots. -/
structure Fr (S : List Nat) (a0 a : Act) : Prop where
  size : a.tmps.size = a0.tmps.size
  defers : a.defers = a0.defers
  same : ∀ t, t ∉ S → a.tmps[t]? = a0.tmps[t]?
theorem Fr.refl (S : List Nat) (a : Act) : Fr S a a := ⟨rfl, rfl, fun _ _ => rfl⟩
theorem Fr.put {S : List Nat} {a0 a : Act} (h : Fr S a0 a) {d : Nat} (hd : d ∈ S) (v : Value) : Fr S a0 (a.put (some d) v) := by
  refine ⟨by simp [Act.put, h.size], h.defers, fun t ht => ?_⟩
  have hne : d ≠ t := by rintro rfl; exact ht hd
  simp only [Act.put, Array.getElem?_setIfInBounds_ne hne]
  exact h.same t ht
theorem Fr.eval {S : List Nat} {a0 a : Act} (h : Fr S a0 a) {t : Nat} (ht : t ∉ S) : a.eval (.tmp t) = a0.eval (.tmp t) := by
  simp only [Act.eval, Array.getD_eq_getD_getElem?, h.same t ht]
theorem put_eval {a : Act} {d : Nat} (v : Value) (hd : d < a.tmps.size) : (a.put (some d) v).eval (.tmp d) = v := by simp [Act.eval, Act.put, hd]
theorem put_eval_ne {a : Act} {d t : Nat} (v : Value) (hne : d ≠ t) : (a.put (some d) v).eval (.tmp t) = a.eval (.tmp t) := by
  simp [Act.eval, Act.put, Array.getElem?_setIfInBounds_ne hne]
section
variable {P : Program} {o : Oper} {a : Act} {w : World} {K : Act → World → Prop} {Q : Exit → Act → World → Prop}
theorem wp_val {v : Value} {w' : World} (h : (execOp a.eval o).run P w = .ok (.value v) w') (hk : K (a.put o.dst v) w') : o.wp P a w K Q := by
  unfold Oper.wp
  rw [h]
  exact hk
end
theorem agree_set {S : List Nat} {s : Nat} {ts X : Array Value} (hz : ts.size = X.size) (h : ∀ t, t ∉ s :: S → ts[t]? = X[t]?) : ∀ t, t ∉ S → ts[t]? = (X.setIfInBounds s (ts.getD s undef))[t]? := by
  intro t ht
  by_cases e : s = t
  · subst e
    rcases Nat.lt_or_ge s ts.size with hl | hl
    · rw [Array.getElem?_setIfInBounds_self_of_lt (by omega), Array.getD_eq_getD_getElem?, Array.getElem?_eq_getElem hl]; rfl
    · rw [Array.getElem?_eq_none hl, Array.getElem?_eq_none (by simp; omega)]
  · rw [Array.getElem?_setIfInBounds_ne e]
    exact h t (by simp [Ne.symm e, ht])
theorem Fr.form {s0 sA sN sB sD dE : Nat} {a0 a : Act} (h : Fr [s0, sA, sN, sB, sD, dE] a0 a) {v : Value} (hv : a.eval (.tmp dE) = v) :
    ∃ v0 vA vN vB vD, a = { tmps := (((((a0.tmps.setIfInBounds s0 v0).setIfInBounds sA vA).setIfInBounds sN vN).setIfInBounds sB vB).setIfInBounds sD vD).setIfInBounds dE v, defers := a0.defers } := by
  refine ⟨a.tmps.getD s0 undef, a.tmps.getD sA undef, a.tmps.getD sN undef, a.tmps.getD sB undef, a.tmps.getD sD undef, ?_⟩
  have h1 := agree_set h.size h.same
  have h2 := agree_set (by simp [h.size]) h1
  have h3 := agree_set (by simp [h.size]) h2
  have h4 := agree_set (by simp [h.size]) h3
  have h5 := agree_set (by simp [h.size]) h4
  have h6 := agree_set (by simp [h.size]) h5
  have e : a.tmps = _ := Array.ext_getElem? fun t => h6 t (by simp)
  have hv' : a.tmps.getD dE undef = v := hv
  rw [hv'] at e
  obtain ⟨ts, ds⟩ := a
  have hd := h.defers
  simp only at hd e
  subst hd
  rw [← e]
/-- What is known of the region's six operations. -/
structure InsOps (P : Program) (ops : Array Oper) (T e : TypeId) (i0 iA iN iB iD iE s0 sA sN sB sD dE t1 t2 : Nat) (vn : Value) (news : List Value) (xn : Operand) : Prop where
  p0 : ∃ o : Oper, ops[i0]? = some o ∧ o.guard = none ∧ o.dst = some s0 ∧ ∀ a w, (execOp (Act.eval a) o).run P w = .ok (.value (.slice (some ⟨w.heap.size, 0, none⟩) 0 0)) (w.alloc (.cells #[] e))
  pA : ∃ o : Oper, ops[iA]? = some o ∧ o.guard = none ∧ o.dst = some sA ∧ o.op = .call { callee := .builtin .append, args := #[.tmp s0, .tmp t1], argTypes := #[T, T] }
  pN : ∃ o : Oper, ops[iN]? = some o ∧ o.guard = none ∧ o.dst = some sN ∧ ∀ a w, a.eval xn = vn → (execOp (Act.eval a) o).run P w = .ok (.value (.slice (some ⟨w.heap.size, 0, none⟩) 1 1)) (w.alloc (.cells news.toArray e))
  pB : ∃ o : Oper, ops[iB]? = some o ∧ o.guard = none ∧ o.dst = some sB ∧ o.op = .call { callee := .builtin .append, args := #[.tmp sA, .tmp sN], argTypes := #[T, T] }
  pD : ∃ o : Oper, ops[iD]? = some o ∧ o.guard = none ∧ o.dst = some sD ∧ o.op = .call { callee := .builtin .append, args := #[.tmp sB, .tmp t2], argTypes := #[T, T] }
  pE : ∃ o : Oper, ops[iE]? = some o ∧ o.guard = none ∧ o.dst = some dE ∧ o.op = .assign (.tmp sD)
/-- The slots differ. -/
structure InsSlots (s0 sA sN sB sD dE t1 t2 : Nat) (a0 : Act) : Prop where
  lt : s0 < a0.tmps.size ∧ sA < a0.tmps.size ∧ sN < a0.tmps.size ∧ sB < a0.tmps.size ∧ sD < a0.tmps.size ∧ dE < a0.tmps.size
  ne : s0 ≠ sN ∧ sA ≠ sN
  t1n : t1 ∉ [s0, sA, sN, sB, sD, dE]
  t2n : t2 ∉ [s0, sA, sN, sB, sD, dE]
section
variable {P : Program} {ops : Array Oper} {md : Region.Mode} {Q : Exit → Act → World → Prop}
variable {T e : TypeId} {i : TypeInfo} {z : Value} {size bytes : Nat} {i0 iA iN iB iD iE s0 sA sN sB sD dE t1 t2 : Nat} {vn : Value} {vs1 news vs2 : List Value} {xn : Operand} {A1 A2 : Option Addr} {m1 c1 m2 c2 : Nat} {a0 : Act} {w0 : World}
/-- The last two: the second append, the assignment. -/
theorem ins_3 (L : Array Bool) (ht : P.underlying T = some (.slice e)) (hi : P.info? e = some i) (hz : i.zero = some z) (hsize : i.size = size) (hby : i.bytes = bytes) (hzs : z.cells.size = size) (hsz : 0 < size)
    (ho : InsOps P ops T e i0 iA iN iB iD iE s0 sA sN sB sD dE t1 t2 vn news xn) (hs : InsSlots s0 sA sN sB sD dE t1 t2 a0)
    (hrD : Region.ready md ops L = [iD]) (hrE : Region.ready md ops (L.setIfInBounds iD true) = [iE]) (hrF : Region.ready md ops ((L.setIfInBounds iD true).setIfInBounds iE true) = [])
    (e2 : a0.eval (.tmp t2) = .slice A2 m2 c2) (r2 : Rd w0 A2 vs2) (l2 : vs2.length = m2 * size) (h2 : ∀ u ∈ vs2, u.oneCell' = true) (hm : m1 + 1 + m2 ≤ 1099511627776) (hbs : bytes ≤ 64)
    (hQ : ∀ a' w' A' c', Fr [s0, sA, sN, sB, sD, dE] a0 a' → a'.eval (.tmp dE) = .slice A' (m1 + 1 + m2) c' → w'.ownsRow w0.heap.size e size (.slice A' (m1 + 1 + m2) c') (m1 + 1 + m2) (vs1 ++ news ++ vs2) → Ext w0 w' → Q .normal a' w')
    (a : Act) (w : World) (hf : Fr [s0, sA, sN, sB, sD, dE] a0 a) (hx : Ext w0 w) {B : Option Addr} {cB : Nat} (eB : a.eval (.tmp sB) = .slice B (m1 + 1) cB) (oB : w.ownsRow w0.heap.size e size (.slice B (m1 + 1) cB) (m1 + 1) (vs1 ++ news)) :
    wpRg P md ops (ExC w0) Q 2 L a w := by
  obtain ⟨oD, d1, d2, d3, d4⟩ := ho.pD
  obtain ⟨oE, f1, f2, f3, f4⟩ := ho.pE
  refine rg_one hrD d1 d2 fun w1 hc1 he1 => ?_
  have hz1 := hc1.size
  refine wp_app w1 _ _ T d4 w0.heap.size e i z size bytes ht hi hz hsize hby hzs hsz B (m1 + 1) cB _ eB (own_keep oB he1) A2 m2 c2 vs2 (by rw [hf.eval hs.t2n]; exact e2) (r2.below hc1) l2 h2 (by unfold maxLen; omega)
    (Nat.le_trans (Nat.mul_le_mul hm hbs) (by omega)) hz1 ?_
  intro A' c' w2 o2 g2 at2
  have hx2 : Ext w0 w2 := bel_app hc1 g2 (fun g h => (own_lt oB g h).1)
  refine ⟨hx2, ?_⟩
  rw [d3]
  refine rg_one hrE f1 f2 fun w3 hc3 he3 => ?_
  have hlt := hs.lt
  have hf2 : Fr [s0, sA, sN, sB, sD, dE] a0 (a.put (some sD) (.slice A' (m1 + 1 + m2) c')) := hf.put (by simp) _
  have eD : (a.put (some sD) (.slice A' (m1 + 1 + m2) c')).eval (.tmp sD) = .slice A' (m1 + 1 + m2) c' := put_eval _ (by rw [hf.size]; exact hlt.2.2.2.2.1)
  refine wp_val (BigFrame.run_assign (.tmp sD) f4 _) ⟨hc3, ?_⟩
  rw [eD, f3]
  refine ⟨hrF, fun w4 hc4 he4 => ?_⟩
  exact hQ _ _ A' c' (hf2.put (by simp) _) (put_eval _ (by rw [hf2.size]; exact hlt.2.2.2.2.2)) (own_keep (own_keep o2 he3) he4) hc4
/-- The first append's slice and the new element are there. -/
theorem ins_2 (L : Array Bool) (ht : P.underlying T = some (.slice e)) (hi : P.info? e = some i) (hz : i.zero = some z) (hsize : i.size = size) (hby : i.bytes = bytes) (hzs : z.cells.size = size) (hsz : 0 < size)
    (ho : InsOps P ops T e i0 iA iN iB iD iE s0 sA sN sB sD dE t1 t2 vn news xn) (hs : InsSlots s0 sA sN sB sD dE t1 t2 a0)
    (hrB : Region.ready md ops L = [iB]) (hm : m1 + 1 + m2 ≤ 1099511627776) (hbs : bytes ≤ 64) (ln : news.length = size) (hn : ∀ u ∈ news, u.oneCell' = true)
    (h3 : ∀ a w B cB, Fr [s0, sA, sN, sB, sD, dE] a0 a → Ext w0 w → a.eval (.tmp sB) = .slice B (m1 + 1) cB → w.ownsRow w0.heap.size e size (.slice B (m1 + 1) cB) (m1 + 1) (vs1 ++ news) → wpRg P md ops (ExC w0) Q 2 (L.setIfInBounds iB true) a w)
    (a : Act) (w : World) (hf : Fr [s0, sA, sN, sB, sD, dE] a0 a) (hx : Ext w0 w) {B : Option Addr} {cB : Nat} (eA : a.eval (.tmp sA) = .slice B m1 cB) (oA : w.ownsRow w0.heap.size e size (.slice B m1 cB) m1 vs1)
    {N : Option Addr} {cN : Nat} (eN : a.eval (.tmp sN) = .slice N 1 cN) (rN : Rd w N news) : wpRg P md ops (ExC w0) Q 3 L a w := by
  obtain ⟨oB, d1, d2, d3, d4⟩ := ho.pB
  refine rg_one hrB d1 d2 fun w1 hc1 he1 => ?_
  have hz1 := hc1.size
  refine wp_app w1 _ _ T d4 w0.heap.size e i z size bytes ht hi hz hsize hby hzs hsz B m1 cB _ eA (own_keep oA he1) N 1 cN news eN (rN.below he1) (by rw [ln]; omega) hn (by unfold maxLen; omega)
    (Nat.le_trans (Nat.mul_le_mul (show m1 + 1 ≤ 1099511627776 by omega) hbs) (by omega)) hz1 ?_
  intro A' c' w2 o2 g2 at2
  have hx2 : Ext w0 w2 := bel_app hc1 g2 (fun g h => (own_lt oA g h).1)
  refine ⟨hx2, ?_⟩
  rw [d3]
  exact h3 _ _ A' c' (hf.put (by simp) _) hx2 (put_eval _ (by rw [hf.size]; exact hs.lt.2.2.2.1)) o2
/-- The whole tail. -/
theorem ins_tail (L : Array Bool) (ht : P.underlying T = some (.slice e)) (hi : P.info? e = some i) (hz : i.zero = some z) (hsize : i.size = size) (hby : i.bytes = bytes) (hzs : z.cells.size = size) (hsz : 0 < size)
    (ho : InsOps P ops T e i0 iA iN iB iD iE s0 sA sN sB sD dE t1 t2 vn news xn) (hs : InsSlots s0 sA sN sB sD dE t1 t2 a0) (hxn : ∀ a, Fr [s0, sA, sN, sB, sD, dE] a0 a → a.eval xn = vn)
    (r_ : Region.ready md ops L = [i0, iN]) (r0 : Region.ready md ops (L.setIfInBounds i0 true) = [iA, iN]) (rN : Region.ready md ops (L.setIfInBounds iN true) = [i0])
    (r0A : Region.ready md ops ((L.setIfInBounds i0 true).setIfInBounds iA true) = [iN]) (r0N : Region.ready md ops ((L.setIfInBounds i0 true).setIfInBounds iN true) = [iA])
    (i0N : i0 ≠ iN) (iAN : iA ≠ iN)
    (rB : Region.ready md ops (((L.setIfInBounds i0 true).setIfInBounds iA true).setIfInBounds iN true) = [iB])
    (rD : Region.ready md ops ((((L.setIfInBounds i0 true).setIfInBounds iA true).setIfInBounds iN true).setIfInBounds iB true) = [iD])
    (rE : Region.ready md ops (((((L.setIfInBounds i0 true).setIfInBounds iA true).setIfInBounds iN true).setIfInBounds iB true).setIfInBounds iD true) = [iE])
    (rF : Region.ready md ops ((((((L.setIfInBounds i0 true).setIfInBounds iA true).setIfInBounds iN true).setIfInBounds iB true).setIfInBounds iD true).setIfInBounds iE true) = [])
    (e1 : a0.eval (.tmp t1) = .slice A1 m1 c1) (q1 : Rd w0 A1 vs1) (l1 : vs1.length = m1 * size) (h1 : ∀ u ∈ vs1, u.oneCell' = true)
    (e2 : a0.eval (.tmp t2) = .slice A2 m2 c2) (q2 : Rd w0 A2 vs2) (l2 : vs2.length = m2 * size) (h2 : ∀ u ∈ vs2, u.oneCell' = true)
    (ln : news.length = size) (hn : ∀ u ∈ news, u.oneCell' = true) (hm : m1 + 1 + m2 ≤ 1099511627776) (hbs : bytes ≤ 64)
    (hQ : ∀ a' w' A' c', Fr [s0, sA, sN, sB, sD, dE] a0 a' → a'.eval (.tmp dE) = .slice A' (m1 + 1 + m2) c' → w'.ownsRow w0.heap.size e size (.slice A' (m1 + 1 + m2) c') (m1 + 1 + m2) (vs1 ++ news ++ vs2) → Ext w0 w' → Q .normal a' w') :
    wpRg P md ops (ExC w0) Q 6 L a0 w0 := by
  obtain ⟨o0, a1, a2, a3, a4⟩ := ho.p0
  obtain ⟨oA, b1, b2, b3, b4⟩ := ho.pA
  obtain ⟨oN, n1, n2, n3, n4⟩ := ho.pN
  have hlt := hs.lt
  have hsz0 : ∀ w : World, (w.alloc (.cells (#[] : Array Value) e)).ownsRow w.heap.size e size (.slice (some ⟨w.heap.size, 0, none⟩) 0 0) 0 [] := fun w => own_new w e size 0 #[] (by simp) (by simp [maxLen]) (Nat.le_refl _)
  -- behind the first append and the element
  have S2 : ∀ (a : Act) (w : World), Fr [s0, sA, sN, sB, sD, dE] a0 a → Ext w0 w → ∀ (B : Option Addr) (cB : Nat), a.eval (.tmp sA) = .slice B m1 cB → w.ownsRow w0.heap.size e size (.slice B m1 cB) m1 vs1 → ∀ (N : Option Addr) (cN : Nat), a.eval (.tmp sN) = .slice N 1 cN → Rd w N news →
      wpRg P md ops (ExC w0) Q 3 (((L.setIfInBounds i0 true).setIfInBounds iA true).setIfInBounds iN true) a w := fun a w hf hx B cB eA oA' N cN eN rN' =>
    ins_2 (m2 := m2) _ ht hi hz hsize hby hzs hsz ho hs rB hm hbs ln hn (fun a w B cB hf hx eB oB' => ins_3 _ ht hi hz hsize hby hzs hsz ho hs rD rE rF e2 q2 l2 h2 hm hbs hQ a w hf hx eB oB') a w hf hx eA oA' eN rN'
  -- the first append
  have SA : ∀ (a : Act) (w : World) (f : Nat) (L' : Array Bool), Fr [s0, sA, sN, sB, sD, dE] a0 a → Ext w0 w → ∀ (B : Option Addr) (cB : Nat), a.eval (.tmp s0) = .slice B 0 cB → w.ownsRow w0.heap.size e size (.slice B 0 cB) 0 [] →
      ∀ K : Act → World → Prop, (∀ A' c' w', Fr [s0, sA, sN, sB, sD, dE] a0 (a.put (some sA) (.slice A' m1 c')) → Ext w0 w' → w'.ownsRow w0.heap.size e size (.slice A' m1 c') m1 vs1 → w.grownBy w' (ob B) → (∀ g, ob B = some g → w0.heap.size ≤ g) → K (a.put (some sA) (.slice A' m1 c')) w') → oA.wp P a w K Q := by
    intro a w f L' hf hx B cB e0 o0' K hK
    refine wp_app w _ _ T b4 w0.heap.size e i z size bytes ht hi hz hsize hby hzs hsz B 0 cB [] e0 o0' A1 m1 c1 vs1 (by rw [hf.eval hs.t1n]; exact e1) (q1.below hx) l1 h1 (by unfold maxLen; omega)
      (by rw [Nat.zero_add]; exact Nat.le_trans (Nat.mul_le_mul (show m1 ≤ 1099511627776 by omega) hbs) (by omega)) hx.size ?_
    intro A' c' w2 o2 g2 at2
    simp only [Nat.zero_add, List.nil_append] at o2 ⊢
    rw [b3]
    exact hK A' c' w2 (hf.put (by simp) _) (bel_app hx g2 (fun g h => (own_lt o0' g h).1)) o2 g2 (fun g h => (own_lt o0' g h).1)
  refine rg_two r_ a1 a2 n1 n2 (fun w1 hc1 he1 => ?_) (fun w1 hc1 he1 => ?_)
  · -- the empty literal first
    refine wp_val (a4 a0 w1) ⟨bel_alloc hc1 _, ?_⟩
    rw [a3]
    have f0 : Fr [s0, sA, sN, sB, sD, dE] a0 (a0.put (some s0) (.slice (some ⟨w1.heap.size, 0, none⟩) 0 0)) := (Fr.refl _ _).put (by simp) _
    have ev0 : (a0.put (some s0) (.slice (some ⟨w1.heap.size, 0, none⟩) 0 0)).eval (.tmp s0) = .slice (some ⟨w1.heap.size, 0, none⟩) 0 0 := put_eval _ hlt.1
    have ow0 := own_base (hsz0 w1) hc1.size
    refine rg_two r0 b1 b2 n1 n2 (fun w2 hc2 he2 => ?_) (fun w2 hc2 he2 => ?_)
    · refine SA _ w2 0 L f0 hc2 _ _ ev0 (own_keep ow0 he2) _ fun A' c' w3 hf3 hx3 o3 _ _ => ⟨hx3, ?_⟩
      refine rg_one r0A n1 n2 fun w4 hc4 he4 => ?_
      refine wp_val (n4 _ w4 (hxn _ hf3)) ⟨bel_alloc hc4 _, ?_⟩
      rw [n3]
      refine S2 _ _ (hf3.put (by simp) _) (bel_alloc hc4 _) A' c' ?_ (own_keep (own_keep o3 he4) (bel_alloc (Below.refl _ _) _)) (some ⟨w4.heap.size, 0, none⟩) 1 (put_eval _ (by rw [hf3.size]; exact hlt.2.2.1)) (by simpa using rd_new w4 e news.toArray)
      rw [put_eval_ne _ hs.ne.2.symm]
      exact put_eval _ (by rw [f0.size]; exact hlt.2.1)
    · refine wp_val (n4 _ w2 (hxn _ f0)) ⟨bel_alloc hc2 _, ?_⟩
      rw [n3]
      refine rg_one r0N b1 b2 fun w3 hc3 he3 => ?_
      have f1 := f0.put (d := sN) (by simp) (.slice (some ⟨w2.heap.size, 0, none⟩) 1 1)
      have ev1 : ((a0.put (some s0) (.slice (some ⟨w1.heap.size, 0, none⟩) 0 0)).put (some sN) (.slice (some ⟨w2.heap.size, 0, none⟩) 1 1)).eval (.tmp s0) = .slice (some ⟨w1.heap.size, 0, none⟩) 0 0 := by
        rw [put_eval_ne _ hs.ne.1.symm]; exact ev0
      have evN : ((a0.put (some s0) (.slice (some ⟨w1.heap.size, 0, none⟩) 0 0)).put (some sN) (.slice (some ⟨w2.heap.size, 0, none⟩) 1 1)).eval (.tmp sN) = .slice (some ⟨w2.heap.size, 0, none⟩) 1 1 := put_eval _ (by rw [f0.size]; exact hlt.2.2.1)
      have rdN : Rd w3 (some ⟨w2.heap.size, 0, none⟩) news := Rd.below (by simpa using rd_new w2 e news.toArray) he3
      refine SA _ w3 0 L f1 hc3 _ _ ev1 (own_keep (own_keep (own_keep ow0 he2) (bel_alloc (Below.refl _ _) _)) he3) _ fun A' c' w4 hf4 hx4 o4 g4 _ => ⟨hx4, ?_⟩
      rw [Array.setIfInBounds_comm _ _ (Ne.symm iAN)]
      have hz := he2.size
      refine S2 _ _ hf4 hx4 A' c' (put_eval _ (by rw [f1.size]; exact hlt.2.1)) o4 (some ⟨w2.heap.size, 0, none⟩) 1 ?_ (rdN.grown g4 (fun g h e => by
        simp only [ob, Option.map_some, Option.some.injEq] at h e
        simp at hz
        omega))
      rw [put_eval_ne _ hs.ne.2]
      exact evN
  · -- the element first
    refine wp_val (n4 a0 w1 (hxn _ (Fr.refl _ _))) ⟨bel_alloc hc1 _, ?_⟩
    rw [n3]
    have f0 : Fr [s0, sA, sN, sB, sD, dE] a0 (a0.put (some sN) (.slice (some ⟨w1.heap.size, 0, none⟩) 1 1)) := (Fr.refl _ _).put (by simp) _
    have evN : (a0.put (some sN) (.slice (some ⟨w1.heap.size, 0, none⟩) 1 1)).eval (.tmp sN) = .slice (some ⟨w1.heap.size, 0, none⟩) 1 1 := put_eval _ hlt.2.2.1
    have rdN0 : Rd (w1.alloc (.cells news.toArray e)) (some ⟨w1.heap.size, 0, none⟩) news := by simpa using rd_new w1 e news.toArray
    refine rg_one rN a1 a2 fun w2 hc2 he2 => ?_
    refine wp_val (a4 _ w2) ⟨bel_alloc hc2 _, ?_⟩
    rw [a3]
    rw [Array.setIfInBounds_comm _ _ (Ne.symm i0N)]
    refine rg_one r0N b1 b2 fun w3 hc3 he3 => ?_
    have f1 := f0.put (d := s0) (by simp) (.slice (some ⟨w2.heap.size, 0, none⟩) 0 0)
    have ev0 : ((a0.put (some sN) (.slice (some ⟨w1.heap.size, 0, none⟩) 1 1)).put (some s0) (.slice (some ⟨w2.heap.size, 0, none⟩) 0 0)).eval (.tmp s0) = .slice (some ⟨w2.heap.size, 0, none⟩) 0 0 := put_eval _ (by rw [f0.size]; exact hlt.1)
    have evN1 : ((a0.put (some sN) (.slice (some ⟨w1.heap.size, 0, none⟩) 1 1)).put (some s0) (.slice (some ⟨w2.heap.size, 0, none⟩) 0 0)).eval (.tmp sN) = .slice (some ⟨w1.heap.size, 0, none⟩) 1 1 := by
      rw [put_eval_ne _ hs.ne.1]; exact evN
    have rdN : Rd w3 (some ⟨w1.heap.size, 0, none⟩) news := ((rdN0.below he2).alloc _).below he3
    have ow0 := own_base (hsz0 w2) hc2.size
    refine SA _ w3 0 L f1 hc3 _ _ ev0 (own_keep ow0 he3) _ fun A' c' w4 hf4 hx4 o4 g4 _ => ⟨hx4, ?_⟩
    rw [Array.setIfInBounds_comm _ _ (Ne.symm iAN)]
    have hz := he2.size
    refine S2 _ _ hf4 hx4 A' c' (put_eval _ (by rw [f1.size]; exact hlt.2.1)) o4 (some ⟨w1.heap.size, 0, none⟩) 1 ?_ (rdN.grown g4 (fun g h e => by
      simp only [ob, Option.map_some, Option.some.injEq] at h e
      simp at hz
      omega))
    rw [put_eval_ne _ hs.ne.2]
    exact evN1
end
end Go.Proofs.YtoedmmhiinhljaaGreatDoor

/- A number put into a list in order: the reference. -/
namespace Go.Proofs.YtoedmmhiinhljaaGreatDoor
open Go.RowKit
set_option linter.unusedVariables false
attribute [local go_sem ↓] Go.wp_at_zero Go.wp_at_succ

/-- How many numbers stay ahead of n. -/
def cutTo (l : List Int) (n : Int) : Nat → Nat
  | 0 => 0
  | k + 1 => if n < l.getD k 0 then cutTo l n k else k + 1
theorem cutTo_le (l : List Int) (n : Int) (k : Nat) : cutTo l n k ≤ k := by
  induction k with
  | zero => exact Nat.le_refl _
  | succ k ih => unfold cutTo; split <;> omega
def putI (l : List Int) (n : Int) : List Int :=
  if 0 < cutTo l n l.length ∧ l.getD (cutTo l n l.length - 1) 0 = n then l else l.take (cutTo l n l.length) ++ [n] ++ l.drop (cutTo l n l.length)
/-- A slice whose memory is the call's own, of some base. -/
def RetO (w : World) (base E sz : Nat) (vs : List Value) (e : Ending) (w' : World) : Prop :=
  ∃ g n c, e = .returned (.slice (some ⟨g, 0, none⟩) n c) ∧ w'.ownsRow base E sz (.slice (some ⟨g, 0, none⟩) n c) n vs ∧ Below w.heap.size w w'
theorem run_upto (w : World) (g m c k : Nat) (hk : k ≤ c) : (Instr.slice 22 (.slice (some ⟨g, 0, none⟩) m c) none (some (.int .i64 (k : Int))) none).run Tryz.prog w = .ok (.slice (some ⟨g, 0, none⟩) k c) w := by
  have h2 : (k : Int) ≤ (c : Int) := by omega
  simp [go_sem, h2]
def offK (c k : Nat) : Nat := if c = k then 0 else k
theorem run_from (w : World) (g m c k : Nat) (hk : k ≤ m) : (Instr.slice 22 (.slice (some ⟨g, 0, none⟩) m c) (some (.int .i64 (k : Int))) none none).run Tryz.prog w = .ok (.slice (some ⟨g, offK c k, none⟩) (m - k) (c - k)) w := by
  have h1 : (0 : Int) ≤ (k : Int) := by omega
  have h2 : (k : Int) ≤ (m : Int) := by omega
  unfold offK
  by_cases hc : c = k
  · subst hc
    simp [go_sem, h2]
  · simp [go_sem, h2, hc]
theorem Rd.from_ {w : World} {g c k m : Nat} {l : List Int} (h : Rd w (some ⟨g, 0, none⟩) (vI l)) (hl : l.length = m) (hmc : m ≤ c) : Rd w (some ⟨g, offK c k, none⟩) (vI (l.drop k)) := by
  have h2 := Rd.drop h k c (by rw [vI_length]; omega)
  rw [vI_drop]
  unfold offK
  split
  · next e => rw [if_pos e] at h2; exact h2
  · next e =>
    rw [if_neg e] at h2
    have e2 : (some ⟨g, 0, none⟩ : Option Addr).map (·.add k) = some ⟨g, k, none⟩ := by simp only [Option.map_some]; unfold Addr.add; split <;> simp_all
    rw [e2] at h2
    exact h2
theorem putI_same {l : List Int} {n : Int} {k : Nat} (hk : cutTo l n l.length = k) (h0 : 0 < k) (h1 : l.getD (k - 1) 0 = n) : putI l n = l := by unfold putI; rw [hk, if_pos ⟨h0, h1⟩]
theorem putI_new {l : List Int} {n : Int} {k : Nat} (hk : cutTo l n l.length = k) (h1 : ¬ (0 < k ∧ l.getD (k - 1) 0 = n)) : putI l n = l.take k ++ [n] ++ l.drop k := by unfold putI; rw [hk, if_neg h1]
set_option maxRecDepth 100000 in
set_option maxHeartbeats 1600000 in
theorem l7Put_s (g m c : Nat) (l : List Int) (v : Int) (base : Nat) (w : World) (ho : w.ownsRow base 3 1 (.slice (some ⟨g, 0, none⟩) m c) m (vI l)) (hb0 : base ≤ w.heap.size) (hm : m ≤ 1099511627775) :
    Calls Tryz.prog 59 #[.slice (some ⟨g, 0, none⟩) m c, .int .i64 v] w (RetO w base 3 1 (vI (putI l v))) := by
  have hlm : l.length = m := by have := own_len ho; rw [vI_length] at this; omega
  have hmc : m ≤ c ∧ c ≤ 9223372036854775807 := by
    rcases ho.2 with ⟨h, _⟩ | ⟨g', cap, cur, hv, _, _, h1, h2, _⟩
    · cases h
    · injection hv with _ _ h3
      unfold maxLen at h2
      omega
  have hrd := Rd.of_own ho
  have hm' : cutTo l v l.length = cutTo l v m := by rw [hlm]
  have HL := Lib.hid hlm
  have HO := Lib.hid ho
  have HCM := Lib.hid hm'
  clear hlm ho hm'
  go_enter Tryz.func59, Tryz.ntmps59
  go_wp2
  go_loopw [5] (fun e wr => ∃ k : Nat, k ≤ m ∧ e = .int .i64 k ∧ cutTo l v m = cutTo l v k ∧ Below w.heap.size w wr) (fun e _ => (intOf e).toNat)
  case atStart => exact ⟨m, Nat.le_refl _, rfl, rfl, Below.refl _ _⟩
  case round =>
    obtain ⟨k, hk, rfl, hcut, hb⟩ := hrel
    have hrw := hrd.below hb
    -- what stands behind the loop
    have HIN : Hid (∀ (k' : Nat), cutTo l v m = k' → k' ≤ m → ¬ (0 < k' ∧ l.getD (k' - 1) 0 = v) → putI l v = l.take k' ++ [v] ++ l.drop k') := fun k' h1 h2 h3 => putI_new (HCM.out.trans h1) h3
    by_cases hk0 : 0 < k
    · obtain ⟨j, hjk⟩ : ∃ j, k = j + 1 := ⟨k - 1, by omega⟩
      have hjl : j < l.length := by rw [HL.out]; omega
      obtain ⟨g', off, he, _, c1⟩ := RdI.at_ hrw hjl
      simp only [Option.some.injEq, Addr.mk.injEq, and_true] at he
      obtain ⟨rfl, rfl⟩ := he
      rw [Nat.zero_add] at c1
      have hgd : l.getD j 0 = l[j] := by rw [List.getD_eq_getElem?_getD, List.getElem?_eq_getElem hjl]; rfl
      obtain ⟨x, hx⟩ : ∃ x, l[j] = x := ⟨_, rfl⟩
      rw [hx] at c1 hgd
      have HG := Lib.hid hgd
      have hj1 : (k : Int) - 1 = (j : Int) := by omega
      have hj0 : (0 : Int) ≤ (j : Int) := by omega
      have hjm : (j : Int) < (m : Int) := by omega
      have hjp : (0 : Int) < (k : Int) := by omega
      have HJ := Lib.hid hjk
      rw [hjk] at hcut
      have HC := Lib.hid hcut
      clear hgd hx hcut hjk
      by_cases hvx : v < x
      · have HN : Hid (cutTo l v m = cutTo l v j) := by show cutTo l v m = _; rw [HC.out]; show (if v < l.getD j 0 then _ else _) = _; rw [HG.out, if_pos hvx]
        go_wp2_with fail
        exact ⟨⟨j, by omega, rfl, HN.out, hb⟩, by simp [intOf]; have := HJ.out; omega⟩
      · have HN : Hid (cutTo l v m = k) := by show cutTo l v m = _; rw [HC.out, HJ.out]; show (if v < l.getD j 0 then _ else _) = _; rw [HG.out, if_neg hvx]
        have hvd : decide (v < x) = false := by simpa using hvx
        by_cases hxv : x = v
        · subst hxv
          have HV := Lib.hid (putI_same (HCM.out.trans HN.out) (by omega) (by rw [HJ.out]; exact HG.out))
          have e1 : (x == x) = true := by simp
          go_wp2
          go_ret
          exact ⟨_, _, _, rfl, by rw [HV.out]; exact own_keep HO.out hb, hb⟩
        · have HV := Lib.hid (HIN.out k HN.out hk (fun h => hxv (by rw [← HG.out]; have := h.2; rwa [HJ.out] at this)))
          have e1 : (x == v) = false := by simpa using hxv
          clear hxv hvx
          go_wp2_with fail
          obtain ⟨i0, hi, hz0, hz1, hz2⟩ := info_parts infoI
          have hs1 : ∀ w', (Instr.slice 22 (.slice (some ⟨g, 0, none⟩) m c) none (some (.int .i64 ((k : Int)))) none).run Tryz.prog w' = .ok (.slice (some ⟨g, 0, none⟩) (k) c) w' := fun w' => run_upto w' g m c (k) (by omega)
          have hs2 : ∀ w', (Instr.slice 22 (.slice (some ⟨g, 0, none⟩) m c) (some (.int .i64 ((k : Int)))) none none).run Tryz.prog w' = .ok (.slice (some ⟨g, offK c (k), none⟩) (m - (k)) (c - (k))) w' := fun w' => run_from w' g m c (k) (by omega)
          have r2 : Rd wr (some ⟨g, offK c (k), none⟩) (vI (l.drop (k))) := Rd.from_ hrw HL.out hmc.1
          have r1 : Rd wr (some ⟨g, 0, none⟩) (vI (l.take (k))) := by rw [vI_take]; exact Rd.take hrw _
          have L1 : Hid ((l.take (k)).length = k) := by show (l.take (k)).length = k; rw [List.length_take, HL.out]; omega
          have L2 : Hid ((l.drop (k)).length = m - (k)) := by show (l.drop (k)).length = m - (k); rw [List.length_drop, HL.out]
          have R1 := Lib.hid r1
          have R2 := Lib.hid r2
          have HI := Lib.hid hi
          have HZ0 := Lib.hid hz0
          have HZ1 := Lib.hid hz1
          have HZ2 := Lib.hid hz2
          clear r1 r2 hi hz0 hz1 hz2
          refine wp_region_rg 13 rfl (by kernel_rfl) ?_
          (refine rgT (i := 1) (v := ?_) rfl rfl (by kernel_rfl) (by kernel_rfl) (by kernel_rfl) (by rfl) (fun w' hcw => ?_) ?_; rotate_left; ((try dsimp only at hcw); have hbc := hcw.cells; go_simp; first | done | with_reducible rfl); simp only [List.setIfInBounds_toArray, List.set_cons_zero, List.set_cons_succ])
          (refine rgT (i := 2) (v := ?_) rfl rfl (by kernel_rfl) (by kernel_rfl) (by kernel_rfl) (by rfl) (fun w' hcw => ?_) ?_; rotate_left; ((try dsimp only at hcw); have hbc := hcw.cells; go_simp; first | done | with_reducible rfl); simp only [List.setIfInBounds_toArray, List.set_cons_zero, List.set_cons_succ])
          (refine rgT (i := 3) (v := ?_) rfl rfl (by kernel_rfl) (by kernel_rfl) (by kernel_rfl) (by rfl) (fun w' hcw => ?_) ?_; rotate_left; ((try dsimp only at hcw); have hbc := hcw.cells; go_simp; first | done | with_reducible rfl); simp only [List.setIfInBounds_toArray, List.set_cons_zero, List.set_cons_succ])
          (refine rgT (i := 5) (v := ?_) rfl rfl (by kernel_rfl) (by kernel_rfl) (by kernel_rfl) (by rfl) (fun w' hcw => ?_) ?_; rotate_left; ((try dsimp only at hcw); have hbc := hcw.cells; go_simp; first | done | with_reducible rfl); simp only [List.setIfInBounds_toArray, List.set_cons_zero, List.set_cons_succ])
          (refine rgT (i := 8) (v := ?_) rfl rfl (by kernel_rfl) (by kernel_rfl) (by kernel_rfl) (by rfl) (fun w' hcw => ?_) ?_; rotate_left; ((try dsimp only at hcw); have hbc := hcw.cells; go_simp; first | done | with_reducible rfl); simp only [List.setIfInBounds_toArray, List.set_cons_zero, List.set_cons_succ])
          (refine rgT (i := 9) (v := ?_) rfl rfl (by kernel_rfl) (by kernel_rfl) (by kernel_rfl) (by rfl) (fun w' hcw => ?_) ?_; rotate_left; ((try dsimp only at hcw); have hbc := hcw.cells; go_simp; first | done | with_reducible rfl); simp only [List.setIfInBounds_toArray, List.set_cons_zero, List.set_cons_succ])
          (refine rgT (i := 10) (v := ?_) rfl rfl (by kernel_rfl) (by kernel_rfl) (by kernel_rfl) (by rfl) (fun w' hcw => ?_) ?_; rotate_left; ((try dsimp only at hcw); have hbc := hcw.cells; go_simp; first | done | with_reducible rfl); simp only [List.setIfInBounds_toArray, List.set_cons_zero, List.set_cons_succ])
          refine ins_tail (T := 22) (e := 3) (i := i0) (z := .int .i64 0) (size := 1) (bytes := 8) (i0 := 0) (iA := 4) (iN := 6) (iB := 7) (iD := 11) (iE := 12) (s0 := 33) (sA := 37) (sN := 39) (sB := 40) (sD := 44) (dE := 4) (t1 := 36) (t2 := 43) (xn := .tmp 38) (vn := .int .i64 v) (news := vI [v]) (vs1 := vI (l.take (k))) (vs2 := vI (l.drop (k))) (A1 := some ⟨g, 0, none⟩) (m1 := k) (c1 := c) (A2 := some ⟨g, offK c (k), none⟩) (m2 := m - (k)) (c2 := c - (k)) _ ?ht ?hi ?hz ?h1 ?h2 rfl (by omega) ⟨⟨_, rfl, rfl, rfl, fun a w => ?p0⟩, ⟨_, rfl, rfl, rfl, rfl⟩, ⟨_, rfl, rfl, rfl, fun a w h => ?pN⟩, ⟨_, rfl, rfl, rfl, rfl⟩, ⟨_, rfl, rfl, rfl, rfl⟩, ⟨_, rfl, rfl, rfl, rfl⟩⟩ ⟨by simp, by decide, by decide, by decide⟩ (fun a h => (h.eval (by decide)).trans rfl) (by kernel_rfl) (by kernel_rfl) (by kernel_rfl) (by kernel_rfl) (by kernel_rfl) (by decide) (by decide) (by kernel_rfl) (by kernel_rfl) (by kernel_rfl) (by kernel_rfl) rfl ?q1 ?l1 ?o1 rfl ?q2 ?l2 ?o2 ?ln ?on ?hm ?hb ?hQ
          case ht => exact Tryz.underlying22
          case hi => exact HI.out
          case hz => exact HZ0.out
          case h1 => exact HZ1.out
          case h2 => exact HZ2.out
          case p0 => simp [go_sem, execOp]
          case pN => (generalize Act.eval a = ρ at h ⊢; simp [go_sem, execOp, h, vI])
          case q1 => exact R1.out
          case l1 => rw [vI_length, L1.out] <;> omega
          case o1 => exact vI_one _
          case q2 => exact R2.out
          case l2 => rw [vI_length, L2.out] <;> omega
          case o2 => exact vI_one _
          case ln => rfl
          case on => exact vI_one _
          case hm => omega
          case hb => omega
          case hQ =>
            intro a' w' A' c' hfr hev how hex
            obtain ⟨v0, vA, vN, vB, vD, rfl⟩ := hfr.form hev
            rw [← vI_append, ← vI_append, ← HV.out] at how
            obtain ⟨g', rfl, _, _⟩ := own_at how (by omega)
            have HOW := Lib.hid (own_base how (Nat.le_trans hb0 hb.size))
            clear how hev hfr
            refine NoPanic.normal ?_
            simp only [List.setIfInBounds_toArray, List.set_cons_zero, List.set_cons_succ]
            go_wp2
            go_ret
            exact ⟨_, _, _, rfl, HOW.out, bel_trans hb hex⟩
    · obtain rfl : k = 0 := by omega
      have HC := Lib.hid hcut
      have HN : Hid (cutTo l v m = 0) := hcut
      have HV := Lib.hid (HIN.out 0 HN.out hk (fun h => absurd h.1 (by omega)))
      have e0 : ((0 : Nat) : Int) = 0 := rfl
      clear hcut
      go_wp2_with fail
      obtain ⟨i0, hi, hz0, hz1, hz2⟩ := info_parts infoI
      have hs1 : ∀ w', (Instr.slice 22 (.slice (some ⟨g, 0, none⟩) m c) none (some (.int .i64 (0))) none).run Tryz.prog w' = .ok (.slice (some ⟨g, 0, none⟩) (0) c) w' := fun w' => run_upto w' g m c (0) (by omega)
      have hs2 : ∀ w', (Instr.slice 22 (.slice (some ⟨g, 0, none⟩) m c) (some (.int .i64 (0))) none none).run Tryz.prog w' = .ok (.slice (some ⟨g, offK c (0), none⟩) (m - (0)) (c - (0))) w' := fun w' => run_from w' g m c (0) (by omega)
      have r2 : Rd wr (some ⟨g, offK c (0), none⟩) (vI (l.drop (0))) := Rd.from_ hrw HL.out hmc.1
      have r1 : Rd wr (some ⟨g, 0, none⟩) (vI (l.take (0))) := by rw [vI_take]; exact Rd.take hrw _
      have L1 : Hid ((l.take (0)).length = 0) := by show (l.take (0)).length = 0; rw [List.length_take, HL.out]; omega
      have L2 : Hid ((l.drop (0)).length = m - (0)) := by show (l.drop (0)).length = m - (0); rw [List.length_drop, HL.out]
      have R1 := Lib.hid r1
      have R2 := Lib.hid r2
      have HI := Lib.hid hi
      have HZ0 := Lib.hid hz0
      have HZ1 := Lib.hid hz1
      have HZ2 := Lib.hid hz2
      clear r1 r2 hi hz0 hz1 hz2
      refine wp_region_rg 13 rfl (by kernel_rfl) ?_
      (refine rgT (i := 1) (v := ?_) rfl rfl (by kernel_rfl) (by kernel_rfl) (by kernel_rfl) (by rfl) (fun w' hcw => ?_) ?_; rotate_left; ((try dsimp only at hcw); have hbc := hcw.cells; go_simp; first | done | with_reducible rfl); simp only [List.setIfInBounds_toArray, List.set_cons_zero, List.set_cons_succ])
      (refine rgT (i := 2) (v := ?_) rfl rfl (by kernel_rfl) (by kernel_rfl) (by kernel_rfl) (by rfl) (fun w' hcw => ?_) ?_; rotate_left; ((try dsimp only at hcw); have hbc := hcw.cells; go_simp; first | done | with_reducible rfl); simp only [List.setIfInBounds_toArray, List.set_cons_zero, List.set_cons_succ])
      (refine rgT (i := 3) (v := ?_) rfl rfl (by kernel_rfl) (by kernel_rfl) (by kernel_rfl) (by rfl) (fun w' hcw => ?_) ?_; rotate_left; ((try dsimp only at hcw); have hbc := hcw.cells; go_simp; first | done | with_reducible rfl); simp only [List.setIfInBounds_toArray, List.set_cons_zero, List.set_cons_succ])
      (refine rgT (i := 5) (v := ?_) rfl rfl (by kernel_rfl) (by kernel_rfl) (by kernel_rfl) (by rfl) (fun w' hcw => ?_) ?_; rotate_left; ((try dsimp only at hcw); have hbc := hcw.cells; go_simp; first | done | with_reducible rfl); simp only [List.setIfInBounds_toArray, List.set_cons_zero, List.set_cons_succ])
      (refine rgT (i := 8) (v := ?_) rfl rfl (by kernel_rfl) (by kernel_rfl) (by kernel_rfl) (by rfl) (fun w' hcw => ?_) ?_; rotate_left; ((try dsimp only at hcw); have hbc := hcw.cells; go_simp; first | done | with_reducible rfl); simp only [List.setIfInBounds_toArray, List.set_cons_zero, List.set_cons_succ])
      (refine rgT (i := 9) (v := ?_) rfl rfl (by kernel_rfl) (by kernel_rfl) (by kernel_rfl) (by rfl) (fun w' hcw => ?_) ?_; rotate_left; ((try dsimp only at hcw); have hbc := hcw.cells; go_simp; first | done | with_reducible rfl); simp only [List.setIfInBounds_toArray, List.set_cons_zero, List.set_cons_succ])
      (refine rgT (i := 10) (v := ?_) rfl rfl (by kernel_rfl) (by kernel_rfl) (by kernel_rfl) (by rfl) (fun w' hcw => ?_) ?_; rotate_left; ((try dsimp only at hcw); have hbc := hcw.cells; go_simp; first | done | with_reducible rfl); simp only [List.setIfInBounds_toArray, List.set_cons_zero, List.set_cons_succ])
      refine ins_tail (T := 22) (e := 3) (i := i0) (z := .int .i64 0) (size := 1) (bytes := 8) (i0 := 0) (iA := 4) (iN := 6) (iB := 7) (iD := 11) (iE := 12) (s0 := 33) (sA := 37) (sN := 39) (sB := 40) (sD := 44) (dE := 4) (t1 := 36) (t2 := 43) (xn := .tmp 38) (vn := .int .i64 v) (news := vI [v]) (vs1 := vI (l.take (0))) (vs2 := vI (l.drop (0))) (A1 := some ⟨g, 0, none⟩) (m1 := 0) (c1 := c) (A2 := some ⟨g, offK c (0), none⟩) (m2 := m - (0)) (c2 := c - (0)) _ ?ht ?hi ?hz ?h1 ?h2 rfl (by omega) ⟨⟨_, rfl, rfl, rfl, fun a w => ?p0⟩, ⟨_, rfl, rfl, rfl, rfl⟩, ⟨_, rfl, rfl, rfl, fun a w h => ?pN⟩, ⟨_, rfl, rfl, rfl, rfl⟩, ⟨_, rfl, rfl, rfl, rfl⟩, ⟨_, rfl, rfl, rfl, rfl⟩⟩ ⟨by simp, by decide, by decide, by decide⟩ (fun a h => (h.eval (by decide)).trans rfl) (by kernel_rfl) (by kernel_rfl) (by kernel_rfl) (by kernel_rfl) (by kernel_rfl) (by decide) (by decide) (by kernel_rfl) (by kernel_rfl) (by kernel_rfl) (by kernel_rfl) rfl ?q1 ?l1 ?o1 rfl ?q2 ?l2 ?o2 ?ln ?on ?hm ?hb ?hQ
      case ht => exact Tryz.underlying22
      case hi => exact HI.out
      case hz => exact HZ0.out
      case h1 => exact HZ1.out
      case h2 => exact HZ2.out
      case p0 => simp [go_sem, execOp]
      case pN => (generalize Act.eval a = ρ at h ⊢; simp [go_sem, execOp, h, vI])
      case q1 => exact R1.out
      case l1 => rw [vI_length, L1.out] <;> omega
      case o1 => exact vI_one _
      case q2 => exact R2.out
      case l2 => rw [vI_length, L2.out] <;> omega
      case o2 => exact vI_one _
      case ln => rfl
      case on => exact vI_one _
      case hm => omega
      case hb => omega
      case hQ =>
        intro a' w' A' c' hfr hev how hex
        obtain ⟨v0, vA, vN, vB, vD, rfl⟩ := hfr.form hev
        rw [← vI_append, ← vI_append, ← HV.out] at how
        obtain ⟨g', rfl, _, _⟩ := own_at how (by omega)
        have HOW := Lib.hid (own_base how (Nat.le_trans hb0 hb.size))
        clear how hev hfr
        refine NoPanic.normal ?_
        simp only [List.setIfInBounds_toArray, List.set_cons_zero, List.set_cons_succ]
        go_wp2
        go_ret
        exact ⟨_, _, _, rfl, HOW.out, bel_trans hb hex⟩
end Go.Proofs.YtoedmmhiinhljaaGreatDoor

/- Numbers in order, each once: the program's way and the reference's way come to one list. No program is in sight. -/
namespace Go.Proofs.YtoedmmhiinhljaaGreatDoor
open Go.RowKit
set_option linter.unusedVariables false
abbrev Inc (l : List Int) : Prop := l.Pairwise (· < ·)
theorem inc_eq : ∀ (a b : List Int), Inc a → Inc b → (∀ x, x ∈ a ↔ x ∈ b) → a = b
  | [], [], _, _, _ => rfl
  | [], y :: t, _, _, h => absurd ((h y).2 (by simp)) (by simp)
  | x :: s, [], _, _, h => absurd ((h x).1 (by simp)) (by simp)
  | x :: s, y :: t, ha, hb, h => by
    obtain ⟨a1, a2⟩ := List.pairwise_cons.1 ha
    obtain ⟨b1, b2⟩ := List.pairwise_cons.1 hb
    have hxy : x = y := by
      rcases Int.lt_trichotomy x y with h1 | h1 | h1
      · rcases List.mem_cons.1 ((h x).1 (by simp)) with h2 | h2
        · exact h2
        · have := b1 x h2; omega
      · exact h1
      · rcases List.mem_cons.1 ((h y).2 (by simp)) with h2 | h2
        · exact h2.symm
        · have := a1 y h2; omega
    subst hxy
    congr 1
    refine inc_eq s t a2 b2 fun z => ⟨fun hz => ?_, fun hz => ?_⟩
    · rcases List.mem_cons.1 ((h z).1 (by simp [hz])) with h2 | h2
      · have := a1 z hz; omega
      · exact h2
    · rcases List.mem_cons.1 ((h z).2 (by simp [hz])) with h2 | h2
      · have := b1 z hz; omega
      · exact h2
theorem cutTo_above (l : List Int) (n : Int) : ∀ k, k ≤ l.length → ∀ i, cutTo l n k ≤ i → i < k → n < l.getD i 0
  | 0, _, i, _, h => absurd h (by omega)
  | k + 1, hk, i, hc, hi => by
    unfold cutTo at hc
    split at hc
    · next h =>
      rcases Nat.lt_or_ge i k with h1 | h1
      · exact cutTo_above l n k (by omega) i hc h1
      · obtain rfl : i = k := by omega
        exact h
    · omega
theorem cutTo_at (l : List Int) (n : Int) : ∀ k, 0 < cutTo l n k → l.getD (cutTo l n k - 1) 0 ≤ n
  | 0, h => absurd h (by simp [cutTo])
  | k + 1, h => by
    unfold cutTo at h ⊢
    split
    · next h1 => rw [if_pos h1] at h; exact cutTo_at l n k h
    · next h1 => simpa using h1
theorem inc_get {l : List Int} (h : Inc l) {i j : Nat} (hij : i < j) (hj : j < l.length) : l.getD i 0 < l.getD j 0 := by
  rw [Inc, List.pairwise_iff_getElem] at h
  have := h i j (by omega) hj hij
  simpa [List.getD_eq_getElem?_getD, hj, show i < l.length by omega] using this
theorem putI_inc {l : List Int} (h : Inc l) (n : Int) : Inc (putI l n) ∧ ∀ x, x ∈ putI l n ↔ x ∈ l ∨ x = n := by
  unfold putI
  have hk := cutTo_le l n l.length
  have ha := cutTo_above l n l.length (Nat.le_refl _)
  have hat := cutTo_at l n l.length
  generalize cutTo l n l.length = k at hk ha hat
  split
  · next hc =>
    refine ⟨h, fun x => ⟨.inl, fun hx => ?_⟩⟩
    rcases hx with hx | rfl
    · exact hx
    · rw [← hc.2, List.getD_eq_getElem?_getD, List.getElem?_eq_getElem (by omega)]; exact List.getElem_mem _
  · next hc =>
    have hlt : 0 < k → l.getD (k - 1) 0 < n := fun h0 => by
      have := hat h0
      have hne : l.getD (k - 1) 0 ≠ n := fun e => hc ⟨h0, e⟩
      omega
    have hfront : ∀ x ∈ l.take k, x < n := by
      intro x hx
      obtain ⟨i, hi, rfl⟩ := List.mem_iff_getElem.1 hx
      rw [List.length_take] at hi
      rw [List.getElem_take]
      have h1 := hlt (by omega)
      rcases Nat.lt_or_ge i (k - 1) with h2 | h2
      · have := inc_get h h2 (by omega)
        rw [List.getD_eq_getElem?_getD, List.getElem?_eq_getElem (by omega)] at this
        simp only [Option.getD_some] at this
        omega
      · obtain rfl : i = k - 1 := by omega
        rw [List.getD_eq_getElem?_getD, List.getElem?_eq_getElem (by omega)] at h1
        exact h1
    have hback : ∀ x ∈ l.drop k, n < x := by
      intro x hx
      obtain ⟨i, hi, rfl⟩ := List.mem_iff_getElem.1 hx
      rw [List.length_drop] at hi
      rw [List.getElem_drop]
      have := ha (k + i) (by omega) (by omega)
      rwa [List.getD_eq_getElem?_getD, List.getElem?_eq_getElem (by omega)] at this
    refine ⟨?_, fun x => ?_⟩
    · rw [Inc, List.append_assoc, List.pairwise_append]
      refine ⟨List.Pairwise.sublist (List.take_sublist _ _) h, ?_, fun x hx y hy => ?_⟩
      · rw [List.singleton_append, List.pairwise_cons]
        exact ⟨hback, List.Pairwise.sublist (List.drop_sublist _ _) h⟩
      · have := hfront x hx
        rcases List.mem_append.1 hy with hy | hy
        · simp only [List.mem_singleton] at hy; omega
        · have := hback y hy; omega
    · simp only [List.mem_append, List.mem_singleton]
      constructor
      · rintro ((h1 | h1) | h1)
        · exact .inl (List.mem_of_mem_take h1)
        · exact .inr h1
        · exact .inl (List.mem_of_mem_drop h1)
      · rintro (h1 | h1)
        · rw [← List.take_append_drop k l] at h1
          rcases List.mem_append.1 h1 with h2 | h2
          · exact .inl (.inl h2)
          · exact .inr h2
        · exact .inl (.inr h1)
/-- The reference's way. -/
def putAll (l : List Int) : List Int := l.foldl putI []
theorem foldl_inc : ∀ (l acc : List Int), Inc acc → Inc (l.foldl putI acc) ∧ ∀ x, x ∈ l.foldl putI acc ↔ x ∈ acc ∨ x ∈ l
  | [], acc, h => ⟨h, fun x => by simp⟩
  | a :: t, acc, h => by
    obtain ⟨h1, h2⟩ := putI_inc h a
    obtain ⟨h3, h4⟩ := foldl_inc t (putI acc a) h1
    refine ⟨h3, fun x => ?_⟩
    rw [List.foldl_cons, h4, h2, List.mem_cons]
    constructor
    · rintro ((h | h) | h)
      · exact .inl h
      · exact .inr (.inl h)
      · exact .inr (.inr h)
    · rintro (h | h | h)
      · exact .inl (.inl h)
      · exact .inl (.inr h)
      · exact .inr h
/-- The program's way: sorted, and each but once. -/
def srt (l : List Int) : List Int := l.mergeSort fun x y => decide (x ≤ y)
def keepAt (s : List Int) (i : Nat) : Bool := i == 0 || s.getD (i - 1) 0 != s.getD i 0
def dedTo (s : List Int) : Nat → List Int
  | 0 => []
  | k + 1 => dedTo s k ++ (if keepAt s k then [s.getD k 0] else [])
def ord (l : List Int) : List Int := dedTo (srt l) (srt l).length
theorem srt_len (l : List Int) : (srt l).length = l.length := List.length_mergeSort _
theorem srt_mem (l : List Int) (x : Int) : x ∈ srt l ↔ x ∈ l := List.mem_mergeSort
theorem srt_le (l : List Int) : (srt l).Pairwise (· ≤ ·) := by
  have h := List.pairwise_mergeSort (le := fun x y : Int => decide (x ≤ y)) (fun a b c h1 h2 => by simp at *; omega) (fun a b => by simp; omega) l
  exact h.imp (fun h => by simpa using h)
theorem dedTo_len (s : List Int) (k : Nat) : (dedTo s k).length ≤ k := by
  induction k with
  | zero => simp [dedTo]
  | succ k ih => unfold dedTo; rw [List.length_append]; split <;> simp <;> omega
theorem dedTo_all {s : List Int} (hs : s.Pairwise (· ≤ ·)) : ∀ k, k ≤ s.length → Inc (dedTo s k) ∧ (∀ x, x ∈ dedTo s k ↔ x ∈ s.take k) ∧ ∀ x ∈ dedTo s k, 0 < k ∧ x ≤ s.getD (k - 1) 0
  | 0, _ => ⟨List.Pairwise.nil, fun x => by simp [dedTo], fun x hx => by simp [dedTo] at hx⟩
  | k + 1, hk => by
    obtain ⟨h1, h2, h3⟩ := dedTo_all hs k (by omega)
    have hkl : k < s.length := by omega
    have hg : s.getD k 0 = s[k] := by rw [List.getD_eq_getElem?_getD, List.getElem?_eq_getElem hkl]; rfl
    have hmono : 0 < k → s.getD (k - 1) 0 ≤ s.getD k 0 := fun h0 => by
      rw [List.pairwise_iff_getElem] at hs
      have := hs (k - 1) k (by omega) hkl (by omega)
      rw [hg, List.getD_eq_getElem?_getD, List.getElem?_eq_getElem (by omega)]
      exact this
    unfold dedTo
    rw [List.take_succ_eq_append_getElem hkl]
    cases hka : keepAt s k with
    | true =>
      rw [if_pos rfl, hg]
      refine ⟨?_, fun x => ?_, fun x hx => ⟨by omega, ?_⟩⟩
      · rw [Inc, List.pairwise_append]
        refine ⟨h1, by simp, fun x hx y hy => ?_⟩
        simp only [List.mem_singleton] at hy
        subst hy
        obtain ⟨h0, hle⟩ := h3 x hx
        have := hmono h0
        simp only [keepAt, Bool.or_eq_true, beq_iff_eq, bne_iff_ne, ne_eq] at hka
        rcases hka with h | h
        · omega
        · rw [hg] at this h; omega
      · simp only [List.mem_append, h2 x]
      · simp only [Nat.add_sub_cancel, hg]
        rcases List.mem_append.1 hx with hx | hx
        · obtain ⟨h0, hle⟩ := h3 x hx
          have := hmono h0
          rw [hg] at this; omega
        · simp only [List.mem_singleton] at hx; omega
    | false =>
      simp only [Bool.false_eq_true, if_false, List.append_nil]
      simp only [keepAt, Bool.or_eq_false_iff, beq_eq_false_iff_ne, bne_eq_false_iff_eq, ne_eq] at hka
      refine ⟨h1, fun x => ?_, fun x hx => ⟨by omega, ?_⟩⟩
      · rw [h2 x, List.mem_append, List.mem_singleton]
        refine ⟨.inl, fun h => ?_⟩
        rcases h with h | h
        · exact h
        · rw [h, ← hg, ← hka.2, List.getD_eq_getElem?_getD, List.getElem?_eq_getElem (by omega)]
          simp only [Option.getD_some]
          rw [List.mem_iff_getElem]
          exact ⟨k - 1, by rw [List.length_take]; omega, by rw [List.getElem_take]⟩
      · obtain ⟨h0, hle⟩ := h3 x hx
        have := hmono h0
        simp only [Nat.add_sub_cancel]
        omega
theorem ord_eq (l : List Int) : ord l = putAll l := by
  obtain ⟨h1, h2, _⟩ := dedTo_all (srt_le l) (srt l).length (Nat.le_refl _)
  obtain ⟨h3, h4⟩ := foldl_inc l [] List.Pairwise.nil
  refine inc_eq _ _ h1 h3 fun x => ?_
  unfold putAll
  rw [h4]
  rw [show ord l = dedTo (srt l) (srt l).length from rfl, h2, List.take_length, srt_mem]
  simp
theorem ord_len (l : List Int) : (ord l).length ≤ l.length := Nat.le_trans (dedTo_len (srt l) _) (Nat.le_of_eq (srt_len l))
end Go.Proofs.YtoedmmhiinhljaaGreatDoor

/- Slices of slices of integers: the rows' blocks, kept and written; append at such a slice. -/
namespace Go.Proofs.YtoedmmhiinhljaaGreatDoor
open Go.RowKit
set_option linter.unusedVariables false

/-- Rows that lie in blocks of their own. -/
structure Rows (w : World) (t : TypeId) (G : List Nat) (R : List (List Value)) : Prop where
  len : G.length = R.length
  nd : G.Nodup
  blk : ∀ i (h : i < G.length) (h' : i < R.length), Blk w (G[i]'h) t (R[i]'h').toArray
section
variable {w w' : World} {t : TypeId} {G : List Nat} {R : List (List Value)}
theorem Rows.nil (w : World) (t : TypeId) : Rows w t [] [] := ⟨rfl, List.nodup_nil, fun i h => by simp at h⟩
theorem Rows.below (h : Rows w t G R) (hb : Below w.heap.size w w') : Rows w' t G R := ⟨h.len, h.nd, fun i a b => (h.blk i a b).below hb⟩
theorem Rows.drew (h : Rows w t G R) : Rows w.drew t G R := ⟨h.len, h.nd, h.blk⟩
theorem Rows.alloc (h : Rows w t G R) (o : Obj) : Rows (w.alloc o) t G R := ⟨h.len, h.nd, fun i a b => (h.blk i a b).alloc o⟩
theorem Rows.grown {row : Option Nat} (h : Rows w t G R) (hg : w.grownBy w' row) (hn : ∀ g ∈ G, some g ≠ row) : Rows w' t G R :=
  ⟨h.len, h.nd, fun i a b => (h.blk i a b).grown hg (hn _ (List.getElem_mem a))⟩
theorem Rows.far (h : Rows w t G R) {p : Addr} (hp : p.block ∉ G) (u : Value) : Rows (w.setCell p u) t G R :=
  ⟨h.len, h.nd, fun i a b => (h.blk i a b).far (fun e => hp (e ▸ List.getElem_mem a)) u⟩
theorem Rows.lt (h : Rows w t G R) : ∀ g ∈ G, g < w.heap.size := by
  intro g hg
  obtain ⟨i, hi, rfl⟩ := List.mem_iff_getElem.1 hg
  exact (h.blk i hi (by rw [← h.len]; exact hi)).lt
theorem Rows.push (h : Rows w t G R) {g : Nat} {vs : List Value} (hb : Blk w g t vs.toArray) (hg : g ∉ G) : Rows w t (G ++ [g]) (R ++ [vs]) := by
  refine ⟨by simp [h.len], ?_, fun i a b => ?_⟩
  · rw [List.nodup_append]
    refine ⟨h.nd, by simp, fun x hx y hy => ?_⟩
    simp only [List.mem_singleton] at hy
    subst hy
    rintro rfl
    exact hg hx
  · by_cases hi : i < G.length
    · simp only [List.getElem_append_left hi, List.getElem_append_left (h.len ▸ hi : i < R.length)]
      exact h.blk i hi _
    · have e : i = G.length := by simp at a; omega
      subst e
      simp only [List.getElem_append_right (Nat.le_refl _), List.getElem_append_right (Nat.le_of_eq h.len.symm), Nat.sub_self]
      simpa [h.len] using hb
theorem Rows.set_ (h : Rows w t G R) {i : Nat} (hi : i < G.length) (hi' : i < R.length) (k : Nat) (u : Value) : Rows (w.setCell ⟨G[i]'hi, k, Option.none⟩ u) t G (R.set i ((R[i]'hi').set k u)) := by
  refine ⟨by simp [h.len], h.nd, fun j a b => ?_⟩
  by_cases e : i = j
  · subst e
    rw [List.getElem_set_self]
    simpa using (h.blk i hi hi').set_ k u
  · rw [List.getElem_set_ne e]
    refine (h.blk j a _).far ?_ u
    intro he
    have := (List.pairwise_iff_getElem.1 h.nd)
    rcases Nat.lt_or_gt_of_ne e with h1 | h1
    · exact this i j hi a h1 he.symm
    · exact this j i a hi h1 he
theorem Rows.cell (h : Rows w t G R) {i : Nat} (hi : i < G.length) (hi' : i < R.length) (k : Nat) : w.cell? ⟨G[i]'hi, k, Option.none⟩ = (R[i]'hi')[k]? := by
  rw [(h.blk i hi hi').cell]; simp
end
theorem Rd.far {w : World} {A : Option Addr} {vs : List Value} (h : Rd w A vs) {p : Addr} (hp : ∀ g, ob A = some g → g ≠ p.block) (u : Value) : Rd (w.setCell p u) A vs := by
  rcases h with h | ⟨g, off, rfl, h⟩
  · exact .inl h
  · exact .inr ⟨g, off, rfl, fun j v hv => (World.cell?_setCell_other w p _ u (fun e => hp g rfl (by rw [e]))).trans (h j v hv)⟩
/-- The headers of rows of m. -/
def hds (m : Nat) (G : List Nat) : List H := G.map fun g => (some ⟨g, 0, none⟩, m, m)
theorem hds_length (m : Nat) (G : List Nat) : (hds m G).length = G.length := by simp [hds]
theorem hds_append (m : Nat) (G : List Nat) (g : Nat) : hds m (G ++ [g]) = hds m G ++ [(some ⟨g, 0, none⟩, m, m)] := by simp [hds]
theorem hds_get (m : Nat) (G : List Nat) (i : Nat) (h : i < G.length) : (hds m G)[i]'(by rw [hds_length]; exact h) = (some ⟨G[i], 0, none⟩, m, m) := by simp [hds]
theorem infoS : (Tryz.prog.info? 22).map (fun i => (i.zero, i.size, i.bytes)) = some (some (.slice none 0 0), 1, 24) := by kernel_rfl
section
variable (w : World) {ops : Array Oper} {rest : List Oper} {o : Oper} {a : Act} {Q : Exit → Act → World → Prop}
theorem app_S (hgd : o.guard = none) (s x : Operand) (ho : o.op = .call { callee := .builtin .append, args := #[s, x], argTypes := #[45, 45] })
    (base : Nat) (A : Option Addr) (n c : Nat) (l : List H) (hs : a.eval s = .slice A n c) (hown : w.ownsRow base 22 1 (.slice A n c) n (vS l))
    (A2 : Option Addr) (m c2 : Nat) (l2 : List H) (hx : a.eval x = .slice A2 m c2) (hr : Rd w A2 (vS l2)) (hl : l2.length = m) (hb : n + m ≤ 1099511627776) (hbase : base ≤ w.heap.size)
    (h : ∀ A' c' w', w'.ownsRow base 22 1 (.slice A' (n + m) c') (n + m) (vS (l ++ l2)) → w.grownBy w' (ob A) → (ob A' = ob A ∨ ob A' = some w.heap.size) → wpList Tryz.prog ops Q rest (a.put o.dst (.slice A' (n + m) c')) w') :
    wpList Tryz.prog ops Q (o :: rest) a w := by
  obtain ⟨i0, hi, hz0, hz1, hz2⟩ := info_parts infoS
  refine wpList_app w hgd s x _ ho base _ i0 _ 1 24 Tryz.underlying45 hi hz0 hz1 hz2 rfl (by omega) A n c _ hs hown A2 m c2 _ hx hr (by rw [vS_length, hl]; omega) (vS_one _) (by unfold maxLen; omega) (by omega) hbase ?_
  intro A' c' w' h1
  rw [← vS_append] at h1
  exact h A' c' w' h1
end
end Go.Proofs.YtoedmmhiinhljaaGreatDoor

/- Slices of slices of cells: read. -/
namespace Go.Proofs.YtoedmmhiinhljaaGreatDoor
open Go.RowKit
set_option linter.unusedVariables false
/-- A slice of slices of cells, as it reads. -/
structure RdP (w : World) (A : Option Addr) (n : Nat) (hs : List H) (F : List (List C)) : Prop where
  top : Rd w A (vS hs)
  hlen : hs.length = n
  flen : F.length = n
  row : ∀ k (a : k < hs.length) (b : k < F.length), F[k].length = hs[k].2.1 ∧ Rd w hs[k].1 (vC F[k])
theorem RdP.below {w w' : World} {A : Option Addr} {n : Nat} {hs : List H} {F : List (List C)} (h : RdP w A n hs F) (hb : Below w.heap.size w w') : RdP w' A n hs F :=
  ⟨h.top.below hb, h.hlen, h.flen, fun k a b => ⟨(h.row k a b).1, (h.row k a b).2.below hb⟩⟩
theorem RdP.alloc {w : World} {A : Option Addr} {n : Nat} {hs : List H} {F : List (List C)} (h : RdP w A n hs F) (o : Obj) : RdP (w.alloc o) A n hs F := h.below (Below.alloc (Below.refl _ _) (Nat.le_refl _) o)
theorem RdP.nil (w : World) : RdP w none 0 [] [] := ⟨.inl rfl, rfl, rfl, fun k a => by simp at a⟩
theorem RdP.at_ {w : World} {A : Option Addr} {n : Nat} {hs : List H} {F : List (List C)} (h : RdP w A n hs F) {k : Nat} (hk : k < n) :
    ∃ (x : H) (f : List C) (g off : Nat), hs[k]? = some x ∧ F[k]? = some f ∧ A = some ⟨g, off, none⟩ ∧ g < w.heap.size ∧ w.cell? ⟨g, off + k, none⟩ = some (.slice x.1 x.2.1 x.2.2) ∧ f.length = x.2.1 ∧ Rd w x.1 (vC f) := by
  have a : k < hs.length := by rw [h.hlen]; exact hk
  have b : k < F.length := by rw [h.flen]; exact hk
  obtain ⟨g, off, e, hg, c1⟩ := RdS.at_ h.top a
  exact ⟨hs[k], F[k], g, off, List.getElem?_eq_getElem a, List.getElem?_eq_getElem b, e, hg, c1, (h.row k a b).1, (h.row k a b).2⟩
def totC (F : List (List C)) : Nat := (F.map List.length).sum
theorem totC_take (F : List (List C)) (j : Nat) (h : j < F.length) : totC (F.take (j + 1)) = totC (F.take j) + F[j].length := by
  rw [List.take_succ_eq_append_getElem h]
  simp only [totC, List.map_append, List.map_cons, List.map_nil, List.sum_append, List.sum_cons, List.sum_nil, Nat.add_zero]
theorem totC_le (F : List (List C)) (j : Nat) : totC (F.take j) ≤ totC F := by
  have : totC F = totC (F.take j) + totC (F.drop j) := by
    have := List.take_append_drop j F
    conv => lhs; rw [← this]
    simp only [totC, List.map_append, List.sum_append]
  omega
theorem totC_row (F : List (List C)) {k : Nat} {f : List C} (h : F[k]? = some f) : f.length ≤ totC F := by
  obtain ⟨hk, rfl⟩ := List.getElem?_eq_some_iff.1 h
  have := totC_take F k hk
  have := totC_le F (k + 1)
  omega
end Go.Proofs.YtoedmmhiinhljaaGreatDoor

/- A move of the walk through a region that draws its order: an operation is taken first, its slot named. -/
namespace Go.Proofs.YtoedmmhiinhljaaGreatDoor
section
variable {P : Program} {ops : Array Oper} {Q : Exit → Act → World → Prop} {md : Region.Mode} {S : World → Prop}
theorem wpT {i d : Nat} {oi : Oper} {v : Value} {fuel : Nat} {listed : Array Bool} {t : Array Value} {ds : List Deferred} {w : World} (hi : ops[i]? = some oi) (hd : oi.dst = some d)
    (hs : Region.noSelect ops = true) (hf : Region.free md ops listed i = true) (hr : (Region.ready md ops listed).contains i = true)
    (hQ : ∀ c a w, Q (.panic c) (a.put (some d) v) w → Q (.panic c) a w) (hy : YieldsIf P ops S oi v { tmps := t, defers := ds }) (hS : S w)
    (h : wpAnyH P md ops Q S fuel (listed.setIfInBounds i true) { tmps := t.setIfInBounds d v, defers := ds } w) : wpAnyH P md ops Q S (fuel + 1) listed { tmps := t, defers := ds } w :=
  wpAnyH_take hi hs hf hr (by rw [hd]; exact hQ) hy hS (by rw [hd]; exact h)
end
end Go.Proofs.YtoedmmhiinhljaaGreatDoor
