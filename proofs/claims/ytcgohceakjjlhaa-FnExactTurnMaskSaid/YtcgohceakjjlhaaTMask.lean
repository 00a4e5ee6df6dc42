/- A mask turned: both sides. -/
import Derived.Test.YtcgohceakjjlhaaMotS
import Derived.Test.YtcgohceakjjlhaaSub
import Derived.Outline
import Derived.WalkLawsBesides
import Derived.WalkSpells
import Derived.BigQuiet
import Derived.Deep.QuietTactic
import Derived.Deep.RegionHeld3
import Derived.Deep.RegionWith
import Derived.Deep.DeepCutAuto
import Derived.Deep.CutBlock
import Derived.Deep.DrawnRows
namespace Go.Proofs.Ytcgohceakjjlhaa
open Go.RowKit
set_option linter.unusedVariables false
attribute [local go_sem ↓] Go.wp_at_zero Go.wp_at_succ

def okMask (W : Int) (rows : List Int) (x : Int) : Bool := decide (0 ≤ x) && inM x.toNat (maskV W rows)
theorem maskV_62 {W : Int} {rows : List Int} (h : isReg W rows = true) : maskV W rows < 2 ^ 36 := by
  obtain ⟨n, rfl, hn1, hn6, hh1, hh6, _⟩ := isReg_yes h
  have h36 : n * rows.length ≤ 6 * 6 := Nat.mul_le_mul hn6 hh6
  exact Nat.lt_of_lt_of_le (maskV_lt h) (Nat.pow_le_pow_right (by omega) (by omega))
theorem maskV_lt2 {W : Int} {rows : List Int} (h : isReg W rows = true) : maskV W rows < 2 ^ (W.toNat * rows.length) := by
  obtain ⟨n, rfl, _⟩ := isReg_yes h
  exact maskV_lt h
def tmOk (W : Int) (rows : List Int) (x m : Int) : Bool := (motV W rows).any (· == m) && okMask W rows x
def tmV (W : Int) (rows : List Int) (x m : Int) : Int := if tmOk W rows x m then (turnTo W.toNat rows.length m.toNat x.toNat (W.toNat * rows.length) : Nat) else 0
theorem motTo_mem {n h mv : Nat} : ∀ {k : Nat} {x : Int}, x ∈ motTo n h mv k → ∃ m : Nat, m < k ∧ x = (m : Int) ∧ goesM n h m = true
  | 0, x, hx => by simp [motTo] at hx
  | k + 1, x, hx => by
    unfold motTo at hx
    rcases List.mem_append.1 hx with h1 | h1
    · obtain ⟨m, a, b, c⟩ := motTo_mem h1
      exact ⟨m, by omega, b, c⟩
    · split at h1
      · next hk =>
        simp only [List.mem_singleton] at h1
        unfold keepM at hk
        rw [Bool.and_eq_true] at hk
        exact ⟨k, by omega, h1, hk.1⟩
      · simp at h1
theorem motV_any {W : Int} {rows : List Int} {m : Int} (h : (motV W rows).any (· == m) = true) : isReg W rows = true ∧ ∃ k : Nat, k < 8 ∧ m = (k : Int) ∧ goesM W.toNat rows.length k = true := by
  unfold motV at h
  cases hv : isReg W rows with
  | false => rw [hv] at h; simp at h
  | true =>
    rw [hv, if_pos rfl, List.any_eq_true] at h
    obtain ⟨x, hx, he⟩ := h
    rw [beq_iff_eq] at he
    subst he
    exact ⟨rfl, motTo_mem hx⟩
theorem motV_len (W : Int) (rows : List Int) : (motV W rows).length ≤ 8 := by
  unfold motV
  split
  · exact motTo_len _ _ _ 8
  · simp
theorem isMask_i (W : Int) (A : Option Addr) (h c : Nat) (rows : List Int) (x : Int) (w : World) (hr : Rd w A (vI rows)) (hl : rows.length = h) (hv : isReg W rows = true) (hx : x < 9223372036854775808) :
    Calls Try.prog 50 #[.agg #[.int .i64 W, .slice A h c], .int .i64 x] w (Ret w (.bool (okMask W rows x))) := by
  have HL := Lib.hid hl
  have HT := Lib.hid hv
  have hm62 := maskV_62 hv
  clear hl hv
  by_cases h0 : 0 ≤ x
  · obtain ⟨k, rfl⟩ : ∃ k : Nat, x = (k : Int) := ⟨x.toNat, by omega⟩
    obtain ⟨v, hve⟩ : ∃ v, maskV W rows = v := ⟨_, rfl⟩
    have hV : okMask W rows (k : Int) = inM k v := by unfold okMask; rw [hve, decide_eq_true h0]; rfl
    rw [hve] at hm62
    have hand := i64_andNot k v (by omega) (by omega)
    obtain ⟨t, ht⟩ : ∃ t, k - (k &&& v) = t := ⟨_, rfl⟩
    rw [ht] at hand
    have hti := sub_zero_iff k v
    rw [ht] at hti
    have hge : (k : Int) ≥ 0 := h0
    have HVE := Lib.hid hve
    cases hi : inM k v with
    | true =>
      rw [hi] at hV hti
      have HV := Lib.hid hV
      have ht0 : ((t : Int) == 0) = true := by have := hti.2 rfl; simp [this]
      clear hV hti ht hi hm62 hve
      go_enter Try.func50, Try.ntmps50
      go_wp2_with fail
      refine (mask_i _ _ _ _ rows _ (hr.alloc _) HL.out HT.out).mono ?_
      rw [HVE.out]
      rintro e w1 ⟨rfl, hb1⟩
      go_wp2_with fail
      go_ret
      exact ⟨by rw [HV.out]; rfl, (by (repeat (first | with_reducible exact Below.refl _ _ | with_reducible assumption | with_reducible apply bel_alloc | with_reducible apply bel_drew | with_reducible apply bel_drewN | ((with_reducible refine bel_set ?_ ?_); rotate_left; (simp <;> omega)) | (with_reducible refine bel_trans ?_ (by with_reducible assumption)))))⟩
    | false =>
      rw [hi] at hV hti
      have HV := Lib.hid hV
      have ht0 : ((t : Int) == 0) = false := by rw [beq_eq_false_iff_ne]; intro h; exact absurd (hti.1 (by omega)) (by decide)
      clear hV hti ht hi hm62 hve
      go_enter Try.func50, Try.ntmps50
      go_wp2_with fail
      refine (mask_i _ _ _ _ rows _ (hr.alloc _) HL.out HT.out).mono ?_
      rw [HVE.out]
      rintro e w1 ⟨rfl, hb1⟩
      go_wp2_with fail
      go_ret
      exact ⟨by rw [HV.out]; rfl, (by (repeat (first | with_reducible exact Below.refl _ _ | with_reducible assumption | with_reducible apply bel_alloc | with_reducible apply bel_drew | with_reducible apply bel_drewN | ((with_reducible refine bel_set ?_ ?_); rotate_left; (simp <;> omega)) | (with_reducible refine bel_trans ?_ (by with_reducible assumption)))))⟩
  · have HV : Hid (okMask W rows x = false) := by show okMask W rows x = false; unfold okMask; rw [decide_eq_false h0]; rfl
    have hge : decide (x ≥ 0) = false := by simpa using h0
    go_enter Try.func50, Try.ntmps50
    go_wp2_with fail
    go_ret
    exact ⟨by rw [HV.out]; rfl, (by (repeat (first | with_reducible exact Below.refl _ _ | with_reducible assumption | with_reducible apply bel_alloc | with_reducible apply bel_drew | with_reducible apply bel_drewN | ((with_reducible refine bel_set ?_ ?_); rotate_left; (simp <;> omega)) | (with_reducible refine bel_trans ?_ (by with_reducible assumption)))))⟩
theorem TurnMask_i (W : Int) (A : Option Addr) (h c : Nat) (rows : List Int) (x m : Int) (w : World) (hr : Rd w A (vI rows)) (hl : rows.length = h) (hx : x < 9223372036854775808) :
    Calls Try.prog 22 #[.agg #[.int .i64 W, .slice A h c], .int .i64 x, .int .i64 m] w (Ret w (.tuple #[.int .i64 (tmV W rows x m), .bool (tmOk W rows x m)])) := by
  have HL := Lib.hid hl
  have hml := motV_len W rows
  cases ha : (motV W rows).any (· == m) with
  | false =>
    have HO : Hid (tmOk W rows x m = false) := by show tmOk W rows x m = false; unfold tmOk; rw [ha]; rfl
    have HV : Hid (tmV W rows x m = 0) := by show tmV W rows x m = 0; unfold tmV; rw [HO.out]; rfl
    have HA := Lib.hid ha
    clear ha hl
    go_enter Try.func22, Try.ntmps22
    go_wp2_with fail
    refine (RegionMotions_i _ _ _ _ rows _ (hr.alloc _) HL.out).mono ?_
    rintro e w1 ⟨B, q, cq, rfl, ho, hb1⟩
    have hq : (motV W rows).length = q := by have := own_len ho; rw [vI_length] at this; omega
    have HQ := Lib.hid hq
    have hq8 : q ≤ 1099511627776 := by omega
    clear hq hml
    go_wp2_with fail
    refine (hasInt_i _ _ _ _ m _ (Rd.of_own ho) HQ.out hq8).mono ?_
    rw [HA.out]
    rintro e w2 ⟨rfl, hb2⟩
    go_wp2_with fail
    go_ret2
    exact ⟨by rw [HV.out, HO.out]; rfl, (by (repeat (first | with_reducible exact Below.refl _ _ | with_reducible assumption | with_reducible apply bel_alloc | with_reducible apply bel_drew | with_reducible apply bel_drewN | ((with_reducible refine bel_set ?_ ?_); rotate_left; (simp <;> omega)) | (with_reducible refine bel_trans ?_ (by with_reducible assumption)))))⟩
  | true =>
    obtain ⟨hv, k, hk8, rfl, hg⟩ := motV_any ha
    have HT := Lib.hid hv
    have HA := Lib.hid ha
    have HB0 := Lib.hid (Blk.new w 27 #[.int .i64 W, .slice A h c])
    cases hi : okMask W rows x with
    | false =>
      have HO : Hid (tmOk W rows x k = false) := by show tmOk W rows x k = false; unfold tmOk; rw [ha, hi]; rfl
      have HV : Hid (tmV W rows x k = 0) := by show tmV W rows x k = 0; unfold tmV; rw [HO.out]; rfl
      have HI := Lib.hid hi
      clear ha hl hv hg hi
      go_enter Try.func22, Try.ntmps22
      go_wp2_with fail
      refine (RegionMotions_i _ _ _ _ rows _ (hr.alloc _) HL.out).mono ?_
      rintro e w1 ⟨B, q, cq, rfl, ho, hb1⟩
      have hq : (motV W rows).length = q := by have := own_len ho; rw [vI_length] at this; omega
      have HQ := Lib.hid hq
      have hq8 : q ≤ 1099511627776 := by omega
      clear hq
      go_wp2_with fail
      refine (hasInt_i _ _ _ _ k _ (Rd.of_own ho) HQ.out hq8).mono ?_
      rw [HA.out]
      rintro e w2 ⟨rfl, hb2⟩
      have hB2 := (HB0.out.below hb1).below hb2
      have f0 : w2.cell? ⟨w.heap.size, 0, none⟩ = some (.int .i64 W) := by simpa using hB2.cell 0
      have f1 : w2.cell? ⟨w.heap.size, 1, none⟩ = some (.slice A h c) := by simpa using hB2.cell 1
      have hgw2 := hB2.lt
      clear hB2
      go_wp2_with fail
      refine (isMask_i _ _ _ _ rows _ _ (((hr.alloc _).below hb1).below hb2) HL.out HT.out hx).mono ?_
      rw [HI.out]
      rintro e w3 ⟨rfl, hb3⟩
      go_wp2_with fail
      go_ret2
      exact ⟨by rw [HV.out, HO.out]; rfl, (by (repeat (first | with_reducible exact Below.refl _ _ | with_reducible assumption | with_reducible apply bel_alloc | with_reducible apply bel_drew | with_reducible apply bel_drewN | ((with_reducible refine bel_set ?_ ?_); rotate_left; (simp <;> omega)) | (with_reducible refine bel_trans ?_ (by with_reducible assumption)))))⟩
    | true =>
      have HO : Hid (tmOk W rows x k = true) := by show tmOk W rows x k = true; unfold tmOk; rw [ha, hi]; rfl
      have HI := Lib.hid hi
      unfold okMask at hi
      rw [Bool.and_eq_true, decide_eq_true_eq] at hi
      obtain ⟨hx0, hin⟩ := hi
      obtain ⟨q0, rfl⟩ : ∃ q : Nat, x = (q : Int) := ⟨x.toNat, by omega⟩
      have hlt := inM_lt hin (maskV_lt2 hv)
      obtain ⟨n, rfl, hn1, hn6, hh1, hh6, _⟩ := isReg_yes hv
      rw [hl] at hh1 hh6 hlt hg
      have HV : Hid (tmV n rows q0 k = (turnTo n h k q0 (n * h) : Nat)) := by show tmV n rows q0 k = _; unfold tmV; rw [HO.out, hl]; rfl
      have HG : Hid (goesM n h k = true) := hg
      have HLT : Hid (q0 < 2 ^ (n * h)) := hlt
      clear ha hl hv hg hin hlt
      go_enter Try.func22, Try.ntmps22
      go_wp2_with fail
      refine (RegionMotions_i _ _ _ _ rows _ (hr.alloc _) HL.out).mono ?_
      rintro e w1 ⟨B, q, cq, rfl, ho, hb1⟩
      have hq : (motV (n : Int) rows).length = q := by have := own_len ho; rw [vI_length] at this; omega
      have HQ := Lib.hid hq
      have hq8 : q ≤ 1099511627776 := by omega
      clear hq
      go_wp2_with fail
      refine (hasInt_i _ _ _ _ k _ (Rd.of_own ho) HQ.out hq8).mono ?_
      rw [HA.out]
      rintro e w2 ⟨rfl, hb2⟩
      have hB2 := (HB0.out.below hb1).below hb2
      have f0 : w2.cell? ⟨w.heap.size, 0, none⟩ = some (.int .i64 (n : Int)) := by simpa using hB2.cell 0
      have f1 : w2.cell? ⟨w.heap.size, 1, none⟩ = some (.slice A h c) := by simpa using hB2.cell 1
      have hgw2 := hB2.lt
      clear hB2
      go_wp2_with fail
      refine (isMask_i _ _ _ _ rows _ _ (((hr.alloc _).below hb1).below hb2) HL.out HT.out hx).mono ?_
      rw [HI.out]
      rintro e w3 ⟨rfl, hb3⟩
      have hB3 := ((HB0.out.below hb1).below hb2).below hb3
      have g0 : w3.cell? ⟨w.heap.size, 0, none⟩ = some (.int .i64 (n : Int)) := by simpa using hB3.cell 0
      have g1 : w3.cell? ⟨w.heap.size, 1, none⟩ = some (.slice A h c) := by simpa using hB3.cell 1
      have hgw3 := hB3.lt
      clear hB3 f0 f1
      go_wp2_with fail
      refine (carryMask_i n _ h _ rows q0 k _ ((((hr.alloc _).below hb1).below hb2).below hb3) HL.out ⟨hn1, hn6⟩ ⟨hh1, hh6⟩ hk8 HG.out HLT.out).mono ?_
      rintro e w4 ⟨rfl, hb4⟩
      go_wp2_with fail
      go_ret2
      exact ⟨by rw [HV.out, HO.out]; rfl, (by (repeat (first | with_reducible exact Below.refl _ _ | with_reducible assumption | with_reducible apply bel_alloc | with_reducible apply bel_drew | with_reducible apply bel_drewN | ((with_reducible refine bel_set ?_ ?_); rotate_left; (simp <;> omega)) | (with_reducible refine bel_trans ?_ (by with_reducible assumption)))))⟩
theorem TurnMask_s (W : Int) (A : Option Addr) (h c : Nat) (rows : List Int) (x m : Int) (w : World) (hr : Rd w A (vI rows)) (hl : rows.length = h) (hx : x < 9223372036854775808) :
    Calls Try.prog 21 #[.agg #[.int .i64 W, .slice A h c], .int .i64 x, .int .i64 m] w (Ret w (.tuple #[.int .i64 (tmV W rows x m), .bool (tmOk W rows x m)])) := by
  have HL := Lib.hid hl
  have hml := motV_len W rows
  cases ha : (motV W rows).any (· == m) with
  | false =>
    have HO : Hid (tmOk W rows x m = false) := by show tmOk W rows x m = false; unfold tmOk; rw [ha]; rfl
    have HV : Hid (tmV W rows x m = 0) := by show tmV W rows x m = 0; unfold tmV; rw [HO.out]; rfl
    have HA := Lib.hid ha
    clear ha hl
    go_enter Try.func21, Try.ntmps21
    go_wp2_with fail
    refine (RegionMotions_s _ _ _ _ rows _ (hr.alloc _) HL.out).mono ?_
    rintro e w1 ⟨B, q, cq, rfl, ho, hb1⟩
    have hq : (motV W rows).length = q := by have := own_len ho; rw [vI_length] at this; omega
    have HQ := Lib.hid hq
    have hq8 : q ≤ 1099511627776 := by omega
    clear hq hml
    go_wp2_with fail
    refine (l7Has_s _ _ _ _ m _ (Rd.of_own ho) HQ.out hq8).mono ?_
    rw [HA.out]
    rintro e w2 ⟨rfl, hb2⟩
    go_wp2_with fail
    go_ret2
    exact ⟨by rw [HV.out, HO.out]; rfl, (by (repeat (first | with_reducible exact Below.refl _ _ | with_reducible assumption | with_reducible apply bel_alloc | with_reducible apply bel_drew | with_reducible apply bel_drewN | ((with_reducible refine bel_set ?_ ?_); rotate_left; (simp <;> omega)) | (with_reducible refine bel_trans ?_ (by with_reducible assumption)))))⟩
  | true =>
    obtain ⟨hv, k, hk8, rfl, hg⟩ := motV_any ha
    have HT := Lib.hid hv
    have HA := Lib.hid ha
    have HB0 := Lib.hid (Blk.new w 27 #[.int .i64 W, .slice A h c])
    by_cases h0 : 0 ≤ x
    · obtain ⟨q0, rfl⟩ : ∃ q : Nat, x = (q : Int) := ⟨x.toNat, by omega⟩
      have hm62 := maskV_62 hv
      obtain ⟨v, hve⟩ : ∃ v, maskV W rows = v := ⟨_, rfl⟩
      rw [hve] at hm62
      have hand := i64_and q0 v (by omega) (by omega)
      obtain ⟨t, ht⟩ : ∃ t, q0 &&& v = t := ⟨_, rfl⟩
      rw [ht] at hand
      have hx0 : ¬ (q0 : Int) < 0 := by omega
      have hxd : decide ((q0 : Int) < 0) = false := by simp
      have HVE := Lib.hid hve
      cases hi : inM q0 v with
      | false =>
        have hi2 : okMask W rows (q0 : Int) = false := by unfold okMask; rw [hve, decide_eq_true h0]; exact hi
        have HO : Hid (tmOk W rows q0 k = false) := by show tmOk W rows q0 k = false; unfold tmOk; rw [ha, hi2]; rfl
        have HV : Hid (tmV W rows q0 k = 0) := by show tmV W rows q0 k = 0; unfold tmV; rw [HO.out]; rfl
        have htq : ((t : Int) != (q0 : Int)) = true := by
          unfold inM at hi
          rw [ht, beq_eq_false_iff_ne] at hi
          rw [bne_iff_ne]; omega
        clear ha hl hv hg hi hi2 ht hm62 hve
        go_enter Try.func21, Try.ntmps21
        go_wp2_with fail
        refine (RegionMotions_s _ _ _ _ rows _ (hr.alloc _) HL.out).mono ?_
        rintro e w1 ⟨B, q, cq, rfl, ho, hb1⟩
        have hq : (motV W rows).length = q := by have := own_len ho; rw [vI_length] at this; omega
        have HQ := Lib.hid hq
        have hq8 : q ≤ 1099511627776 := by omega
        clear hq
        go_wp2_with fail
        refine (l7Has_s _ _ _ _ k _ (Rd.of_own ho) HQ.out hq8).mono ?_
        rw [HA.out]
        rintro e w2 ⟨rfl, hb2⟩
        have hB2 := (HB0.out.below hb1).below hb2
        have f0 : w2.cell? ⟨w.heap.size, 0, none⟩ = some (.int .i64 W) := by simpa using hB2.cell 0
        have f1 : w2.cell? ⟨w.heap.size, 1, none⟩ = some (.slice A h c) := by simpa using hB2.cell 1
        have hgw2 := hB2.lt
        clear hB2
        go_wp2_with fail
        refine (MaskOf_s _ _ _ _ rows _ (((hr.alloc _).below hb1).below hb2) HL.out).mono ?_
        rw [HVE.out]
        rintro e w3 ⟨rfl, hb3⟩
        go_wp2_with fail
        go_ret2
        exact ⟨by rw [HV.out, HO.out]; rfl, (by (repeat (first | with_reducible exact Below.refl _ _ | with_reducible assumption | with_reducible apply bel_alloc | with_reducible apply bel_drew | with_reducible apply bel_drewN | ((with_reducible refine bel_set ?_ ?_); rotate_left; (simp <;> omega)) | (with_reducible refine bel_trans ?_ (by with_reducible assumption)))))⟩
      | true =>
        have hi2 : okMask W rows (q0 : Int) = true := by unfold okMask; rw [hve, decide_eq_true h0]; exact hi
        have HO : Hid (tmOk W rows q0 k = true) := by show tmOk W rows q0 k = true; unfold tmOk; rw [ha, hi2]; rfl
        have htq : ((t : Int) != (q0 : Int)) = false := by
          unfold inM at hi
          rw [ht, beq_iff_eq] at hi
          rw [hi]; simp
        have hlt : q0 < 2 ^ 62 := Nat.lt_trans (inM_lt hi hm62) (by decide)
        obtain ⟨n, rfl, hn1, hn6, hh1, hh6, _⟩ := isReg_yes hv
        rw [hl] at hh1 hh6 hg
        have HV : Hid (tmV n rows q0 k = (turnTo n h k q0 (n * h) : Nat)) := by show tmV n rows q0 k = _; unfold tmV; rw [HO.out, hl]; rfl
        have HG : Hid (goesM n h k = true) := hg
        have HLT := Lib.hid hlt
        clear ha hl hv hg hlt hi hi2 ht hm62 hve
        go_enter Try.func21, Try.ntmps21
        go_wp2_with fail
        refine (RegionMotions_s _ _ _ _ rows _ (hr.alloc _) HL.out).mono ?_
        rintro e w1 ⟨B, q, cq, rfl, ho, hb1⟩
        have hq : (motV (n : Int) rows).length = q := by have := own_len ho; rw [vI_length] at this; omega
        have HQ := Lib.hid hq
        have hq8 : q ≤ 1099511627776 := by omega
        clear hq
        go_wp2_with fail
        refine (l7Has_s _ _ _ _ k _ (Rd.of_own ho) HQ.out hq8).mono ?_
        rw [HA.out]
        rintro e w2 ⟨rfl, hb2⟩
        have hB2 := (HB0.out.below hb1).below hb2
        have f0 : w2.cell? ⟨w.heap.size, 0, none⟩ = some (.int .i64 (n : Int)) := by simpa using hB2.cell 0
        have f1 : w2.cell? ⟨w.heap.size, 1, none⟩ = some (.slice A h c) := by simpa using hB2.cell 1
        have hgw2 := hB2.lt
        clear hB2
        go_wp2_with fail
        refine (MaskOf_s _ _ _ _ rows _ (((hr.alloc _).below hb1).below hb2) HL.out).mono ?_
        rw [HVE.out]
        rintro e w3 ⟨rfl, hb3⟩
        have hB3 := ((HB0.out.below hb1).below hb2).below hb3
        have g0 : w3.cell? ⟨w.heap.size, 0, none⟩ = some (.int .i64 (n : Int)) := by simpa using hB3.cell 0
        have g1 : w3.cell? ⟨w.heap.size, 1, none⟩ = some (.slice A h c) := by simpa using hB3.cell 1
        have hgw3 := hB3.lt
        clear hB3 f0 f1
        go_wp2_with fail
        refine (l23Turn_s n A h c rows q0 k _ ((((hr.alloc _).below hb1).below hb2).below hb3) HL.out ⟨hn1, hn6⟩ ⟨hh1, hh6⟩ hk8 HG.out HLT.out).mono ?_
        rintro e w4 ⟨rfl, hb4⟩
        go_wp2_with fail
        go_ret2
        exact ⟨by rw [HV.out, HO.out]; rfl, (by (repeat (first | with_reducible exact Below.refl _ _ | with_reducible assumption | with_reducible apply bel_alloc | with_reducible apply bel_drew | with_reducible apply bel_drewN | ((with_reducible refine bel_set ?_ ?_); rotate_left; (simp <;> omega)) | (with_reducible refine bel_trans ?_ (by with_reducible assumption)))))⟩
    · have hi2 : okMask W rows x = false := by unfold okMask; rw [decide_eq_false h0]; rfl
      have HO : Hid (tmOk W rows x k = false) := by show tmOk W rows x k = false; unfold tmOk; rw [ha, hi2]; rfl
      have HV : Hid (tmV W rows x k = 0) := by show tmV W rows x k = 0; unfold tmV; rw [HO.out]; rfl
      have hxd : decide (x < 0) = true := by simp; omega
      clear ha hl hv hg hi2 h0
      go_enter Try.func21, Try.ntmps21
      go_wp2_with fail
      refine (RegionMotions_s _ _ _ _ rows _ (hr.alloc _) HL.out).mono ?_
      rintro e w1 ⟨B, q, cq, rfl, ho, hb1⟩
      have hq : (motV W rows).length = q := by have := own_len ho; rw [vI_length] at this; omega
      have HQ := Lib.hid hq
      have hq8 : q ≤ 1099511627776 := by omega
      clear hq
      go_wp2_with fail
      refine (l7Has_s _ _ _ _ k _ (Rd.of_own ho) HQ.out hq8).mono ?_
      rw [HA.out]
      rintro e w2 ⟨rfl, hb2⟩
      have hB2 := (HB0.out.below hb1).below hb2
      have f0 : w2.cell? ⟨w.heap.size, 0, none⟩ = some (.int .i64 W) := by simpa using hB2.cell 0
      have f1 : w2.cell? ⟨w.heap.size, 1, none⟩ = some (.slice A h c) := by simpa using hB2.cell 1
      have hgw2 := hB2.lt
      clear hB2
      go_wp2_with fail
      go_ret2
      exact ⟨by rw [HV.out, HO.out]; rfl, (by (repeat (first | with_reducible exact Below.refl _ _ | with_reducible assumption | with_reducible apply bel_alloc | with_reducible apply bel_drew | with_reducible apply bel_drewN | ((with_reducible refine bel_set ?_ ?_); rotate_left; (simp <;> omega)) | (with_reducible refine bel_trans ?_ (by with_reducible assumption)))))⟩
end Go.Proofs.Ytcgohceakjjlhaa
