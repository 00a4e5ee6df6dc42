/- Texts of this claim, one behind the other: part 2. -/
import Derived.Test.YtoedmmhiinhljaaDoorU1CanonicalTiling
import Derived.Outline
import Derived.WalkLawsBesides
import Derived.WalkSpells
import Derived.BigQuiet
import Derived.Deep.QuietTactic
import Derived.Deep.RegionHeld3
import Derived.Deep.RegionWith
import Derived.Deep.DeepCutAuto
import Derived.Deep.CutBlock
import Derived.Deep.DrawnRows
import Derived.Lib.TrailingZeros
import Derived.Shelf.Spec.TrailingZeros
import Derived.Lib.ReflectliteSwap
/- Masks within masks: bits of natural numbers. No program is in sight. -/
namespace Go.Proofs.YtoedmmhiinhljaaDoor
open Go.RowKit
set_option linter.unusedVariables false
/-- All bits of a are bits of b. -/
def inM (a b : Nat) : Bool := a &&& b == a
theorem and_sub (a b : Nat) (hb : b < 2 ^ 64) (ha : a < 2 ^ 64) : a &&& (2 ^ 64 - 1 - b) = a - (a &&& b) := by
  have h1 : (BitVec.ofNat 64 a &&& BitVec.ofNat 64 b) &&& (BitVec.ofNat 64 a &&& ~~~BitVec.ofNat 64 b) = 0#64 := by
    ext i hi
    simp only [BitVec.getElem_and, BitVec.getElem_not, BitVec.getElem_zero]
    cases (BitVec.ofNat 64 a)[i] <;> cases (BitVec.ofNat 64 b)[i] <;> rfl
  have h2 := BitVec.add_eq_or_of_and_eq_zero _ _ h1
  have h3 : (BitVec.ofNat 64 a &&& BitVec.ofNat 64 b) ||| (BitVec.ofNat 64 a &&& ~~~BitVec.ofNat 64 b) = BitVec.ofNat 64 a := by
    ext i hi
    simp only [BitVec.getElem_or, BitVec.getElem_and, BitVec.getElem_not]
    cases (BitVec.ofNat 64 a)[i] <;> cases (BitVec.ofNat 64 b)[i] <;> rfl
  rw [h3] at h2
  have h4 := congrArg BitVec.toNat h2
  have ea : (BitVec.ofNat 64 a).toNat = a := by rw [BitVec.toNat_ofNat]; exact Nat.mod_eq_of_lt ha
  have eb : (BitVec.ofNat 64 b).toNat = b := by rw [BitVec.toNat_ofNat]; exact Nat.mod_eq_of_lt hb
  rw [BitVec.toNat_add, BitVec.toNat_and, BitVec.toNat_and, BitVec.toNat_not, ea, eb] at h4
  have hl : a &&& b ≤ a := Nat.and_le_left
  have hl2 : a &&& (2 ^ 64 - 1 - b) ≤ a := Nat.and_le_left
  -- no carry: both are below 2 ^ 64, and the sum is a
  have h5 : (a &&& b) + (a &&& (2 ^ 64 - 1 - b)) < 2 ^ 64 ∨ (a &&& b) + (a &&& (2 ^ 64 - 1 - b)) = a + 2 ^ 64 := by
    by_cases hlt : (a &&& b) + (a &&& (2 ^ 64 - 1 - b)) < 2 ^ 64
    · exact .inl hlt
    · right; omega
  rcases h5 with h5 | h5
  · rw [Nat.mod_eq_of_lt h5] at h4; omega
  · omega
theorem i64_andNot (a b : Nat) (ha : a < 2 ^ 63) (hb : b < 2 ^ 63) : bits .andNot .i64 (a : Int) (b : Int) = ((a - (a &&& b) : Nat) : Int) := by
  have ea : (BitVec.ofInt 64 (a : Int)).toNat = a := by rw [BitVec.ofInt_natCast, BitVec.toNat_ofNat]; exact Nat.mod_eq_of_lt (by omega)
  have eb : (BitVec.ofInt 64 (b : Int)).toNat = b := by rw [BitVec.ofInt_natCast, BitVec.toNat_ofNat]; exact Nat.mod_eq_of_lt (by omega)
  show IntKind.i64.wrap ((BitVec.ofInt 64 (a : Int) &&& ~~~BitVec.ofInt 64 (b : Int)).toNat : Int) = _
  rw [BitVec.toNat_and, BitVec.toNat_not, ea, eb, and_sub a b (by omega) (by omega)]
  exact wraps_i64 _ (by omega) (by have : a - (a &&& b) ≤ a := Nat.sub_le _ _; omega)
theorem sub_zero_iff (a b : Nat) : (a - (a &&& b) = 0) ↔ inM a b = true := by
  have hl : a &&& b ≤ a := Nat.and_le_left
  unfold inM
  rw [beq_iff_eq]
  omega
theorem inM_lt {a b : Nat} {k : Nat} (h : inM a b = true) (hb : b < 2 ^ k) : a < 2 ^ k := by
  unfold inM at h
  rw [beq_iff_eq] at h
  rw [← h]
  exact Nat.and_lt_two_pow _ hb
end Go.Proofs.YtoedmmhiinhljaaDoor

/- A mask turned: both sides. -/
namespace Go.Proofs.YtoedmmhiinhljaaDoor
open Go.RowKit
set_option linter.unusedVariables false
attribute [local go_sem ↓] Go.wp_at_zero Go.wp_at_succ

def okMask (W : Int) (rows : List Int) (x : Int) : Bool := decide (0 ≤ x) && inM x.toNat (maskV W rows)
theorem maskV_62 {W : Int} {rows : List Int} (h : isReg W rows = true) : maskV W rows < 2 ^ 36 := by
  obtain ⟨n, rfl, hn1, hn6, hh1, hh6, _⟩ := isReg_yes h
  have h36 : n * rows.length ≤ 6 * 6 := Nat.mul_le_mul hn6 hh6
  exact Nat.lt_of_lt_of_le (maskV_lt h) (Nat.pow_le_pow_right (by omega) (by omega))
theorem maskV_lt2 {W : Int} {rows : List Int} (h : isReg W rows = true) : maskV W rows < 2 ^ (W.toNat * rows.length) := by
  obtain ⟨n, rfl, _⟩ := isReg_yes h
  exact maskV_lt h
def tmOk (W : Int) (rows : List Int) (x m : Int) : Bool := (motV W rows).any (· == m) && okMask W rows x
def tmV (W : Int) (rows : List Int) (x m : Int) : Int := if tmOk W rows x m then (turnTo W.toNat rows.length m.toNat x.toNat (W.toNat * rows.length) : Nat) else 0
theorem motTo_mem {n h mv : Nat} : ∀ {k : Nat} {x : Int}, x ∈ motTo n h mv k → ∃ m : Nat, m < k ∧ x = (m : Int) ∧ goesM n h m = true
  | 0, x, hx => by simp [motTo] at hx
  | k + 1, x, hx => by
    unfold motTo at hx
    rcases List.mem_append.1 hx with h1 | h1
    · obtain ⟨m, a, b, c⟩ := motTo_mem h1
      exact ⟨m, by omega, b, c⟩
    · split at h1
      · next hk =>
        simp only [List.mem_singleton] at h1
        unfold keepM at hk
        rw [Bool.and_eq_true] at hk
        exact ⟨k, by omega, h1, hk.1⟩
      · simp at h1
theorem motV_any {W : Int} {rows : List Int} {m : Int} (h : (motV W rows).any (· == m) = true) : isReg W rows = true ∧ ∃ k : Nat, k < 8 ∧ m = (k : Int) ∧ goesM W.toNat rows.length k = true := by
  unfold motV at h
  cases hv : isReg W rows with
  | false => rw [hv] at h; simp at h
  | true =>
    rw [hv, if_pos rfl, List.any_eq_true] at h
    obtain ⟨x, hx, he⟩ := h
    rw [beq_iff_eq] at he
    subst he
    exact ⟨rfl, motTo_mem hx⟩
theorem motV_len (W : Int) (rows : List Int) : (motV W rows).length ≤ 8 := by
  unfold motV
  split
  · exact motTo_len _ _ _ 8
  · simp
theorem isMask_i (W : Int) (A : Option Addr) (h c : Nat) (rows : List Int) (x : Int) (w : World) (hr : Rd w A (vI rows)) (hl : rows.length = h) (hv : isReg W rows = true) (hx : x < 9223372036854775808) :
    Calls Tryd.prog 24 #[.agg #[.int .i64 W, .slice A h c], .int .i64 x] w (Ret w (.bool (okMask W rows x))) := by
  have HL := Lib.hid hl
  have HT := Lib.hid hv
  have hm62 := maskV_62 hv
  clear hl hv
  by_cases h0 : 0 ≤ x
  · obtain ⟨k, rfl⟩ : ∃ k : Nat, x = (k : Int) := ⟨x.toNat, by omega⟩
    obtain ⟨v, hve⟩ : ∃ v, maskV W rows = v := ⟨_, rfl⟩
    have hV : okMask W rows (k : Int) = inM k v := by unfold okMask; rw [hve, decide_eq_true h0]; rfl
    rw [hve] at hm62
    have hand := i64_andNot k v (by omega) (by omega)
    obtain ⟨t, ht⟩ : ∃ t, k - (k &&& v) = t := ⟨_, rfl⟩
    rw [ht] at hand
    have hti := sub_zero_iff k v
    rw [ht] at hti
    have hge : (k : Int) ≥ 0 := h0
    have HVE := Lib.hid hve
    cases hi : inM k v with
    | true =>
      rw [hi] at hV hti
      have HV := Lib.hid hV
      have ht0 : ((t : Int) == 0) = true := by have := hti.2 rfl; simp [this]
      clear hV hti ht hi hm62 hve
      go_enter Tryd.func24, Tryd.ntmps24
      go_wp2_with fail
      refine (mask_i _ _ _ _ rows _ (hr.alloc _) HL.out HT.out).mono ?_
      rw [HVE.out]
      rintro e w1 ⟨rfl, hb1⟩
      go_wp2_with fail
      go_ret
      exact ⟨by rw [HV.out]; rfl, (by (repeat (first | with_reducible exact Below.refl _ _ | with_reducible assumption | with_reducible apply bel_alloc | with_reducible apply bel_drew | with_reducible apply bel_drewN | ((with_reducible refine bel_set ?_ ?_); rotate_left; (simp <;> omega)) | (with_reducible refine bel_trans ?_ (by with_reducible assumption)))))⟩
    | false =>
      rw [hi] at hV hti
      have HV := Lib.hid hV
      have ht0 : ((t : Int) == 0) = false := by rw [beq_eq_false_iff_ne]; intro h; exact absurd (hti.1 (by omega)) (by decide)
      clear hV hti ht hi hm62 hve
      go_enter Tryd.func24, Tryd.ntmps24
      go_wp2_with fail
      refine (mask_i _ _ _ _ rows _ (hr.alloc _) HL.out HT.out).mono ?_
      rw [HVE.out]
      rintro e w1 ⟨rfl, hb1⟩
      go_wp2_with fail
      go_ret
      exact ⟨by rw [HV.out]; rfl, (by (repeat (first | with_reducible exact Below.refl _ _ | with_reducible assumption | with_reducible apply bel_alloc | with_reducible apply bel_drew | with_reducible apply bel_drewN | ((with_reducible refine bel_set ?_ ?_); rotate_left; (simp <;> omega)) | (with_reducible refine bel_trans ?_ (by with_reducible assumption)))))⟩
  · have HV : Hid (okMask W rows x = false) := by show okMask W rows x = false; unfold okMask; rw [decide_eq_false h0]; rfl
    have hge : decide (x ≥ 0) = false := by simpa using h0
    go_enter Tryd.func24, Tryd.ntmps24
    go_wp2_with fail
    go_ret
    exact ⟨by rw [HV.out]; rfl, (by (repeat (first | with_reducible exact Below.refl _ _ | with_reducible assumption | with_reducible apply bel_alloc | with_reducible apply bel_drew | with_reducible apply bel_drewN | ((with_reducible refine bel_set ?_ ?_); rotate_left; (simp <;> omega)) | (with_reducible refine bel_trans ?_ (by with_reducible assumption)))))⟩
theorem TurnMask_s (W : Int) (A : Option Addr) (h c : Nat) (rows : List Int) (x m : Int) (w : World) (hr : Rd w A (vI rows)) (hl : rows.length = h) (hx : x < 9223372036854775808) :
    Calls Tryd.prog 18 #[.agg #[.int .i64 W, .slice A h c], .int .i64 x, .int .i64 m] w (Ret w (.tuple #[.int .i64 (tmV W rows x m), .bool (tmOk W rows x m)])) := by
  have HL := Lib.hid hl
  have hml := motV_len W rows
  cases ha : (motV W rows).any (· == m) with
  | false =>
    have HO : Hid (tmOk W rows x m = false) := by show tmOk W rows x m = false; unfold tmOk; rw [ha]; rfl
    have HV : Hid (tmV W rows x m = 0) := by show tmV W rows x m = 0; unfold tmV; rw [HO.out]; rfl
    have HA := Lib.hid ha
    clear ha hl
    go_enter Tryd.func18, Tryd.ntmps18
    go_wp2_with fail
    refine (RegionMotions_s _ _ _ _ rows _ (hr.alloc _) HL.out).mono ?_
    rintro e w1 ⟨B, q, cq, rfl, ho, hb1⟩
    have hq : (motV W rows).length = q := by have := own_len ho; rw [vI_length] at this; omega
    have HQ := Lib.hid hq
    have hq8 : q ≤ 1099511627776 := by omega
    clear hq hml
    go_wp2_with fail
    refine (l7Has_s _ _ _ _ m _ (Rd.of_own ho) HQ.out hq8).mono ?_
    rw [HA.out]
    rintro e w2 ⟨rfl, hb2⟩
    go_wp2_with fail
    go_ret2
    exact ⟨by rw [HV.out, HO.out]; rfl, (by (repeat (first | with_reducible exact Below.refl _ _ | with_reducible assumption | with_reducible apply bel_alloc | with_reducible apply bel_drew | with_reducible apply bel_drewN | ((with_reducible refine bel_set ?_ ?_); rotate_left; (simp <;> omega)) | (with_reducible refine bel_trans ?_ (by with_reducible assumption)))))⟩
  | true =>
    obtain ⟨hv, k, hk8, rfl, hg⟩ := motV_any ha
    have HT := Lib.hid hv
    have HA := Lib.hid ha
    have HB0 := Lib.hid (Blk.new w 28 #[.int .i64 W, .slice A h c])
    by_cases h0 : 0 ≤ x
    · obtain ⟨q0, rfl⟩ : ∃ q : Nat, x = (q : Int) := ⟨x.toNat, by omega⟩
      have hm62 := maskV_62 hv
      obtain ⟨v, hve⟩ : ∃ v, maskV W rows = v := ⟨_, rfl⟩
      rw [hve] at hm62
      have hand := i64_and q0 v (by omega) (by omega)
      obtain ⟨t, ht⟩ : ∃ t, q0 &&& v = t := ⟨_, rfl⟩
      rw [ht] at hand
      have hx0 : ¬ (q0 : Int) < 0 := by omega
      have hxd : decide ((q0 : Int) < 0) = false := by simp
      have HVE := Lib.hid hve
      cases hi : inM q0 v with
      | false =>
        have hi2 : okMask W rows (q0 : Int) = false := by unfold okMask; rw [hve, decide_eq_true h0]; exact hi
        have HO : Hid (tmOk W rows q0 k = false) := by show tmOk W rows q0 k = false; unfold tmOk; rw [ha, hi2]; rfl
        have HV : Hid (tmV W rows q0 k = 0) := by show tmV W rows q0 k = 0; unfold tmV; rw [HO.out]; rfl
        have htq : ((t : Int) != (q0 : Int)) = true := by
          unfold inM at hi
          rw [ht, beq_eq_false_iff_ne] at hi
          rw [bne_iff_ne]; omega
        clear ha hl hv hg hi hi2 ht hm62 hve
        go_enter Tryd.func18, Tryd.ntmps18
        go_wp2_with fail
        refine (RegionMotions_s _ _ _ _ rows _ (hr.alloc _) HL.out).mono ?_
        rintro e w1 ⟨B, q, cq, rfl, ho, hb1⟩
        have hq : (motV W rows).length = q := by have := own_len ho; rw [vI_length] at this; omega
        have HQ := Lib.hid hq
        have hq8 : q ≤ 1099511627776 := by omega
        clear hq
        go_wp2_with fail
        refine (l7Has_s _ _ _ _ k _ (Rd.of_own ho) HQ.out hq8).mono ?_
        rw [HA.out]
        rintro e w2 ⟨rfl, hb2⟩
        have hB2 := (HB0.out.below hb1).below hb2
        have f0 : w2.cell? ⟨w.heap.size, 0, none⟩ = some (.int .i64 W) := by simpa using hB2.cell 0
        have f1 : w2.cell? ⟨w.heap.size, 1, none⟩ = some (.slice A h c) := by simpa using hB2.cell 1
        have hgw2 := hB2.lt
        clear hB2
        go_wp2_with fail
        refine (MaskOf_s _ _ _ _ rows _ (((hr.alloc _).below hb1).below hb2) HL.out).mono ?_
        rw [HVE.out]
        rintro e w3 ⟨rfl, hb3⟩
        go_wp2_with fail
        go_ret2
        exact ⟨by rw [HV.out, HO.out]; rfl, (by (repeat (first | with_reducible exact Below.refl _ _ | with_reducible assumption | with_reducible apply bel_alloc | with_reducible apply bel_drew | with_reducible apply bel_drewN | ((with_reducible refine bel_set ?_ ?_); rotate_left; (simp <;> omega)) | (with_reducible refine bel_trans ?_ (by with_reducible assumption)))))⟩
      | true =>
        have hi2 : okMask W rows (q0 : Int) = true := by unfold okMask; rw [hve, decide_eq_true h0]; exact hi
        have HO : Hid (tmOk W rows q0 k = true) := by show tmOk W rows q0 k = true; unfold tmOk; rw [ha, hi2]; rfl
        have htq : ((t : Int) != (q0 : Int)) = false := by
          unfold inM at hi
          rw [ht, beq_iff_eq] at hi
          rw [hi]; simp
        have hlt : q0 < 2 ^ 62 := Nat.lt_trans (inM_lt hi hm62) (by decide)
        obtain ⟨n, rfl, hn1, hn6, hh1, hh6, _⟩ := isReg_yes hv
        rw [hl] at hh1 hh6 hg
        have HV : Hid (tmV n rows q0 k = (turnTo n h k q0 (n * h) : Nat)) := by show tmV n rows q0 k = _; unfold tmV; rw [HO.out, hl]; rfl
        have HG : Hid (goesM n h k = true) := hg
        have HLT := Lib.hid hlt
        clear ha hl hv hg hlt hi hi2 ht hm62 hve
        go_enter Tryd.func18, Tryd.ntmps18
        go_wp2_with fail
        refine (RegionMotions_s _ _ _ _ rows _ (hr.alloc _) HL.out).mono ?_
        rintro e w1 ⟨B, q, cq, rfl, ho, hb1⟩
        have hq : (motV (n : Int) rows).length = q := by have := own_len ho; rw [vI_length] at this; omega
        have HQ := Lib.hid hq
        have hq8 : q ≤ 1099511627776 := by omega
        clear hq
        go_wp2_with fail
        refine (l7Has_s _ _ _ _ k _ (Rd.of_own ho) HQ.out hq8).mono ?_
        rw [HA.out]
        rintro e w2 ⟨rfl, hb2⟩
        have hB2 := (HB0.out.below hb1).below hb2
        have f0 : w2.cell? ⟨w.heap.size, 0, none⟩ = some (.int .i64 (n : Int)) := by simpa using hB2.cell 0
        have f1 : w2.cell? ⟨w.heap.size, 1, none⟩ = some (.slice A h c) := by simpa using hB2.cell 1
        have hgw2 := hB2.lt
        clear hB2
        go_wp2_with fail
        refine (MaskOf_s _ _ _ _ rows _ (((hr.alloc _).below hb1).below hb2) HL.out).mono ?_
        rw [HVE.out]
        rintro e w3 ⟨rfl, hb3⟩
        have hB3 := ((HB0.out.below hb1).below hb2).below hb3
        have g0 : w3.cell? ⟨w.heap.size, 0, none⟩ = some (.int .i64 (n : Int)) := by simpa using hB3.cell 0
        have g1 : w3.cell? ⟨w.heap.size, 1, none⟩ = some (.slice A h c) := by simpa using hB3.cell 1
        have hgw3 := hB3.lt
        clear hB3 f0 f1
        go_wp2_with fail
        refine (l23Turn_s n A h c rows q0 k _ ((((hr.alloc _).below hb1).below hb2).below hb3) HL.out ⟨hn1, hn6⟩ ⟨hh1, hh6⟩ hk8 HG.out HLT.out).mono ?_
        rintro e w4 ⟨rfl, hb4⟩
        go_wp2_with fail
        go_ret2
        exact ⟨by rw [HV.out, HO.out]; rfl, (by (repeat (first | with_reducible exact Below.refl _ _ | with_reducible assumption | with_reducible apply bel_alloc | with_reducible apply bel_drew | with_reducible apply bel_drewN | ((with_reducible refine bel_set ?_ ?_); rotate_left; (simp <;> omega)) | (with_reducible refine bel_trans ?_ (by with_reducible assumption)))))⟩
    · have hi2 : okMask W rows x = false := by unfold okMask; rw [decide_eq_false h0]; rfl
      have HO : Hid (tmOk W rows x k = false) := by show tmOk W rows x k = false; unfold tmOk; rw [ha, hi2]; rfl
      have HV : Hid (tmV W rows x k = 0) := by show tmV W rows x k = 0; unfold tmV; rw [HO.out]; rfl
      have hxd : decide (x < 0) = true := by simp; omega
      clear ha hl hv hg hi2 h0
      go_enter Tryd.func18, Tryd.ntmps18
      go_wp2_with fail
      refine (RegionMotions_s _ _ _ _ rows _ (hr.alloc _) HL.out).mono ?_
      rintro e w1 ⟨B, q, cq, rfl, ho, hb1⟩
      have hq : (motV W rows).length = q := by have := own_len ho; rw [vI_length] at this; omega
      have HQ := Lib.hid hq
      have hq8 : q ≤ 1099511627776 := by omega
      clear hq
      go_wp2_with fail
      refine (l7Has_s _ _ _ _ k _ (Rd.of_own ho) HQ.out hq8).mono ?_
      rw [HA.out]
      rintro e w2 ⟨rfl, hb2⟩
      have hB2 := (HB0.out.below hb1).below hb2
      have f0 : w2.cell? ⟨w.heap.size, 0, none⟩ = some (.int .i64 W) := by simpa using hB2.cell 0
      have f1 : w2.cell? ⟨w.heap.size, 1, none⟩ = some (.slice A h c) := by simpa using hB2.cell 1
      have hgw2 := hB2.lt
      clear hB2
      go_wp2_with fail
      go_ret2
      exact ⟨by rw [HV.out, HO.out]; rfl, (by (repeat (first | with_reducible exact Below.refl _ _ | with_reducible assumption | with_reducible apply bel_alloc | with_reducible apply bel_drew | with_reducible apply bel_drewN | ((with_reducible refine bel_set ?_ ?_); rotate_left; (simp <;> omega)) | (with_reducible refine bel_trans ?_ (by with_reducible assumption)))))⟩
end Go.Proofs.YtoedmmhiinhljaaDoor

/- Stable sorting by a key: segments, rotations, merges. No program is in sight. -/
namespace Go.Proofs.YtoedmmhiinhljaaDoor
namespace StM
set_option linter.unusedVariables false
/-- The values from a on, n of them. -/
def sg (d : Nat → Int) (a : Nat) : Nat → List Int
  | 0 => []
  | n + 1 => d a :: sg d (a + 1) n
theorem sg_len (d : Nat → Int) : ∀ (n a : Nat), (sg d a n).length = n
  | 0, a => rfl
  | n + 1, a => by simp [sg, sg_len d n]
theorem sg_app (d : Nat → Int) : ∀ (n m a : Nat), sg d a (n + m) = sg d a n ++ sg d (a + n) m
  | 0, m, a => by simp [sg]
  | n + 1, m, a => by rw [Nat.succ_add]; simp only [sg, List.cons_append]; rw [sg_app d n m (a + 1), show a + 1 + n = a + (n + 1) by omega]
theorem sg_congr {d e : Nat → Int} : ∀ (n a b : Nat), (∀ k, k < n → d (a + k) = e (b + k)) → sg d a n = sg e b n
  | 0, a, b, h => rfl
  | n + 1, a, b, h => by
    simp only [sg]
    rw [show d a = e b from h 0 (by omega), sg_congr n (a + 1) (b + 1) fun k hk => by rw [show a + 1 + k = a + (k + 1) by omega, show b + 1 + k = b + (k + 1) by omega]; exact h _ (by omega)]
theorem sg_mem {d : Nat → Int} {x : Int} : ∀ {n a : Nat}, x ∈ sg d a n → ∃ k, a ≤ k ∧ k < a + n ∧ x = d k
  | 0, a, h => by simp [sg] at h
  | n + 1, a, h => by
    rcases List.mem_cons.1 h with h | h
    · exact ⟨a, Nat.le_refl _, by omega, h⟩
    · obtain ⟨k, h1, h2, h3⟩ := sg_mem h
      exact ⟨k, by omega, by omega, h3⟩
/-- [s, m) and [m, e) change places. -/
def rot (d : Nat → Int) (s m e : Nat) : Nat → Int := fun k => if k < s then d k else if k < s + (e - m) then d (m + (k - s)) else if k < e then d (k - (e - m)) else d k
variable (key : Int → Nat)
/-- Sorted by the key within [a, b). -/
def Srt (a b : Nat) (d : Nat → Int) : Prop := ∀ i j, a ≤ i → i < j → j < b → key (d i) ≤ key (d j)
/-- Within [a, b) the values of each key stay in their order; nothing else changes. -/
structure Stb (a b : Nat) (d d' : Nat → Int) : Prop where
  out : ∀ k, k < a ∨ b ≤ k → d' k = d k
  fil : ∀ q, (sg d' a (b - a)).filter (fun x => key x == q) = (sg d a (b - a)).filter (fun x => key x == q)
variable {key}
theorem Stb.refl (a b : Nat) (d : Nat → Int) : Stb key a b d d := ⟨fun _ _ => rfl, fun _ => rfl⟩
theorem Stb.trans {a b : Nat} {d e f : Nat → Int} (h : Stb key a b d e) (k : Stb key a b e f) : Stb key a b d f :=
  ⟨fun x hx => (k.out x hx).trans (h.out x hx), fun q => (k.fil q).trans (h.fil q)⟩
theorem Stb.mono {a b a' b' : Nat} {d e : Nat → Int} (h : Stb key a' b' d e) (h1 : a ≤ a') (h2 : a' ≤ b') (h3 : b' ≤ b) : Stb key a b d e := by
  refine ⟨fun x hx => h.out x (by omega), fun q => ?_⟩
  have key2 : ∀ f : Nat → Int, sg f a (b - a) = sg f a (a' - a) ++ (sg f a' (b' - a') ++ sg f b' (b - b')) := fun f => by
    have e1 := sg_app f (a' - a) (b - a') a
    have e2 := sg_app f (b' - a') (b - b') a'
    rw [show a' - a + (b - a') = b - a by omega, show a + (a' - a) = a' by omega] at e1
    rw [show b' - a' + (b - b') = b - a' by omega, show a' + (b' - a') = b' by omega] at e2
    rw [e1, e2]
  rw [key2, key2]
  simp only [List.filter_append]
  rw [h.fil q, sg_congr (d := e) (e := d) (a' - a) a a fun k hk => h.out _ (by omega), sg_congr (d := e) (e := d) (b - b') b' b' fun k hk => h.out _ (by omega)]
/-- A value of the new segment was one of the old. -/
theorem Stb.from_ {a b : Nat} {d e : Nat → Int} (h : Stb key a b d e) {k : Nat} (h1 : a ≤ k) (h2 : k < b) : ∃ i, a ≤ i ∧ i < b ∧ e k = d i := by
  have hm : ∀ (n a : Nat) (k : Nat), a ≤ k → k < a + n → e k ∈ sg e a n := by
    intro n
    induction n with
    | zero => intro a k h1 h2; omega
    | succ n ih =>
      intro a k h1 h2
      by_cases hk : k = a
      · subst hk; exact List.mem_cons_self ..
      · exact List.mem_cons_of_mem _ (ih (a + 1) k (by omega) (by omega))
  have h3 : e k ∈ (sg e a (b - a)).filter (fun x => key x == key (e k)) := List.mem_filter.2 ⟨hm _ _ _ h1 (by omega), by simp⟩
  rw [h.fil] at h3
  obtain ⟨i, h4, h5, h6⟩ := sg_mem (List.mem_filter.1 h3).1
  exact ⟨i, h4, by omega, h6⟩
theorem fil_swap {A B : List Int} (h : ∀ x ∈ A, ∀ y ∈ B, key x ≠ key y) (q : Nat) : (B ++ A).filter (fun x => key x == q) = (A ++ B).filter (fun x => key x == q) := by
  rw [List.filter_append, List.filter_append]
  by_cases hA : A.filter (fun x => key x == q) = []
  · rw [hA]; simp
  · have hB : B.filter (fun x => key x == q) = [] := by
      rw [List.filter_eq_nil_iff]
      intro y hy hyq
      obtain ⟨x, hx⟩ := List.exists_mem_of_ne_nil _ hA
      obtain ⟨hx1, hx2⟩ := List.mem_filter.1 hx
      exact h x hx1 y hy (by rw [beq_iff_eq] at hx2 hyq; rw [hx2, hyq])
    rw [hB]; simp
theorem rot_stb {d : Nat → Int} {s m e : Nat} (h1 : s ≤ m) (h2 : m ≤ e) (h : ∀ i j, s ≤ i → i < m → m ≤ j → j < e → key (d j) < key (d i)) : Stb key s e d (rot d s m e) := by
  refine ⟨fun k hk => ?_, fun q => ?_⟩
  · unfold rot
    by_cases h3 : k < s
    · rw [if_pos h3]
    · rw [if_neg h3, if_neg (by omega), if_neg (by omega)]
  · have e1 := sg_app (rot d s m e) (e - m) (m - s) s
    have e2 := sg_app d (m - s) (e - m) s
    rw [show e - m + (m - s) = e - s by omega] at e1
    rw [show m - s + (e - m) = e - s by omega, show s + (m - s) = m by omega] at e2
    have e3 : sg (rot d s m e) s (e - m) = sg d m (e - m) := sg_congr _ _ _ fun k hk => by
      unfold rot
      rw [if_neg (by omega), if_pos (by omega), show s + k - s = k by omega]
    have e4 : sg (rot d s m e) (s + (e - m)) (m - s) = sg d s (m - s) := sg_congr _ _ _ fun k hk => by
      unfold rot
      rw [if_neg (by omega), if_neg (by omega), if_pos (by omega), show s + (e - m) + k - (e - m) = s + k by omega]
    rw [e1, e2, e3, e4]
    refine fil_swap (fun x hx y hy => ?_) q
    obtain ⟨i, hi1, hi2, rfl⟩ := sg_mem hx
    obtain ⟨j, hj1, hj2, rfl⟩ := sg_mem hy
    have := h i j hi1 (by omega) hj1 (by omega)
    omega
/-- Sorted lists with the same values of each key, in order, are equal. -/
theorem stab_unique : ∀ {L M : List Int}, L.Pairwise (fun x y => key x ≤ key y) → M.Pairwise (fun x y => key x ≤ key y) → (∀ q, L.filter (fun x => key x == q) = M.filter (fun x => key x == q)) → L = M
  | [], [], _, _, _ => rfl
  | [], y :: M, _, _, h => by have := h (key y); simp at this
  | x :: L, [], _, _, h => by have := h (key x); simp at this
  | x :: L, y :: M, hL, hM, h => by
    have hL' := List.pairwise_cons.1 hL
    have hM' := List.pairwise_cons.1 hM
    have k1 : key y ≤ key x := by
      have h1 : x ∈ (y :: M).filter (fun z => key z == key x) := by rw [← h]; simp
      rcases List.mem_cons.1 (List.mem_filter.1 h1).1 with e | e
      · rw [e]; exact Nat.le_refl _
      · exact hM'.1 _ e
    have k2 : key x ≤ key y := by
      have h1 : y ∈ (x :: L).filter (fun z => key z == key y) := by rw [h]; simp
      rcases List.mem_cons.1 (List.mem_filter.1 h1).1 with e | e
      · rw [e]; exact Nat.le_refl _
      · exact hL'.1 _ e
    have hk : key x = key y := Nat.le_antisymm k2 k1
    have hxy : x = y := by
      have h1 := h (key x)
      rw [List.filter_cons_of_pos (by simp), List.filter_cons_of_pos (by simp [hk])] at h1
      exact (List.cons.inj h1).1
    subst hxy
    congr 1
    refine stab_unique hL'.2 hM'.2 fun q => ?_
    have h1 := h q
    simp only [List.filter_cons] at h1
    split at h1
    · exact (List.cons.inj h1).2
    · exact h1

/-- Two segments of n values change places. -/
def sw (d : Nat → Int) (a b n : Nat) : Nat → Int := fun k => if a ≤ k ∧ k < a + n then d (b + (k - a)) else if b ≤ k ∧ k < b + n then d (a + (k - b)) else d k
theorem rot_idl (d : Nat → Int) (m e : Nat) (h : m ≤ e) : rot d m m e = d := by
  funext k
  unfold rot
  split
  · rfl
  · split
    · congr 1; omega
    · split
      · omega
      · rfl
theorem rot_idr (d : Nat → Int) (s m : Nat) (h : s ≤ m) : rot d s m m = d := by
  funext k
  unfold rot
  split
  · rfl
  · split
    · omega
    · split
      · congr 1; omega
      · rfl
theorem rot_gt (d : Nat → Int) (m i j : Nat) (h : j < i) (hi : i ≤ m) : rot (sw d (m - i) m j) (m - (i - j)) m (m + j) = rot d (m - i) m (m + j) := by
  funext k
  unfold rot sw
  repeat' split
  all_goals first
    | omega
    | (congr 1; omega)
theorem rot_lt (d : Nat → Int) (m i j : Nat) (h : i < j) (hi : i ≤ m) : rot (sw d (m - i) (m + j - i) i) (m - i) m (m + (j - i)) = rot d (m - i) m (m + j) := by
  funext k
  unfold rot sw
  repeat' split
  all_goals first
    | omega
    | (congr 1; omega)
theorem rot_eq (d : Nat → Int) (m i : Nat) (hi : i ≤ m) : sw d (m - i) m i = rot d (m - i) m (m + i) := by
  funext k
  unfold rot sw
  repeat' split
  all_goals first
    | omega
    | (congr 1; omega)
/-- One pair more of two segments. -/
theorem sw_succ (d : Nat → Int) (a b n : Nat) (h : a + (n + 1) ≤ b) : (fun k => if k = a + n then sw d a b n (b + n) else if k = b + n then sw d a b n (a + n) else sw d a b n k) = sw d a b (n + 1) := by
  funext k
  unfold sw
  repeat' split
  all_goals first
    | omega
    | (congr 1; omega)
theorem merge1 {d : Nat → Int} {a m b i : Nat} (hm : m = a + 1) (h1 : m ≤ i) (h2 : i ≤ b) (hs : Srt key m b d) (hl : ∀ k, m ≤ k → k < i → key (d k) < key (d a)) (hr : ∀ k, i ≤ k → k < b → key (d a) ≤ key (d k)) :
    Stb key a b d (rot d a m i) ∧ Srt key a b (rot d a m i) := by
  refine ⟨(rot_stb (by omega) h1 fun x y hx1 hx2 hy1 hy2 => ?_).mono (Nat.le_refl _) (by omega) h2, fun x y hx hxy hy => ?_⟩
  · obtain rfl : x = a := by omega
    exact hl y hy1 hy2
  · unfold rot
    rw [if_neg (by omega), if_neg (by omega : ¬ y < a)]
    by_cases c1 : x < a + (i - m)
    · rw [if_pos c1]
      by_cases c2 : y < a + (i - m)
      · rw [if_pos c2]; exact hs _ _ (by omega) (by omega) (by omega)
      · rw [if_neg c2]
        by_cases c3 : y < i
        · rw [if_pos c3, show y - (i - m) = a by omega]
          exact Nat.le_of_lt (hl _ (by omega) (by omega))
        · rw [if_neg c3]; exact hs _ _ (by omega) (by omega) (by omega)
    · rw [if_neg c1, if_neg (by omega : ¬ y < a + (i - m)), if_neg (by omega : ¬ y < i)]
      by_cases c3 : x < i
      · rw [if_pos c3, show x - (i - m) = a by omega]; exact hr _ (by omega) hy
      · rw [if_neg c3]; exact hs _ _ (by omega) (by omega) (by omega)
theorem merge2 {d : Nat → Int} {a m b i : Nat} (hm : b = m + 1) (h1 : a ≤ i) (h2 : i ≤ m) (hs : Srt key a m d) (hl : ∀ k, a ≤ k → k < i → key (d k) ≤ key (d m)) (hr : ∀ k, i ≤ k → k < m → key (d m) < key (d k)) :
    Stb key a b d (rot d i m b) ∧ Srt key a b (rot d i m b) := by
  refine ⟨(rot_stb h2 (by omega) fun x y hx1 hx2 hy1 hy2 => ?_).mono h1 (by omega) (Nat.le_refl _), fun x y hx hxy hy => ?_⟩
  · obtain rfl : y = m := by omega
    exact hr x hx1 hx2
  · unfold rot
    by_cases c1 : x < i
    · rw [if_pos c1]
      by_cases c2 : y < i
      · rw [if_pos c2]; exact hs _ _ (by omega) (by omega) (by omega)
      · rw [if_neg c2]
        by_cases c3 : y < i + (b - m)
        · rw [if_pos c3, show m + (y - i) = m by omega]; exact hl _ (by omega) c1
        · rw [if_neg c3, if_pos hy]; exact hs _ _ (by omega) (by omega) (by omega)
    · rw [if_neg c1, if_neg (by omega : ¬ y < i)]
      rw [if_neg (by omega : ¬ y < i + (b - m)), if_pos hy]
      by_cases c3 : x < i + (b - m)
      · rw [if_pos c3, show m + (x - i) = m by omega]; exact Nat.le_of_lt (hr _ (by omega) (by omega))
      · rw [if_neg c3, if_pos (by omega)]; exact hs _ _ (by omega) (by omega) (by omega)
/-- After the rotation in the middle. -/
theorem half {d : Nat → Int} {a m b s e q : Nat} (h1 : a ≤ s) (h2 : s ≤ m) (h3 : m ≤ e) (h4 : e ≤ b) (hq : q = s + (e - m)) (h5 : Srt key a m d) (h6 : Srt key m b d)
    (lo : ∀ i j, a ≤ i → i < s → e ≤ j → j < b → key (d i) ≤ key (d j)) (hi : ∀ i j, s ≤ i → i < m → m ≤ j → j < e → key (d j) < key (d i)) :
    Stb key a b d (rot d s m e) ∧ Srt key a s (rot d s m e) ∧ Srt key s q (rot d s m e) ∧ Srt key q e (rot d s m e) ∧ Srt key e b (rot d s m e) ∧ (∀ x y, a ≤ x → x < q → q ≤ y → y < b → key (rot d s m e x) ≤ key (rot d s m e y)) := by
  subst hq
  have p1 : ∀ k, k < s → rot d s m e k = d k := fun k hk => by unfold rot; rw [if_pos hk]
  have p2 : ∀ k, s ≤ k → k < s + (e - m) → rot d s m e k = d (m + (k - s)) := fun k hk hk2 => by unfold rot; rw [if_neg (by omega), if_pos hk2]
  have p3 : ∀ k, s + (e - m) ≤ k → k < e → rot d s m e k = d (k - (e - m)) := fun k hk hk2 => by unfold rot; rw [if_neg (by omega), if_neg (by omega), if_pos hk2]
  have p4 : ∀ k, e ≤ k → rot d s m e k = d k := fun k hk => by unfold rot; rw [if_neg (by omega), if_neg (by omega), if_neg (by omega)]
  refine ⟨(rot_stb h2 h3 hi).mono h1 (by omega) h4, fun x y hx hxy hy => ?_, fun x y hx hxy hy => ?_, fun x y hx hxy hy => ?_, fun x y hx hxy hy => ?_, fun x y hx hx2 hy hy2 => ?_⟩
  · rw [p1 _ (by omega), p1 _ hy]; exact h5 _ _ hx hxy (by omega)
  · rw [p2 _ hx (by omega), p2 _ (by omega) hy]; exact h6 _ _ (by omega) (by omega) (by omega)
  · rw [p3 _ hx (by omega), p3 _ (by omega) hy]; exact h5 _ _ (by omega) (by omega) (by omega)
  · rw [p4 _ hx, p4 _ (by omega)]; exact h6 _ _ (by omega) hxy hy
  · by_cases c1 : x < s
    · rw [p1 _ c1]
      by_cases c2 : y < e
      · rw [p3 _ hy c2]
        exact h5 _ _ hx (by omega) (by omega)
      · rw [p4 _ (by omega)]; exact lo _ _ hx c1 (by omega) hy2
    · rw [p2 _ (by omega) hx2]
      by_cases c2 : y < e
      · rw [p3 _ hy c2]; exact Nat.le_of_lt (hi _ _ (by omega) (by omega) (by omega) (by omega))
      · rw [p4 _ (by omega)]; exact h6 _ _ (by omega) (by omega) hy2
/-- Both halves merged: all is merged. -/
theorem join {d e f : Nat → Int} {a q b : Nat} (h1 : a ≤ q) (h2 : q ≤ b) (hx : ∀ x y, a ≤ x → x < q → q ≤ y → y < b → key (d x) ≤ key (d y))
    (s1 : Stb key a q d e) (t1 : Srt key a q e) (s2 : Stb key q b e f) (t2 : Srt key q b f) : Stb key a b d f ∧ Srt key a b f := by
  refine ⟨(s1.mono (Nat.le_refl _) h1 h2).trans (s2.mono h1 h2 (Nat.le_refl _)), fun x y hx1 hxy hy => ?_⟩
  by_cases c1 : y < q
  · rw [s2.out _ (.inl (by omega)), s2.out _ (.inl c1)]; exact t1 _ _ hx1 hxy c1
  · by_cases c2 : x < q
    · rw [s2.out _ (.inl c2)]
      obtain ⟨i, i1, i2, i3⟩ := s1.from_ (k := x) hx1 c2
      obtain ⟨j, j1, j2, j3⟩ := s2.from_ (k := y) (by omega) hy
      rw [i3, j3, s1.out _ (.inr j1)]
      exact hx _ _ i1 i2 j1 j2
    · exact t2 _ _ (by omega) hxy hy
/-- What the search by halves finds, one way or the other. -/
theorem start_lo {d : Nat → Int} {a m b mid s r0 s0 : Nat} (hab : a < m) (hmb : m < b) (hmid : mid = (a + b) / 2) (hs0 : (mid < m ∧ s0 = mid + m - b ∧ r0 = mid) ∨ (m ≤ mid ∧ s0 = a ∧ r0 = m)) (h1 : s0 ≤ s) (h2 : s ≤ r0)
    (h5 : Srt key a m d) (h6 : Srt key m b d) (hlo : ∀ c, s0 ≤ c → c < s → key (d c) ≤ key (d (mid + m - 1 - c))) (hhi : ∀ c, s ≤ c → c < r0 → key (d (mid + m - 1 - c)) < key (d c)) :
    a ≤ s ∧ s ≤ m ∧ m ≤ mid + m - s ∧ mid + m - s ≤ b ∧ mid = s + (mid + m - s - m) ∧ (∀ i j, a ≤ i → i < s → mid + m - s ≤ j → j < b → key (d i) ≤ key (d j)) ∧ (∀ i j, s ≤ i → i < m → m ≤ j → j < mid + m - s → key (d j) < key (d i)) := by
  refine ⟨by omega, by omega, by omega, by omega, by omega, fun i j hi1 hi2 hj1 hj2 => ?_, fun i j hi1 hi2 hj1 hj2 => ?_⟩
  · by_cases c : s0 < s
    · have k1 := hlo (s - 1) (by omega) (by omega)
      have k2 : key (d i) ≤ key (d (s - 1)) := by
        by_cases e : i = s - 1
        · rw [e]; exact Nat.le_refl _
        · exact h5 _ _ hi1 (by omega) (by omega)
      have k3 : key (d (mid + m - 1 - (s - 1))) ≤ key (d j) := by
        by_cases e : mid + m - 1 - (s - 1) = j
        · rw [e]; exact Nat.le_refl _
        · exact h6 _ _ (by omega) (by omega) hj2
      omega
    · omega
  · by_cases c : s < r0
    · have k1 := hhi s (Nat.le_refl _) c
      have k2 : key (d s) ≤ key (d i) := by
        by_cases e : s = i
        · rw [e]; exact Nat.le_refl _
        · exact h5 _ _ (by omega) (by omega) hi2
      have k3 : key (d j) ≤ key (d (mid + m - 1 - s)) := by
        by_cases e : j = mid + m - 1 - s
        · rw [e]; exact Nat.le_refl _
        · exact h6 _ _ hj1 (by omega) (by omega)
      omega
    · omega

/-- Where a value goes in: behind the last one whose key is no greater. -/
def pos (key : Int → Nat) (x : Int) (out : List Int) : Nat → Nat
  | 0 => 0
  | k + 1 => if key x < key (out.getD k 0) then pos key x out k else k + 1
theorem pos_le (x : Int) (out : List Int) : ∀ k, pos key x out k ≤ k
  | 0 => Nat.le_refl _
  | k + 1 => by
    unfold pos
    split
    · exact Nat.le_succ_of_le (pos_le x out k)
    · exact Nat.le_refl _
theorem pos_hi (x : Int) (out : List Int) : ∀ k j, pos key x out k ≤ j → j < k → key x < key (out.getD j 0)
  | 0, j, _, h => by omega
  | k + 1, j, h1, h2 => by
    unfold pos at h1
    split at h1
    · next h =>
      by_cases e : j = k
      · rw [e]; exact h
      · exact pos_hi x out k j h1 (by omega)
    · omega
theorem pos_lo (x : Int) (out : List Int) : ∀ k, 0 < pos key x out k → key (out.getD (pos key x out k - 1) 0) ≤ key x
  | 0, h => by simp [pos] at h
  | k + 1, h => by
    unfold pos at h ⊢
    split
    · next h2 => rw [if_pos h2] at h; exact pos_lo x out k h
    · next h2 => simpa using h2
def insS (key : Int → Nat) (out : List Int) (x : Int) : List Int := out.take (pos key x out out.length) ++ x :: out.drop (pos key x out out.length)
def stS (key : Int → Nat) (L : List Int) : List Int := L.foldl (insS key) []
theorem insS_fil (out : List Int) (x : Int) (q : Nat) : (insS key out x).filter (fun z => key z == q) = (out ++ [x]).filter (fun z => key z == q) := by
  obtain ⟨k, hk⟩ : ∃ k, pos key x out out.length = k := ⟨_, rfl⟩
  have hd : ∀ y ∈ out.drop k, ∀ z ∈ [x], key y ≠ key z := fun y hy z hz => by
    obtain ⟨j, hj, rfl⟩ := List.mem_iff_getElem.1 hy
    rw [List.getElem_drop]
    rw [List.length_drop] at hj
    have := pos_hi (key := key) x out out.length (k + j) (by omega) (by omega)
    rw [List.getD_eq_getElem?_getD, List.getElem?_eq_getElem (by omega), Option.getD_some] at this
    simp only [List.mem_singleton] at hz
    subst hz
    omega
  have h2 := fil_swap (key := key) hd q
  unfold insS
  rw [hk, show x :: out.drop k = [x] ++ out.drop k from rfl, List.filter_append, h2, ← List.filter_append, ← List.append_assoc, List.take_append_drop]
theorem insS_srt {out : List Int} {x : Int} (h : out.Pairwise fun a b => key a ≤ key b) : (insS key out x).Pairwise fun a b => key a ≤ key b := by
  obtain ⟨k, hk⟩ : ∃ k, pos key x out out.length = k := ⟨_, rfl⟩
  have hkl : k ≤ out.length := hk ▸ pos_le x out out.length
  have hg : ∀ i j (hij : i < j) (hj : j < out.length), key (out[i]'(by omega)) ≤ key out[j] := fun i j hij hj => List.pairwise_iff_getElem.1 h i j (by omega) hj hij
  have hT : ∀ y ∈ out.take k, key y ≤ key x := fun y hy => by
    obtain ⟨j, hj, rfl⟩ := List.mem_iff_getElem.1 hy
    rw [List.length_take] at hj
    rw [List.getElem_take]
    have h1 := pos_lo (key := key) x out out.length (by rw [hk]; omega)
    rw [hk, List.getD_eq_getElem?_getD, List.getElem?_eq_getElem (by omega), Option.getD_some] at h1
    by_cases e : j = k - 1
    · subst e; exact h1
    · exact Nat.le_trans (hg j (k - 1) (by omega) (by omega)) h1
  have hD : ∀ y ∈ out.drop k, key x ≤ key y := fun y hy => by
    obtain ⟨j, hj, rfl⟩ := List.mem_iff_getElem.1 hy
    rw [List.length_drop] at hj
    rw [List.getElem_drop]
    have := pos_hi (key := key) x out out.length (k + j) (by omega) (by omega)
    rw [List.getD_eq_getElem?_getD, List.getElem?_eq_getElem (by omega), Option.getD_some] at this
    omega
  have hs := h
  rw [← List.take_append_drop k out, List.pairwise_append] at hs
  unfold insS
  rw [hk, List.pairwise_append]
  refine ⟨hs.1, List.pairwise_cons.2 ⟨hD, hs.2.1⟩, fun a ha b hb => ?_⟩
  rcases List.mem_cons.1 hb with e | hb
  · rw [e]; exact hT a ha
  · exact hs.2.2 a ha b hb
theorem stS_both (L : List Int) : (stS key L).Pairwise (fun a b => key a ≤ key b) ∧ ∀ q, (stS key L).filter (fun z => key z == q) = L.filter (fun z => key z == q) := by
  have gen : ∀ (L out : List Int), out.Pairwise (fun a b => key a ≤ key b) → (L.foldl (insS key) out).Pairwise (fun a b => key a ≤ key b) ∧ ∀ q, (L.foldl (insS key) out).filter (fun z => key z == q) = (out ++ L).filter (fun z => key z == q) := by
    intro L
    induction L with
    | nil => intro out h; exact ⟨h, fun q => by simp⟩
    | cons x t ih =>
      intro out h
      obtain ⟨h1, h2⟩ := ih (insS key out x) (insS_srt h)
      refine ⟨h1, fun q => ?_⟩
      rw [List.foldl_cons, h2, List.filter_append, insS_fil, ← List.filter_append, List.append_assoc]
      rfl
  have h := gen L [] List.Pairwise.nil
  exact ⟨h.1, fun q => by rw [show stS key L = L.foldl (insS key) [] from rfl, h.2 q]; rfl⟩
theorem stS_len (L : List Int) : (stS key L).length = L.length := by
  have gen : ∀ (L out : List Int), (L.foldl (insS key) out).length = out.length + L.length := by
    intro L
    induction L with
    | nil => intro out; simp
    | cons x t ih =>
      intro out
      have hkl := pos_le (key := key) x out out.length
      rw [List.foldl_cons, ih]
      unfold insS
      simp only [List.length_append, List.length_take, List.length_cons, List.length_drop]
      omega
  have := gen L []
  simpa [stS] using this
theorem sg_pair {d : Nat → Int} {a n : Nat} (h : Srt key a (a + n) d) : (sg d a n).Pairwise (fun x y => key x ≤ key y) := by
  induction n generalizing a with
  | zero => exact List.Pairwise.nil
  | succ n ih =>
    refine List.pairwise_cons.2 ⟨fun y hy => ?_, ih (a := a + 1) fun i j h1 h2 h3 => h i j (by omega) h2 (by omega)⟩
    obtain ⟨k, h1, h2, rfl⟩ := sg_mem hy
    exact h a k (Nat.le_refl _) (by omega) (by omega)
/-- What any stable sort gives. -/
theorem stb_eq {d e : Nat → Int} {n : Nat} (h : Stb key 0 n d e) (hs : Srt key 0 n e) : sg e 0 n = stS key (sg d 0 n) := by
  obtain ⟨h1, h2⟩ := stS_both (key := key) (sg d 0 n)
  refine stab_unique (sg_pair (by rw [Nat.zero_add]; exact hs)) h1 fun q => ?_
  rw [h2 q]
  have := h.fil q
  rw [Nat.sub_zero] at this
  exact this
/-- One step of the insertion sort: two neighbours out of order change places. -/
theorem nb_stb {d : Nat → Int} {j : Nat} (h0 : 0 < j) (h : key (d j) < key (d (j - 1))) : Stb key (j - 1) (j + 1) d (rot d (j - 1) j (j + 1)) :=
  rot_stb (by omega) (by omega) fun x y hx1 hx2 hy1 hy2 => by
    obtain rfl : x = j - 1 := by omega
    obtain rfl : y = j := by omega
    exact h
theorem nb_swap (d : Nat → Int) (j : Nat) (h0 : 0 < j) : (fun k => if k = j then d (j - 1) else if k = j - 1 then d j else d k) = rot d (j - 1) j (j + 1) := by
  funext k
  unfold rot
  repeat' split
  all_goals first
    | omega
    | (congr 1; omega)
end StM
end Go.Proofs.YtoedmmhiinhljaaDoor

/- More of stable sorting: single exchanges, the insertion's inner loop, blocks. No program is in sight. -/
namespace Go.Proofs.YtoedmmhiinhljaaDoor
namespace StM
set_option linter.unusedVariables false
variable {key : Int → Nat}
/-- Two values change places. -/
def sw2 (d : Nat → Int) (i j : Nat) : Nat → Int := fun k => if k = i then d j else if k = j then d i else d k
theorem sw2_nb (d : Nat → Int) {j p : Nat} (h : j = p + 1) : sw2 d j p = rot d p j (j + 1) := by
  have := nb_swap d j (by omega)
  rw [show j - 1 = p by omega] at this
  exact this
theorem sw2_sw (d : Nat → Int) (a b n : Nat) (h : a + (n + 1) ≤ b) : sw2 (sw d a b n) (a + n) (b + n) = sw d a b (n + 1) := sw_succ d a b n h
theorem sw_zero (d : Nat → Int) (a b : Nat) : sw d a b 0 = d := by
  funext k
  unfold sw
  rw [if_neg (by omega), if_neg (by omega)]
/-- The first value of a segment wanders on by one. -/
theorem rot_up (d : Nat → Int) {a m k : Nat} (hm : m = a + 1) (h : a ≤ k) : sw2 (rot d a m (k + 1)) k (k + 1) = rot d a m (k + 2) := by
  subst hm
  funext x
  unfold sw2 rot
  repeat' split
  all_goals first
    | omega
    | (congr 1; omega)
/-- The last value of a segment wanders back by one. -/
theorem rot_dn (d : Nat → Int) {p k m b : Nat} (hb : b = m + 1) (hk : k = p + 1) (h : k ≤ m) : sw2 (rot d k m b) k p = rot d p m b := by
  subst hb
  subst hk
  funext x
  unfold sw2 rot
  repeat' split
  all_goals first
    | omega
    | (congr 1; omega)
/-- Two neighbours out of order change places. -/
theorem nb2 {a b j p : Nat} {d : Nat → Int} (hj : j = p + 1) (h : key (d j) < key (d p)) (h1 : a ≤ p) (h2 : j < b) : Stb key a b d (sw2 d j p) := by
  have k := nb_stb (key := key) (d := d) (j := j) (by omega) (by rw [show j - 1 = p by omega]; exact h)
  rw [show j - 1 = p by omega] at k
  rw [sw2_nb d hj]
  exact k.mono h1 (by omega) (by omega)
/-- Sorted but for place j, whose value is less than all behind it. -/
def Nr (key : Int → Nat) (a i j : Nat) (d : Nat → Int) : Prop :=
  (∀ x y, a ≤ x → x < y → y ≤ i → x ≠ j → y ≠ j → key (d x) ≤ key (d y)) ∧ (∀ y, j < y → y ≤ i → key (d j) < key (d y))
theorem Nr.start {a i : Nat} {d : Nat → Int} (h : Srt key a i d) : Nr key a i i d :=
  ⟨fun x y h1 h2 h3 h4 h5 => h x y h1 h2 (by omega), fun y h1 h2 => by omega⟩
theorem Nr.step {a i j p : Nat} {d : Nat → Int} (h : Nr key a i j d) (hj : j = p + 1) (ha : a ≤ p) (hi : j ≤ i) (hl : key (d j) < key (d p)) : Nr key a i p (sw2 d j p) := by
  subst hj
  refine ⟨fun x y h1 h2 h3 h4 h5 => ?_, fun y h1 h2 => ?_⟩
  · unfold sw2
    rw [if_neg h4, if_neg h5]
    by_cases c1 : x = p + 1
    · rw [if_pos c1, if_neg (by omega)]
      exact h.1 p y (by omega) (by omega) h3 (by omega) (by omega)
    · rw [if_neg c1]
      by_cases c2 : y = p + 1
      · rw [if_pos c2]
        exact h.1 x p h1 (by omega) (by omega) c1 (by omega)
      · rw [if_neg c2]
        exact h.1 x y h1 h2 h3 c1 c2
  · unfold sw2
    rw [if_neg (by omega : ¬ p = p + 1), if_pos rfl]
    by_cases c2 : y = p + 1
    · rw [if_pos c2]; exact hl
    · rw [if_neg c2, if_neg (by omega)]
      exact h.2 y (by omega) h2
theorem Nr.stop {a i j : Nat} {d : Nat → Int} (h : Nr key a i j d) (ha : a ≤ j) (hi : j ≤ i) (hl : j = a ∨ ∃ p, j = p + 1 ∧ key (d p) ≤ key (d j)) : Srt key a (i + 1) d := by
  intro x y h1 h2 h3
  by_cases c1 : x = j
  · subst c1; exact Nat.le_of_lt (h.2 y h2 (by omega))
  · by_cases c2 : y = j
    · rcases hl with e | ⟨p, e, hp⟩
      · omega
      · subst c2
        by_cases c3 : x = p
        · rw [c3]; exact hp
        · exact Nat.le_trans (h.1 x p h1 (by omega) (by omega) c1 (by omega)) hp
    · exact h.1 x y h1 h2 (by omega) c1 c2
theorem Srt.one (a b : Nat) (d : Nat → Int) (h : b ≤ a + 1) : Srt key a b d := fun i j h1 h2 h3 => by omega
theorem Srt.sub {a b a' b' : Nat} {d : Nat → Int} (h : Srt key a b d) (h1 : a ≤ a') (h2 : b' ≤ b) : Srt key a' b' d := fun i j x y z => h i j (by omega) y (by omega)
theorem Srt.eq {a b : Nat} {d e : Nat → Int} (h : Srt key a b d) (he : ∀ k, a ≤ k → k < b → e k = d k) : Srt key a b e := fun i j h1 h2 h3 => by
  rw [he i h1 (by omega), he j (by omega) h3]; exact h i j h1 h2 h3
/-- Each block of so many places is in order, for the blocks that begin before u. -/
def Bs (key : Int → Nat) (s n u : Nat) (d : Nat → Int) : Prop := ∀ a, s ∣ a → a < u → Srt key a (min (a + s) n) d
theorem Bs.zero (s n : Nat) (d : Nat → Int) : Bs key s n 0 d := fun a _ h => by omega
theorem dvd_lt {s a b : Nat} (h1 : s ∣ a) (h2 : s ∣ b) (h : a < b + s) : a ≤ b := by
  obtain ⟨x, rfl⟩ := h1
  obtain ⟨y, rfl⟩ := h2
  refine Nat.mul_le_mul_left _ ?_
  refine Nat.lt_succ_iff.1 (Nat.lt_of_mul_lt_mul_left (a := s) ?_)
  rw [Nat.mul_succ]
  exact h
/-- One block more. -/
theorem Bs.step {s n a b e : Nat} {d d' : Nat → Int} (h : Bs key s n a d) (hs : 0 < s) (ha : s ∣ a) (hb : b = min (a + s) n) (hu : e ≤ a + s) (h1 : Stb key a b d d') (h2 : Srt key a b d') : Bs key s n e d' := by
  intro x hx hxe
  have hle : x ≤ a := dvd_lt hx ha (by omega)
  by_cases c : x = a
  · rw [c, ← hb]; exact h2
  · have hxa : x < a := by omega
    have hxs : x + s ≤ a := by
      rcases Nat.lt_or_ge a (x + s) with h3 | h3
      · exact absurd (dvd_lt ha hx h3) (by omega)
      · exact h3
    exact (h x hx hxa).eq fun k k1 k2 => h1.out k (.inl (by omega))
/-- The last block is of one half only: nothing is to be merged. -/
theorem Bs.last {s n a : Nat} {d : Nat → Int} (h : Bs key (2 * s) n a d) (hs : 0 < s) (ha : 2 * s ∣ a) (hn : n ≤ a + s) (h2 : a < n → Srt key a n d) : Bs key (2 * s) n n d := by
  intro x hx hxn
  have hle : x ≤ a := dvd_lt hx ha (by omega)
  by_cases c : x = a
  · rw [c, show min (a + 2 * s) n = n by omega]
    exact h2 (by omega)
  · exact h x hx (by omega)
/-- The blocks behind are as they were. -/
def Rs (key : Int → Nat) (s n a : Nat) (d : Nat → Int) : Prop := ∀ x, s ∣ x → a ≤ x → x < n → Srt key x (min (x + s) n) d
theorem Rs.of {s n : Nat} {d : Nat → Int} (h : Bs key s n n d) : Rs key s n 0 d := fun x hx _ hn => h x hx hn
theorem Rs.step {s n a b a' : Nat} {d d' : Nat → Int} (h : Rs key s n a d) (h1 : Stb key a b d d') (h2 : b ≤ a') (h3 : a ≤ a') : Rs key s n a' d' := fun x hx h4 hn =>
  (h x hx (by omega) hn).eq fun k k1 k2 => h1.out k (.inr (by omega))
theorem Rs.left {s n a : Nat} {d : Nat → Int} (h : Rs key s n a d) (ha : 2 * s ∣ a) (hn : a + s ≤ n) (hs : 0 < s) : Srt key a (a + s) d := by
  have := h a (Nat.dvd_trans (Nat.dvd_mul_left s 2) ha) (Nat.le_refl _) (by omega)
  rw [show min (a + s) n = a + s by omega] at this
  exact this
theorem Rs.right {s n a b : Nat} {d : Nat → Int} (h : Rs key s n a d) (ha : 2 * s ∣ a) (hn : a + s < n) (hb : b = min (a + 2 * s) n) : Srt key (a + s) b d := by
  have := h (a + s) (Nat.dvd_add (Nat.dvd_trans (Nat.dvd_mul_left s 2) ha) (Nat.dvd_refl s)) (by omega) hn
  rw [show min (a + s + s) n = b by omega] at this
  exact this
theorem Rs.alone {s n a : Nat} {d : Nat → Int} (h : Rs key s n a d) (ha : 2 * s ∣ a) (hn : n ≤ a + s) (hl : a < n) : Srt key a n d := by
  have := h a (Nat.dvd_trans (Nat.dvd_mul_left s 2) ha) (Nat.le_refl _) hl
  rw [show min (a + s) n = n by omega] at this
  exact this
theorem Bs.all {s n : Nat} {d : Nat → Int} (h : Bs key s n n d) (hn : n ≤ s) : Srt key 0 n d := by
  by_cases c : n = 0
  · exact Srt.one _ _ _ (by omega)
  · have := h 0 (Nat.dvd_zero s) (by omega)
    rw [show min (0 + s) n = n by omega] at this
    exact this
theorem Stb.wide {a b n : Nat} {d e f : Nat → Int} (h : Stb key 0 n d e) (k : Stb key a b e f) (h1 : a ≤ b) (h2 : b ≤ n) : Stb key 0 n d f := h.trans (k.mono (Nat.zero_le _) h1 h2)
/-- The merge, after the search and the rotation, out of its two halves. -/
theorem merge3 {d e f : Nat → Int} {a m b s t q : Nat} (h1 : a ≤ s) (h2 : s ≤ m) (h3 : m ≤ t) (h4 : t ≤ b) (hq : q = s + (t - m)) (h5 : Srt key a m d) (h6 : Srt key m b d)
    (lo : ∀ i j, a ≤ i → i < s → t ≤ j → j < b → key (d i) ≤ key (d j)) (hi : ∀ i j, s ≤ i → i < m → m ≤ j → j < t → key (d j) < key (d i))
    (H1 : Stb key a q (rot d s m t) e ∧ Srt key a q e) (H2 : Stb key q b e f ∧ Srt key q b f) : Stb key a b d f ∧ Srt key a b f := by
  obtain ⟨k1, _, _, _, _, k6⟩ := half h1 h2 h3 h4 hq h5 h6 lo hi
  obtain ⟨j1, j2⟩ := join (by omega) (by omega) k6 H1.1 H1.2 H2.1 H2.2
  exact ⟨k1.trans j1, j2⟩
theorem sg_get (d : Nat → Int) : ∀ (n a k : Nat), k < n → (sg d a n)[k]? = some (d (a + k))
  | 0, a, k, h => by omega
  | n + 1, a, 0, h => by simp [sg]
  | n + 1, a, k + 1, h => by
    simp only [sg, List.getElem?_cons_succ]
    rw [sg_get d n (a + 1) k (by omega), show a + 1 + k = a + (k + 1) by omega]
theorem sg_set (d : Nat → Int) (n i : Nat) (v : Int) : (sg d 0 n).set i v = sg (fun k => if k = i then v else d k) 0 n := by
  apply List.ext_getElem?
  intro k
  rw [List.getElem?_set]
  by_cases hk : k < n
  · rw [sg_get _ n 0 k hk, sg_get _ n 0 k hk, Nat.zero_add, sg_len]
    by_cases c : i = k
    · subst c; simp [hk]
    · rw [if_neg c, if_neg (fun e => c e.symm)]
  · rw [List.getElem?_eq_none (by rw [sg_len]; omega), List.getElem?_eq_none (by rw [sg_len]; omega), sg_len]
    by_cases c : i = k
    · rw [if_pos c, if_neg (by omega)]
    · rw [if_neg c]
theorem sg_sw2 (d : Nat → Int) (n i j : Nat) : ((sg d 0 n).set i (d j)).set j (d i) = sg (sw2 d i j) 0 n := by
  rw [sg_set, sg_set]
  congr 1
  funext k
  unfold sw2
  repeat' split
  all_goals first
    | rfl
    | omega
    | (congr 1; omega)
end StM
end Go.Proofs.YtoedmmhiinhljaaDoor

/- The place of the least bit. No program is in sight. -/
namespace Go.Proofs.YtoedmmhiinhljaaDoor
set_option linter.unusedVariables false
/-- The place of the least bit. -/
def lowN (m : Nat) : Nat := Lib.ctz 64 m
theorem lowN_bit {m : Nat} (h0 : m ≠ 0) (h : m < 2 ^ 64) : m.testBit (lowN m) = true ∧ lowN m < 64 := by
  obtain ⟨h1, h2⟩ := Lib.lowest_bit 64 m h0 h
  refine ⟨?_, h2⟩
  have h3 : (m &&& (2 ^ 64 - m)).testBit (lowN m) = true := by rw [h1]; exact Nat.testBit_two_pow_self
  rw [Nat.testBit_and] at h3
  simp only [Bool.and_eq_true] at h3
  exact h3.1
theorem lowN_below {m : Nat} (h0 : m ≠ 0) (h : m < 2 ^ 64) {j : Nat} (hj : j < lowN m) : m.testBit j = false := by
  have key : ∀ (f x : Nat), 0 < x → ∀ j, j < Lib.ctzFrom f x → x.testBit j = false := by
    intro f
    induction f with
    | zero => intro x _ j hj; simp [Lib.ctzFrom] at hj
    | succ f ih =>
      intro x hx j hj
      unfold Lib.ctzFrom at hj
      split at hj
      · omega
      · cases j with
        | zero => rw [Nat.testBit_zero]; simp; omega
        | succ j => rw [Nat.testBit_succ]; exact ih _ (by omega) j (by omega)
  refine key 64 m (by omega) j ?_
  have : lowN m = Lib.ctzFrom 64 m := by unfold lowN Lib.ctz; rw [if_neg h0]
  omega
end Go.Proofs.YtoedmmhiinhljaaDoor

/- The place of the least bit: the library's function, out of its table. -/
namespace Go.Proofs.YtoedmmhiinhljaaDoor
open Go.RowKit
set_option linter.unusedVariables false
attribute [local go_sem ↓] Go.wp_at_zero Go.wp_at_succ

/-- The library's table is there. -/
def Tb (w : World) : Prop := ∀ j, j < Lib.deBruijn64tab.length → w.cell? ⟨1, j, none⟩ = some (.int .u8 (Lib.deBruijn64tab.getD j 0))
theorem Tb.below {w w' : World} (h : Tb w) (hb : Below w.heap.size w w') : Tb w' := fun j hj => keep_below hb (h j hj)
theorem TZ64_l (x : Nat) (w : World) (h0 : x ≠ 0) (hx : x < 2 ^ 62) (hT : Tb w) : Calls Tryd.prog 59 #[.int .u64 (x : Int)] w (Ret w (.int .i64 (lowN x : Nat))) := by
  have hx64 : x < 18446744073709551616 := by omega
  obtain ⟨hlow, hk⟩ := Lib.lowest_bit 64 x h0 hx64
  obtain ⟨hi, htab⟩ := Lib.deBruijn64_at _ hk
  have hcell := hT _ hi
  rw [htab] at hcell
  have key := tz64_key x _ hx64 h0 hlow
  have hx0 : ((x : Int) == 0) = false := by simp; omega
  obtain ⟨k, hk2⟩ : ∃ k, lowN x = k := ⟨_, rfl⟩
  have hk3 : Lib.ctz 64 x = k := hk2
  rw [hk3] at hcell hk key hi
  rw [hk2]
  obtain ⟨idx, hidx⟩ : ∃ idx, 2 ^ k * 285870213051353865 % 18446744073709551616 / 288230376151711744 = idx := ⟨_, rfl⟩
  rw [hidx] at hcell key
  have hi2 : idx < 64 := by rw [← hidx]; omega
  clear hidx hi hlow htab hk2 hk3 hT
  go_enter Tryd.func59, Tryd.ntmps59
  go_wp2_with (simp only [key])
  go_ret
  exact ⟨rfl, Below.refl _ _⟩
theorem TZ_l (x : Nat) (w : World) (h0 : x ≠ 0) (hx : x < 2 ^ 62) (hT : Tb w) : Calls Tryd.prog 43 #[.int .u64 (x : Int)] w (Ret w (.int .i64 (lowN x : Nat))) := by
  have h := TZ64_l x w h0 hx hT
  have H := Lib.hid h
  have hw : IntKind.u64.wrap (x : Int) = (x : Int) := by rw [IntKind.wrap_u64]; omega
  clear h hT h0
  go_enter Tryd.func43, Tryd.ntmps43
  go_wp2_with fail
  refine H.out.mono ?_
  rintro e w1 ⟨rfl, hb1⟩
  go_wp2_with fail
  go_ret
  exact ⟨rfl, hb1⟩
end Go.Proofs.YtoedmmhiinhljaaDoor

/- What the library's stable sort asks of the program's test and of the exchange; the row under way. -/
namespace Go.Proofs.YtoedmmhiinhljaaDoor
open Go.RowKit Go.Shelf
set_option linter.unusedVariables false
attribute [local go_sem ↓] Go.wp_at_zero Go.wp_at_succ

/-- The place of the least bit; that of nothing is 0. -/
def keyT (x : Int) : Nat := if x = 0 then 0 else lowN x.toNat
theorem leastBit_i (x : Int) (w : World) (h0 : 0 ≤ x) (hx : x < 2 ^ 62) (hT : Tb w) : Calls Tryd.prog 28 #[.int .i64 x] w (Ret w (.int .i64 (keyT x : Nat))) := by
  obtain ⟨m, rfl⟩ : ∃ m : Nat, x = m := ⟨x.toNat, by omega⟩
  by_cases hm : m = 0
  · subst hm
    have hk : keyT ((0 : Nat) : Int) = 0 := rfl
    rw [hk]
    have h0I : (((0 : Nat) : Int) == 0) = true := rfl
    go_enter Tryd.func28, Tryd.ntmps28
    go_wp2_with fail
    go_ret
    exact ⟨rfl, Below.refl _ _⟩
  · have hk : keyT (m : Int) = lowN m := by unfold keyT; rw [if_neg (by omega), Int.toNat_natCast]
    rw [hk]
    have H := Lib.hid (TZ_l m w hm (by omega) hT)
    have hmI : ((m : Int) == 0) = false := by simp; omega
    have hw : IntKind.u64.wrap (m : Int) = (m : Int) := by rw [IntKind.wrap_u64]; omega
    clear hk hT h0 hx hm
    go_enter Tryd.func28, Tryd.ntmps28
    go_wp2_with fail
    refine H.out.mono ?_
    rintro e w1 ⟨rfl, hb1⟩
    go_wp2_with fail
    go_ret
    exact ⟨rfl, hb1⟩

/-- The row holds the values d; the test's own variable holds the row; the library's table is there. -/
structure SS (w : World) (base g n c B : Nat) (d : Nat → Int) : Prop where
  own : w.ownsRow base 3 1 (.slice (some ⟨g, 0, none⟩) n c) n (vI (StM.sg d 0 n))
  box : w.cell? ⟨B, 0, none⟩ = some (.slice (some ⟨g, 0, none⟩) n c)
  ne : B ≠ g
  tb : Tb w
  tbl : 1 < base
  rng : ∀ k, k < n → 0 ≤ d k ∧ d k < 2 ^ 62
section
variable {w w' : World} {base g n c B : Nat} {d : Nat → Int}
theorem SS.lt (h : SS w base g n c B d) : base ≤ g ∧ g < w.heap.size := own_lt h.own g rfl
theorem SS.keep (h : SS w base g n c B d) (hb : Below w.heap.size w w') : SS w' base g n c B d :=
  ⟨own_keep h.own hb, keep_below hb h.box, h.ne, h.tb.below hb, h.tbl, h.rng⟩
theorem SS.at_ (h : SS w base g n c B d) {k : Nat} (hk : k < n) : w.cell? ⟨g, k, none⟩ = some (.int .i64 (d k)) := by
  have := h.own.cellAt (g := g) k (by omega)
  rw [this]
  simp only [vI, List.getElem?_map]
  rw [StM.sg_get _ _ _ _ hk, Nat.zero_add]
  rfl
theorem SS.frz (h : SS w base g n c B d) (o : Nat) : w.frozen? ⟨g, o, none⟩ = false := h.own.frozenAt o
theorem SS.sw (h : SS w base g n c B d) {i j : Nat} (hi : i < n) (hj : j < n) :
    SS ((w.setCell ⟨g, i, none⟩ (.int .i64 (d j))).setCell ⟨g, j, none⟩ (.int .i64 (d i))) base g n c B (StM.sw2 d i j) := by
  have hg := h.lt
  have hcell : ∀ (a : Addr) v, a.block ≠ g → w.cell? a = some v → ((w.setCell ⟨g, i, none⟩ (.int .i64 (d j))).setCell ⟨g, j, none⟩ (.int .i64 (d i))).cell? a = some v := fun a v ha hv =>
    keep_grown (grown_set (grown_set (World.grownBy.refl w (some g)) rfl _) rfl _) hv (fun e => ha (by injection e))
  refine ⟨?_, hcell _ _ h.ne h.box, h.ne, fun k hk => hcell _ _ (by have := h.tbl; show 1 ≠ g; omega) (h.tb k hk), h.tbl, fun k hk => ?_⟩
  · have h2 := ((h.own.stored i (.int .i64 (d j))).1.stored j (.int .i64 (d i))).1
    have e : ((vI (StM.sg d 0 n)).set i (.int .i64 (d j))).set j (.int .i64 (d i)) = vI (StM.sg (StM.sw2 d i j) 0 n) := by
      rw [← StM.sg_sw2]
      simp [vI, List.map_set]
    rw [e] at h2
    exact h2
  · unfold StM.sw2
    split
    · exact h.rng j hj
    · split
      · exact h.rng i hi
      · exact h.rng k hk
end
set_option maxHeartbeats 800000 in
/-- The test: is the least bit of value i before that of value j? -/
theorem lessT {w : World} {base g n c B : Nat} {d : Nat → Int} (h : SS w base g n c B d) {i j : Nat} (hi : i < n) (hj : j < n) (b : Bool) (hb : b = decide (keyT (d i) < keyT (d j))) :
    Calls Tryd.prog 27 #[.int .i64 (i : Int), .int .i64 (j : Int), .pointer (some ⟨B, 0, none⟩)] w (Ret w (.bool b)) := by
  have c1 := h.at_ hi
  have c2 := h.at_ hj
  have hg := h.lt.2
  have hB := h.box
  have hBl := World.block_lt_of_cell? w _ hB
  obtain ⟨x, hx⟩ : ∃ x, d i = x := ⟨_, rfl⟩
  obtain ⟨y, hy⟩ : ∃ y, d j = y := ⟨_, rfl⟩
  have rx := h.rng i hi
  have ry := h.rng j hj
  rw [hx] at c1 rx hb
  rw [hy] at c2 ry hb
  have HT := Lib.hid h.tb
  obtain ⟨p, hp⟩ : ∃ p : Nat, keyT x = p := ⟨_, rfl⟩
  obtain ⟨q, hq⟩ : ∃ q : Nat, keyT y = q := ⟨_, rfl⟩
  have HB2 : Hid (decide (p < q) = b) := by show _ = _; rw [hb, hp, hq]
  have HP := Lib.hid (show ((keyT x : Nat) : Int) = (p : Int) by rw [hp])
  have HQ := Lib.hid (show ((keyT y : Nat) : Int) = (q : Int) by rw [hq])
  have RX := Lib.hid rx
  have RY := Lib.hid ry
  have hi0 : (0 : Int) ≤ (i : Int) := by omega
  have hi1 : (i : Int) < (n : Int) := by omega
  have hj0 : (0 : Int) ≤ (j : Int) := by omega
  have hj1 : (j : Int) < (n : Int) := by omega
  clear h hx hy hp hq hb rx ry
  go_enter Tryd.func27, Tryd.ntmps27
  go_wp2_with fail
  (refine wp_region_below (by kernel_rfl) (by kernel_rfl) ?_; (repeat (first | go_big_quiet_skip | (refine quietV (v := ?_) (by rfl) rfl (fun w' hbw => ?_) ?_; rotate_left; ((try dsimp only at hbw); have hbc := (bcell hbw).1; have hbf := (bcell hbw).2; go_simp; first | done | with_reducible rfl | first | exact callsBI (leastBit_i x _ RX.out.1 RX.out.2 (HT.out.below hbw)) HP.out hbw | exact callsBI (leastBit_i y _ RY.out.1 RY.out.2 (HT.out.below hbw)) HQ.out hbw); simp only [List.setIfInBounds_toArray, List.set_cons_zero, List.set_cons_succ]))); refine wpQuiet_nil ?_; intro wq hbq)
  go_wp2_with fail
  go_ret
  exact ⟨by rw [← HB2.out]; rfl, hbq⟩
/-- What is asked of the exchange. -/
def SwT (sf : Nat) (th : Value) (base g n c B : Nat) : Prop := ∀ (w : World) (d : Nat → Int) (i j : Nat), SS w base g n c B d → i < n → j < n →
  ∃ w', (callFunc sf #[.int .i64 (i : Int), .int .i64 (j : Int), .slice (some ⟨g, 0, none⟩) n c, th]).run Tryd.prog w = .ok (.value (.tuple #[])) w' ∧ SS w' base g n c B (StM.sw2 d i j) ∧ ∀ a, World.grownBy a w (some g) → World.grownBy a w' (some g)
theorem infoIT : ∃ ie, Tryd.prog.info? 3 = some ie ∧ ie.size = 1 := by
  obtain ⟨i0, hi, _, hz1, _⟩ := info_parts infoI
  exact ⟨i0, hi, hz1⟩
theorem swapT (sf : Nat) (gS : Bool) (hx : ∀ args W, (callFunc sf args).run Tryd.prog W = ((Extern.ReflectliteSwapper.swap gS args).run Tryd.prog W).andThen fun v w' => .ok (.value v) w') (hagg : ∀ w, (isAgg 3).run Tryd.prog w = .ok false w)
    (base g n c B : Nat) : SwT sf (typeHandle Tryd.prog 3) base g n c B := by
  intro w d i j h hi hj
  obtain ⟨ie, hie, hsz⟩ := infoIT
  have hr := Lib.run_swap_one (P := Tryd.prog) gS 3 ie hie hsz hagg g 0 n c i j hi hj (.int .i64 (d i)) (.int .i64 (d j)) rfl rfl w (by rw [Nat.zero_add]; exact h.at_ hi) (by rw [Nat.zero_add]; exact h.at_ hj) (h.frz _) (h.frz _)
  rw [Nat.zero_add, Nat.zero_add] at hr
  refine ⟨_, ?_, h.sw hi hj, fun a h => grown_set (grown_set h rfl _) rfl _⟩
  rw [hx, hr]
  rfl
/-- What a step of the sort leaves. -/
def StP (w : World) (base g n c B : Nat) (R : (Nat → Int) → Prop) (e : Ending) (w' : World) : Prop :=
  e = .returned (.tuple #[]) ∧ ∃ d', SS w' base g n c B d' ∧ w.grownBy w' (some g) ∧ R d'
/-- What the sort hands on: the test and the exchange. -/
def datT (sf : Nat) (th : Value) (g n c B : Nat) : Array Value := #[.func (.func 27) #[] #[.pointer (some ⟨B, 0, none⟩)], .func (.func sf) #[] #[.slice (some ⟨g, 0, none⟩) n c, th]]
theorem grown_allocT {w w' : World} {o : Obj} {row : Option Nat} (h : (w.alloc o).grownBy w' row) : w.grownBy w' row :=
  ⟨h.os, h.tape, h.output, by have := h.size; simp at this; omega, fun k hk hne => (h.block k (by simp; omega) hne).trans (Below.heap_alloc w o k hk)⟩
end Go.Proofs.YtoedmmhiinhljaaDoor

/- A tiling turned: plain. -/
namespace Go.Proofs.YtoedmmhiinhljaaDoor
open Go.RowKit
set_option linter.unusedVariables false
/-- Is the tiling turned at all? -/
def ttOk (W : Int) (rows l : List Int) (m : Int) : Bool := (motV W rows).any (· == m) && l.all (okMask W rows)
/-- Its masks, turned and in order. -/
def ttV (W : Int) (rows l : List Int) (m : Int) : List Int := if ttOk W rows l m then StM.stS keyT (l.map fun x => tmV W rows x m) else []
theorem ttV_len (W : Int) (rows l : List Int) (m : Int) : (ttV W rows l m).length ≤ l.length := by
  unfold ttV
  split
  · rw [StM.stS_len, List.length_map]; exact Nat.le_refl _
  · simp
theorem tmOk_eq {W : Int} {rows : List Int} {m : Int} (h : (motV W rows).any (· == m) = true) (x : Int) : tmOk W rows x m = okMask W rows x := by unfold tmOk; rw [h]; rfl
theorem tmV_lt {W : Int} {rows : List Int} {x m : Int} : 0 ≤ tmV W rows x m ∧ tmV W rows x m < 2 ^ 62 := by
  unfold tmV
  split
  · next h =>
    unfold tmOk at h
    rw [Bool.and_eq_true] at h
    obtain ⟨hv, k, hk, rfl, hg⟩ := motV_any h.1
    obtain ⟨n, rfl, hn1, hn6, hh1, hh6, _⟩ := isReg_yes hv
    have h36 : n * rows.length ≤ 36 := Nat.mul_le_mul hn6 hh6
    rw [Int.toNat_natCast] at hg
    have hp := pos_ok ⟨hn1, hn6⟩ ⟨hh1, hh6⟩ hk hg
    have h1 := (turn_bits (mask := x.toNat) hp.2 hp.1 h36 (n * rows.length) (Nat.le_refl _)).1
    have h2 : (2 : Nat) ^ (n * rows.length) ≤ 2 ^ 36 := Nat.pow_le_pow_right (by decide) h36
    simp only [Int.toNat_natCast]
    omega
  · exact ⟨by decide, by decide⟩
theorem ttV_all {W : Int} {rows l : List Int} {m : Int} (h : ∀ x ∈ l, tmOk W rows x m = true) : ttV W rows l m = StM.stS keyT (l.map fun x => tmV W rows x m) ∧ ttOk W rows l m = (motV W rows).any (· == m) := by
  cases ha : (motV W rows).any (· == m) with
  | false =>
    have hl : l = [] := by
      cases l with
      | nil => rfl
      | cons x t =>
        have := h x (List.mem_cons_self ..)
        unfold tmOk at this
        rw [ha] at this
        simp at this
    subst hl
    have h0 : ttOk W rows [] m = false := by unfold ttOk; rw [ha]; rfl
    exact ⟨by unfold ttV; rw [h0]; rfl, h0⟩
  | true =>
    have h1 : l.all (okMask W rows) = true := List.all_eq_true.2 fun x hx => by rw [← tmOk_eq ha x]; exact h x hx
    have h0 : ttOk W rows l m = true := by unfold ttOk; rw [ha, h1]; rfl
    exact ⟨by unfold ttV; rw [h0]; rfl, h0⟩
theorem ttOk_no {W : Int} {rows l : List Int} {m x : Int} (hx : x ∈ l) (h : tmOk W rows x m = false) : ttOk W rows l m = false := by
  unfold tmOk at h
  unfold ttOk
  cases ha : (motV W rows).any (· == m) with
  | false => rfl
  | true =>
    rw [ha, Bool.true_and] at h
    rw [Bool.true_and, ← Bool.not_eq_true, List.all_eq_true]
    intro h2
    rw [h2 x hx] at h
    cases h
theorem ttV_no {W : Int} {rows l : List Int} {m : Int} (h : ttOk W rows l m = false) : ttV W rows l m = [] := by unfold ttV; rw [h]; rfl
theorem map_take_succ {α β : Type} (f : α → β) {l : List α} {i : Nat} (h : i < l.length) : (l.take (i + 1)).map f = (l.take i).map f ++ [f l[i]] := by rw [List.take_succ_eq_append_getElem h, List.map_append]; rfl
theorem all_take_succ {α : Type} {P : α → Prop} {l : List α} {i : Nat} (h : i < l.length) (h1 : ∀ x ∈ l.take i, P x) (h2 : P l[i]) : ∀ x ∈ l.take (i + 1), P x := fun x hx => by
  rw [List.take_succ_eq_append_getElem h, List.mem_append, List.mem_singleton] at hx
  rcases hx with hx | hx
  · exact h1 x hx
  · rw [hx]; exact h2
end Go.Proofs.YtoedmmhiinhljaaDoor

/- The canonical tiling: plain. -/
namespace Go.Proofs.YtoedmmhiinhljaaDoor
open Go.RowKit
set_option linter.unusedVariables false
/-- The lexicographic order. -/
def lxI : List Int → List Int → Bool
  | [], [] => false
  | [], _ :: _ => true
  | _ :: _, [] => false
  | x :: a, y :: b => if x = y then lxI a b else decide (x < y)
theorem lxI_same {a b : List Int} {k : Nat} (ha : k ≤ a.length) (hb : k ≤ b.length) (h : ∀ j, j < k → a.getD j 0 = b.getD j 0) : lxI a b = lxI (a.drop k) (b.drop k) := by
  induction k generalizing a b with
  | zero => rfl
  | succ k ih =>
    match a, b, ha, hb with
    | x :: a, y :: b, ha, hb =>
      have h0 := h 0 (by omega)
      simp only [List.getD_cons_zero] at h0
      subst h0
      simp only [lxI, if_pos, List.drop_succ_cons]
      simp only [List.length_cons, Nat.add_le_add_iff_right] at ha hb
      exact ih ha hb fun j hj => by simpa using h (j + 1) (by omega)
theorem lxI_diff {a b : List Int} {k : Nat} (ha : k < a.length) (hb : k < b.length) (h : ∀ j, j < k → a.getD j 0 = b.getD j 0) (hne : a.getD k 0 ≠ b.getD k 0) : lxI a b = decide (a.getD k 0 < b.getD k 0) := by
  rw [lxI_same (Nat.le_of_lt ha) (Nat.le_of_lt hb) h, List.drop_eq_getElem_cons ha, List.drop_eq_getElem_cons hb]
  rw [List.getD_eq_getElem?_getD, List.getElem?_eq_getElem ha, List.getD_eq_getElem?_getD, List.getElem?_eq_getElem hb] at hne ⊢
  simp only [Option.getD_some] at hne ⊢
  simp only [lxI]
  rw [if_neg hne]
theorem lxI_end {a b : List Int} {k : Nat} (ha : k ≤ a.length) (hb : k ≤ b.length) (h : ∀ j, j < k → a.getD j 0 = b.getD j 0) (he : k = a.length ∨ k = b.length) : lxI a b = decide (a.length < b.length) := by
  rw [lxI_same ha hb h]
  rcases he with rfl | rfl
  · rw [List.drop_length]
    by_cases hl : a.length < b.length
    · rw [decide_eq_true hl, List.drop_eq_getElem_cons hl]
      rfl
    · rw [decide_eq_false hl, List.drop_eq_nil_of_le (by omega)]
      rfl
  · rw [List.drop_length, decide_eq_false (by omega)]
    cases List.drop b.length a <;> rfl
/-- The first of some lists. -/
def canF (o : Option (List Int)) (t : List Int) : Option (List Int) := match o with
  | none => some t
  | some b => some (if lxI t b then t else b)
def canL (ts : List (List Int)) : Option (List Int) := ts.foldl canF none
theorem canL_snoc (ts : List (List Int)) (t : List Int) : canL (ts ++ [t]) = canF (canL ts) t := by simp [canL]
theorem canL_take {ts : List (List Int)} {k : Nat} (h : k < ts.length) : canL (ts.take (k + 1)) = canF (canL (ts.take k)) ts[k] := by rw [List.take_succ_eq_append_getElem h, canL_snoc]
theorem canL_some {ts : List (List Int)} : ∀ {k : Nat}, k < ts.length → (canL (ts.take (k + 1))).isSome = true
  | k, h => by rw [canL_take h]; unfold canF; split <;> rfl
def canOk (W : Int) (rows l : List Int) : Bool := l.all (okMask W rows) && decide (motV W rows ≠ [])
def canV (W : Int) (rows l : List Int) : List Int := if l.all (okMask W rows) then (canL ((motV W rows).map (ttV W rows l))).getD [] else []
theorem canL_len {n : Nat} : ∀ (ts : List (List Int)), (∀ t ∈ ts, t.length ≤ n) → ((canL ts).getD []).length ≤ n := by
  have gen : ∀ (ts : List (List Int)) (o : Option (List Int)), (∀ t ∈ ts, t.length ≤ n) → (o.getD []).length ≤ n → ((ts.foldl canF o).getD []).length ≤ n := by
    intro ts
    induction ts with
    | nil => intro o _ h; exact h
    | cons t ts ih =>
      intro o h1 h2
      refine ih _ (fun x hx => h1 x (List.mem_cons_of_mem _ hx)) ?_
      have ht := h1 t (List.mem_cons_self ..)
      cases o with
      | none => exact ht
      | some b =>
        show (if lxI t b then t else b).length ≤ n
        split
        · exact ht
        · exact h2
  intro ts h
  exact gen ts none h (by simp)
theorem canV_len (W : Int) (rows l : List Int) : (canV W rows l).length ≤ l.length := by
  unfold canV
  split
  · refine canL_len _ fun t ht => ?_
    obtain ⟨m, _, rfl⟩ := List.mem_map.1 ht
    exact ttV_len W rows l m
  · simp
theorem motV_mem {W : Int} {rows : List Int} {m : Int} (h : m ∈ motV W rows) : (motV W rows).any (· == m) = true := List.any_eq_true.2 ⟨m, h, by simp⟩
theorem ttOk_mem {W : Int} {rows l : List Int} {m : Int} (h : m ∈ motV W rows) : ttOk W rows l m = l.all (okMask W rows) := by unfold ttOk; rw [motV_mem h]; rfl
end Go.Proofs.YtoedmmhiinhljaaDoor

/- The place of the least bit: the reference. -/
namespace Go.Proofs.YtoedmmhiinhljaaDoor
open Go.RowKit
set_option linter.unusedVariables false
attribute [local go_sem ↓] Go.wp_at_zero Go.wp_at_succ

theorem bit_testC (m k : Nat) (hm : m < 2 ^ 62) : (bits .and .i64 ((m : Int) / 2 ^ k) 1 == 0) = !m.testBit k := by
  rw [show ((m : Int) / 2 ^ k) = ((m / 2 ^ k : Nat) : Int) by simp]
  have h := i64_and (m / 2 ^ k) 1 (by have := Nat.div_le_self m (2 ^ k); omega) (by decide)
  have h1 : ((1 : Nat) : Int) = 1 := rfl
  rw [h1] at h
  rw [h, Nat.and_one_is_mod, Nat.testBit_eq_decide_div_mod_eq]
  rcases Nat.mod_two_eq_zero_or_one (m / 2 ^ k) with h2 | h2 <;> simp [h2]
set_option maxHeartbeats 800000 in
theorem l8Low_s (m : Nat) (w : World) (h0 : m ≠ 0) (hm : m < 2 ^ 62) : Calls Tryd.prog 33 #[.int .i64 (m : Int)] w (Ret w (.int .i64 (lowN m : Nat))) := by
  have hpos : (m : Int) > 0 := by omega
  obtain ⟨hlb, hl64⟩ := lowN_bit h0 (by omega)
  have hbel : ∀ j, j < lowN m → m.testBit j = false := fun j hj => lowN_below h0 (by omega) hj
  obtain ⟨q, hq⟩ : ∃ q, lowN m = q := ⟨_, rfl⟩
  rw [hq] at hlb hl64 hbel ⊢
  have HLB := Lib.hid hlb
  have HBEL := Lib.hid hbel
  have HM := Lib.hid hm
  clear hlb hbel hq hm h0
  go_enter Tryd.func33, Tryd.ntmps33
  go_wp2_with fail
  go_loopw [3] (fun e3 wr => ∃ i : Nat, i ≤ q ∧ e3 = .int .i64 i ∧ Below w.heap.size w wr) (fun e3 _ => q - (intOf e3).toNat)
  case atStart => exact ⟨0, Nat.zero_le _, rfl, Below.refl _ _⟩
  case round =>
    obtain ⟨i, hi, rfl, hb⟩ := hrel
    have hi0 : (0 : Int) ≤ (i : Int) := by omega
    have hi64 : (i : Int) ≤ 64 := by omega
    have ei : IntKind.i64.wrap (i : Int) = (i : Int) := Go.IntWalk.i64_in _ (by omega)
    have hbit := bit_testC m i HM.out
    obtain ⟨d, hd⟩ : ∃ d, m / 2 ^ i = d := ⟨_, rfl⟩
    have hdI : (m : Int) / 2 ^ i = (d : Int) := by rw [← hd]; simp
    rw [hdI] at hbit
    clear hd
    by_cases hlt : i < q
    · rw [HBEL.out i hlt] at hbit
      go_wp2_with fail
      exact ⟨⟨i + 1, by omega, by go_num, hb⟩, by simp [intOf]; omega⟩
    · obtain rfl : i = q := by omega
      rw [HLB.out] at hbit
      go_wp2_with fail
      go_ret
      exact ⟨rfl, hb⟩
end Go.Proofs.YtoedmmhiinhljaaDoor

/- 'append(append(append([]T{}, a...), x), b...)' in a region that draws its order: the two literals may be made in either order. -/
namespace Go.Proofs.YtoedmmhiinhljaaDoor
open Go.RowKit
set_option linter.unusedVariables false
section
variable {P : Program} {ops : Array Oper} {md : Region.Mode} {C : World → Prop} {Q : Exit → Act → World → Prop}
theorem rg_one {f i : Nat} {o : Oper} {listed : Array Bool} {a : Act} {w : World} (hr : Region.ready md ops listed = [i]) (hi : ops[i]? = some o) (hg : o.guard = none)
    (h : ∀ w', C w' → Ext w w' → o.wp P a w' (fun a' w'' => C w'' ∧ wpRg P md ops C Q f (listed.setIfInBounds i true) a' w'') Q) : wpRg P md ops C Q (f + 1) listed a w := by
  refine ⟨fun e => by rw [hr] at e; simp at e, fun j hj w' hc he => ?_⟩
  rw [hr] at hj
  obtain rfl : j = i := by simpa using hj
  unfold wpOp
  simp only [hi]
  rw [if_pos (by simp [Region.wanted, hg])]
  exact .inl (h w' hc he)
theorem rg_two {f i k : Nat} {o o2 : Oper} {listed : Array Bool} {a : Act} {w : World} (hr : Region.ready md ops listed = [i, k]) (hi : ops[i]? = some o) (hg : o.guard = none) (hk : ops[k]? = some o2) (hg2 : o2.guard = none)
    (h : ∀ w', C w' → Ext w w' → o.wp P a w' (fun a' w'' => C w'' ∧ wpRg P md ops C Q f (listed.setIfInBounds i true) a' w'') Q)
    (h2 : ∀ w', C w' → Ext w w' → o2.wp P a w' (fun a' w'' => C w'' ∧ wpRg P md ops C Q f (listed.setIfInBounds k true) a' w'') Q) : wpRg P md ops C Q (f + 1) listed a w := by
  refine ⟨fun e => by rw [hr] at e; simp at e, fun j hj w' hc he => ?_⟩
  rw [hr] at hj
  unfold wpOp
  rcases (by simpa using hj : j = i ∨ j = k) with rfl | rfl
  · simp only [hi]
    rw [if_pos (by simp [Region.wanted, hg])]
    exact .inl (h w' hc he)
  · simp only [hk]
    rw [if_pos (by simp [Region.wanted, hg2])]
    exact .inl (h2 w' hc he)
end
section
variable {P : Program} {ops : Array Oper} {C : World → Prop} {Q : Exit → Act → World → Prop} {w0 : World}
theorem wp_region_rg {id : Nat} {a : Act} {w : World} {l : List Oper} (n : Nat) (hl : l.length = n) (hm : P.follows .mixedOrders = true) (h : wpRg P .any l.toArray (ExC w) (NoPanic Q) n (Array.replicate n false) a w) : (Code.region id l.toArray true).wp P Q a w := by
  subst hl
  exact wp_region_noPanic (wp_region_any hm (wpAny_of_wpRg _ _ _ _ (ExC.drawn w) (wpRg_ext h (ExC.drawn w))))
/-- An operation that only reads is taken first. -/
theorem rgT {i d : Nat} {oi : Oper} {v : Value} {f : Nat} {listed : Array Bool} {ts : Array Value} {ds : List Deferred} {w : World} (hi : ops[i]? = some oi) (hd : oi.dst = some d)
    (hs : Region.noSelect ops = true) (hf : Region.free .any ops listed i = true) (hr : (Region.ready .any ops listed).contains i = true) (hw : Region.wanted oi (yielded ops ts) = true)
    (hy : ∀ w', ExC w0 w' → oi.quietAt P { tmps := ts, defers := ds } (Ext w') w' v)
    (h : wpRg P .any ops (ExC w0) (NoPanic Q) f (listed.setIfInBounds i true) { tmps := ts.setIfInBounds d v, defers := ds } w) : wpRg P .any ops (ExC w0) (NoPanic Q) (f + 1) listed { tmps := ts, defers := ds } w :=
  wpRg_first (fun _ _ h k => h.ext k) hi (Region.noSelect_spec hs) (fun _ _ _ h => h) f listed _ w (Region.free_spec hi hf) (by simpa using hr) (.inl ⟨hw, hy⟩) (by rw [hd]; exact h)
end
/-- a is a0 but for some slots. -/
structure Fr (S : List Nat) (a0 a : Act) : Prop where
  size : a.tmps.size = a0.tmps.size
  defers : a.defers = a0.defers
  same : ∀ t, t ∉ S → a.tmps[t]? = a0.tmps[t]?
theorem Fr.refl (S : List Nat) (a : Act) : Fr S a a := ⟨rfl, rfl, fun _ _ => rfl⟩
theorem Fr.put {S : List Nat} {a0 a : Act} (h : Fr S a0 a) {d : Nat} (hd : d ∈ S) (v : Value) : Fr S a0 (a.put (some d) v) := by
  refine ⟨by simp [Act.put, h.size], h.defers, fun t ht => ?_⟩
  have hne : d ≠ t := by rintro rfl; exact ht hd
  simp only [Act.put, Array.getElem?_setIfInBounds_ne hne]
  exact h.same t ht
theorem Fr.eval {S : List Nat} {a0 a : Act} (h : Fr S a0 a) {t : Nat} (ht : t ∉ S) : a.eval (.tmp t) = a0.eval (.tmp t) := by
  simp only [Act.eval, Array.getD_eq_getD_getElem?, h.same t ht]
theorem put_eval {a : Act} {d : Nat} (v : Value) (hd : d < a.tmps.size) : (a.put (some d) v).eval (.tmp d) = v := by simp [Act.eval, Act.put, hd]
theorem put_eval_ne {a : Act} {d t : Nat} (v : Value) (hne : d ≠ t) : (a.put (some d) v).eval (.tmp t) = a.eval (.tmp t) := by
  simp [Act.eval, Act.put, Array.getElem?_setIfInBounds_ne hne]
section
variable {P : Program} {o : Oper} {a : Act} {w : World} {K : Act → World → Prop} {Q : Exit → Act → World → Prop}
theorem wp_val {v : Value} {w' : World} (h : (execOp a.eval o).run P w = .ok (.value v) w') (hk : K (a.put o.dst v) w') : o.wp P a w K Q := by
  unfold Oper.wp
  rw [h]
  exact hk
end
theorem agree_set {S : List Nat} {s : Nat} {ts X : Array Value} (hz : ts.size = X.size) (h : ∀ t, t ∉ s :: S → ts[t]? = X[t]?) : ∀ t, t ∉ S → ts[t]? = (X.setIfInBounds s (ts.getD s undef))[t]? := by
  intro t ht
  by_cases e : s = t
  · subst e
    rcases Nat.lt_or_ge s ts.size with hl | hl
    · rw [Array.getElem?_setIfInBounds_self_of_lt (by omega), Array.getD_eq_getD_getElem?, Array.getElem?_eq_getElem hl]; rfl
    · rw [Array.getElem?_eq_none hl, Array.getElem?_eq_none (by simp; omega)]
  · rw [Array.getElem?_setIfInBounds_ne e]
    exact h t (by simp [Ne.symm e, ht])
theorem Fr.form {s0 sA sN sB sD dE : Nat} {a0 a : Act} (h : Fr [s0, sA, sN, sB, sD, dE] a0 a) {v : Value} (hv : a.eval (.tmp dE) = v) :
    ∃ v0 vA vN vB vD, a = { tmps := (((((a0.tmps.setIfInBounds s0 v0).setIfInBounds sA vA).setIfInBounds sN vN).setIfInBounds sB vB).setIfInBounds sD vD).setIfInBounds dE v, defers := a0.defers } := by
  refine ⟨a.tmps.getD s0 undef, a.tmps.getD sA undef, a.tmps.getD sN undef, a.tmps.getD sB undef, a.tmps.getD sD undef, ?_⟩
  have h1 := agree_set h.size h.same
  have h2 := agree_set (by simp [h.size]) h1
  have h3 := agree_set (by simp [h.size]) h2
  have h4 := agree_set (by simp [h.size]) h3
  have h5 := agree_set (by simp [h.size]) h4
  have h6 := agree_set (by simp [h.size]) h5
  have e : a.tmps = _ := Array.ext_getElem? fun t => h6 t (by simp)
  have hv' : a.tmps.getD dE undef = v := hv
  rw [hv'] at e
  obtain ⟨ts, ds⟩ := a
  have hd := h.defers
  simp only at hd e
  subst hd
  rw [← e]
/-- What is known of the region's six operations. -/
structure InsOps (P : Program) (ops : Array Oper) (T e : TypeId) (i0 iA iN iB iD iE s0 sA sN sB sD dE t1 t2 : Nat) (vn : Value) (news : List Value) (xn : Operand) : Prop where
  p0 : ∃ o : Oper, ops[i0]? = some o ∧ o.guard = none ∧ o.dst = some s0 ∧ ∀ a w, (execOp (Act.eval a) o).run P w = .ok (.value (.slice (some ⟨w.heap.size, 0, none⟩) 0 0)) (w.alloc (.cells #[] e))
  pA : ∃ o : Oper, ops[iA]? = some o ∧ o.guard = none ∧ o.dst = some sA ∧ o.op = .call { callee := .builtin .append, args := #[.tmp s0, .tmp t1], argTypes := #[T, T] }
  pN : ∃ o : Oper, ops[iN]? = some o ∧ o.guard = none ∧ o.dst = some sN ∧ ∀ a w, a.eval xn = vn → (execOp (Act.eval a) o).run P w = .ok (.value (.slice (some ⟨w.heap.size, 0, none⟩) 1 1)) (w.alloc (.cells news.toArray e))
  pB : ∃ o : Oper, ops[iB]? = some o ∧ o.guard = none ∧ o.dst = some sB ∧ o.op = .call { callee := .builtin .append, args := #[.tmp sA, .tmp sN], argTypes := #[T, T] }
  pD : ∃ o : Oper, ops[iD]? = some o ∧ o.guard = none ∧ o.dst = some sD ∧ o.op = .call { callee := .builtin .append, args := #[.tmp sB, .tmp t2], argTypes := #[T, T] }
  pE : ∃ o : Oper, ops[iE]? = some o ∧ o.guard = none ∧ o.dst = some dE ∧ o.op = .assign (.tmp sD)
/-- The slots differ. -/
structure InsSlots (s0 sA sN sB sD dE t1 t2 : Nat) (a0 : Act) : Prop where
  lt : s0 < a0.tmps.size ∧ sA < a0.tmps.size ∧ sN < a0.tmps.size ∧ sB < a0.tmps.size ∧ sD < a0.tmps.size ∧ dE < a0.tmps.size
  ne : s0 ≠ sN ∧ sA ≠ sN
  t1n : t1 ∉ [s0, sA, sN, sB, sD, dE]
  t2n : t2 ∉ [s0, sA, sN, sB, sD, dE]
section
variable {P : Program} {ops : Array Oper} {md : Region.Mode} {Q : Exit → Act → World → Prop}
variable {T e : TypeId} {i : TypeInfo} {z : Value} {size bytes : Nat} {i0 iA iN iB iD iE s0 sA sN sB sD dE t1 t2 : Nat} {vn : Value} {vs1 news vs2 : List Value} {xn : Operand} {A1 A2 : Option Addr} {m1 c1 m2 c2 : Nat} {a0 : Act} {w0 : World}
/-- The last two: the second append, the assignment. -/
theorem ins_3 (L : Array Bool) (ht : P.underlying T = some (.slice e)) (hi : P.info? e = some i) (hz : i.zero = some z) (hsize : i.size = size) (hby : i.bytes = bytes) (hzs : z.cells.size = size) (hsz : 0 < size)
    (ho : InsOps P ops T e i0 iA iN iB iD iE s0 sA sN sB sD dE t1 t2 vn news xn) (hs : InsSlots s0 sA sN sB sD dE t1 t2 a0)
    (hrD : Region.ready md ops L = [iD]) (hrE : Region.ready md ops (L.setIfInBounds iD true) = [iE]) (hrF : Region.ready md ops ((L.setIfInBounds iD true).setIfInBounds iE true) = [])
    (e2 : a0.eval (.tmp t2) = .slice A2 m2 c2) (r2 : Rd w0 A2 vs2) (l2 : vs2.length = m2 * size) (h2 : ∀ u ∈ vs2, u.oneCell' = true) (hm : m1 + 1 + m2 ≤ 1099511627776) (hbs : bytes ≤ 64)
    (hQ : ∀ a' w' A' c', Fr [s0, sA, sN, sB, sD, dE] a0 a' → a'.eval (.tmp dE) = .slice A' (m1 + 1 + m2) c' → w'.ownsRow w0.heap.size e size (.slice A' (m1 + 1 + m2) c') (m1 + 1 + m2) (vs1 ++ news ++ vs2) → Ext w0 w' → Q .normal a' w')
    (a : Act) (w : World) (hf : Fr [s0, sA, sN, sB, sD, dE] a0 a) (hx : Ext w0 w) {B : Option Addr} {cB : Nat} (eB : a.eval (.tmp sB) = .slice B (m1 + 1) cB) (oB : w.ownsRow w0.heap.size e size (.slice B (m1 + 1) cB) (m1 + 1) (vs1 ++ news)) :
    wpRg P md ops (ExC w0) Q 2 L a w := by
  obtain ⟨oD, d1, d2, d3, d4⟩ := ho.pD
  obtain ⟨oE, f1, f2, f3, f4⟩ := ho.pE
  refine rg_one hrD d1 d2 fun w1 hc1 he1 => ?_
  have hz1 := hc1.size
  refine wp_app w1 _ _ T d4 w0.heap.size e i z size bytes ht hi hz hsize hby hzs hsz B (m1 + 1) cB _ eB (own_keep oB he1) A2 m2 c2 vs2 (by rw [hf.eval hs.t2n]; exact e2) (r2.below hc1) l2 h2 (by unfold maxLen; omega)
    (Nat.le_trans (Nat.mul_le_mul hm hbs) (by omega)) hz1 ?_
  intro A' c' w2 o2 g2 at2
  have hx2 : Ext w0 w2 := bel_app hc1 g2 (fun g h => (own_lt oB g h).1)
  refine ⟨hx2, ?_⟩
  rw [d3]
  refine rg_one hrE f1 f2 fun w3 hc3 he3 => ?_
  have hlt := hs.lt
  have hf2 : Fr [s0, sA, sN, sB, sD, dE] a0 (a.put (some sD) (.slice A' (m1 + 1 + m2) c')) := hf.put (by simp) _
  have eD : (a.put (some sD) (.slice A' (m1 + 1 + m2) c')).eval (.tmp sD) = .slice A' (m1 + 1 + m2) c' := put_eval _ (by rw [hf.size]; exact hlt.2.2.2.2.1)
  refine wp_val (BigFrame.run_assign (.tmp sD) f4 _) ⟨hc3, ?_⟩
  rw [eD, f3]
  refine ⟨hrF, fun w4 hc4 he4 => ?_⟩
  exact hQ _ _ A' c' (hf2.put (by simp) _) (put_eval _ (by rw [hf2.size]; exact hlt.2.2.2.2.2)) (own_keep (own_keep o2 he3) he4) hc4
/-- The first append's slice and the new element are there. -/
theorem ins_2 (L : Array Bool) (ht : P.underlying T = some (.slice e)) (hi : P.info? e = some i) (hz : i.zero = some z) (hsize : i.size = size) (hby : i.bytes = bytes) (hzs : z.cells.size = size) (hsz : 0 < size)
    (ho : InsOps P ops T e i0 iA iN iB iD iE s0 sA sN sB sD dE t1 t2 vn news xn) (hs : InsSlots s0 sA sN sB sD dE t1 t2 a0)
    (hrB : Region.ready md ops L = [iB]) (hm : m1 + 1 + m2 ≤ 1099511627776) (hbs : bytes ≤ 64) (ln : news.length = size) (hn : ∀ u ∈ news, u.oneCell' = true)
    (h3 : ∀ a w B cB, Fr [s0, sA, sN, sB, sD, dE] a0 a → Ext w0 w → a.eval (.tmp sB) = .slice B (m1 + 1) cB → w.ownsRow w0.heap.size e size (.slice B (m1 + 1) cB) (m1 + 1) (vs1 ++ news) → wpRg P md ops (ExC w0) Q 2 (L.setIfInBounds iB true) a w)
    (a : Act) (w : World) (hf : Fr [s0, sA, sN, sB, sD, dE] a0 a) (hx : Ext w0 w) {B : Option Addr} {cB : Nat} (eA : a.eval (.tmp sA) = .slice B m1 cB) (oA : w.ownsRow w0.heap.size e size (.slice B m1 cB) m1 vs1)
    {N : Option Addr} {cN : Nat} (eN : a.eval (.tmp sN) = .slice N 1 cN) (rN : Rd w N news) : wpRg P md ops (ExC w0) Q 3 L a w := by
  obtain ⟨oB, d1, d2, d3, d4⟩ := ho.pB
  refine rg_one hrB d1 d2 fun w1 hc1 he1 => ?_
  have hz1 := hc1.size
  refine wp_app w1 _ _ T d4 w0.heap.size e i z size bytes ht hi hz hsize hby hzs hsz B m1 cB _ eA (own_keep oA he1) N 1 cN news eN (rN.below he1) (by rw [ln]; omega) hn (by unfold maxLen; omega)
    (Nat.le_trans (Nat.mul_le_mul (show m1 + 1 ≤ 1099511627776 by omega) hbs) (by omega)) hz1 ?_
  intro A' c' w2 o2 g2 at2
  have hx2 : Ext w0 w2 := bel_app hc1 g2 (fun g h => (own_lt oA g h).1)
  refine ⟨hx2, ?_⟩
  rw [d3]
  exact h3 _ _ A' c' (hf.put (by simp) _) hx2 (put_eval _ (by rw [hf.size]; exact hs.lt.2.2.2.1)) o2
/-- The whole tail. -/
theorem ins_tail (L : Array Bool) (ht : P.underlying T = some (.slice e)) (hi : P.info? e = some i) (hz : i.zero = some z) (hsize : i.size = size) (hby : i.bytes = bytes) (hzs : z.cells.size = size) (hsz : 0 < size)
    (ho : InsOps P ops T e i0 iA iN iB iD iE s0 sA sN sB sD dE t1 t2 vn news xn) (hs : InsSlots s0 sA sN sB sD dE t1 t2 a0) (hxn : ∀ a, Fr [s0, sA, sN, sB, sD, dE] a0 a → a.eval xn = vn)
    (r_ : Region.ready md ops L = [i0, iN]) (r0 : Region.ready md ops (L.setIfInBounds i0 true) = [iA, iN]) (rN : Region.ready md ops (L.setIfInBounds iN true) = [i0])
    (r0A : Region.ready md ops ((L.setIfInBounds i0 true).setIfInBounds iA true) = [iN]) (r0N : Region.ready md ops ((L.setIfInBounds i0 true).setIfInBounds iN true) = [iA])
    (i0N : i0 ≠ iN) (iAN : iA ≠ iN)
    (rB : Region.ready md ops (((L.setIfInBounds i0 true).setIfInBounds iA true).setIfInBounds iN true) = [iB])
    (rD : Region.ready md ops ((((L.setIfInBounds i0 true).setIfInBounds iA true).setIfInBounds iN true).setIfInBounds iB true) = [iD])
    (rE : Region.ready md ops (((((L.setIfInBounds i0 true).setIfInBounds iA true).setIfInBounds iN true).setIfInBounds iB true).setIfInBounds iD true) = [iE])
    (rF : Region.ready md ops ((((((L.setIfInBounds i0 true).setIfInBounds iA true).setIfInBounds iN true).setIfInBounds iB true).setIfInBounds iD true).setIfInBounds iE true) = [])
    (e1 : a0.eval (.tmp t1) = .slice A1 m1 c1) (q1 : Rd w0 A1 vs1) (l1 : vs1.length = m1 * size) (h1 : ∀ u ∈ vs1, u.oneCell' = true)
    (e2 : a0.eval (.tmp t2) = .slice A2 m2 c2) (q2 : Rd w0 A2 vs2) (l2 : vs2.length = m2 * size) (h2 : ∀ u ∈ vs2, u.oneCell' = true)
    (ln : news.length = size) (hn : ∀ u ∈ news, u.oneCell' = true) (hm : m1 + 1 + m2 ≤ 1099511627776) (hbs : bytes ≤ 64)
    (hQ : ∀ a' w' A' c', Fr [s0, sA, sN, sB, sD, dE] a0 a' → a'.eval (.tmp dE) = .slice A' (m1 + 1 + m2) c' → w'.ownsRow w0.heap.size e size (.slice A' (m1 + 1 + m2) c') (m1 + 1 + m2) (vs1 ++ news ++ vs2) → Ext w0 w' → Q .normal a' w') :
    wpRg P md ops (ExC w0) Q 6 L a0 w0 := by
  obtain ⟨o0, a1, a2, a3, a4⟩ := ho.p0
  obtain ⟨oA, b1, b2, b3, b4⟩ := ho.pA
  obtain ⟨oN, n1, n2, n3, n4⟩ := ho.pN
  have hlt := hs.lt
  have hsz0 : ∀ w : World, (w.alloc (.cells (#[] : Array Value) e)).ownsRow w.heap.size e size (.slice (some ⟨w.heap.size, 0, none⟩) 0 0) 0 [] := fun w => own_new w e size 0 #[] (by simp) (by simp [maxLen]) (Nat.le_refl _)
  -- behind the first append and the element
  have S2 : ∀ (a : Act) (w : World), Fr [s0, sA, sN, sB, sD, dE] a0 a → Ext w0 w → ∀ (B : Option Addr) (cB : Nat), a.eval (.tmp sA) = .slice B m1 cB → w.ownsRow w0.heap.size e size (.slice B m1 cB) m1 vs1 → ∀ (N : Option Addr) (cN : Nat), a.eval (.tmp sN) = .slice N 1 cN → Rd w N news →
      wpRg P md ops (ExC w0) Q 3 (((L.setIfInBounds i0 true).setIfInBounds iA true).setIfInBounds iN true) a w := fun a w hf hx B cB eA oA' N cN eN rN' =>
    ins_2 (m2 := m2) _ ht hi hz hsize hby hzs hsz ho hs rB hm hbs ln hn (fun a w B cB hf hx eB oB' => ins_3 _ ht hi hz hsize hby hzs hsz ho hs rD rE rF e2 q2 l2 h2 hm hbs hQ a w hf hx eB oB') a w hf hx eA oA' eN rN'
  -- the first append
  have SA : ∀ (a : Act) (w : World) (f : Nat) (L' : Array Bool), Fr [s0, sA, sN, sB, sD, dE] a0 a → Ext w0 w → ∀ (B : Option Addr) (cB : Nat), a.eval (.tmp s0) = .slice B 0 cB → w.ownsRow w0.heap.size e size (.slice B 0 cB) 0 [] →
      ∀ K : Act → World → Prop, (∀ A' c' w', Fr [s0, sA, sN, sB, sD, dE] a0 (a.put (some sA) (.slice A' m1 c')) → Ext w0 w' → w'.ownsRow w0.heap.size e size (.slice A' m1 c') m1 vs1 → w.grownBy w' (ob B) → (∀ g, ob B = some g → w0.heap.size ≤ g) → K (a.put (some sA) (.slice A' m1 c')) w') → oA.wp P a w K Q := by
    intro a w f L' hf hx B cB e0 o0' K hK
    refine wp_app w _ _ T b4 w0.heap.size e i z size bytes ht hi hz hsize hby hzs hsz B 0 cB [] e0 o0' A1 m1 c1 vs1 (by rw [hf.eval hs.t1n]; exact e1) (q1.below hx) l1 h1 (by unfold maxLen; omega)
      (by rw [Nat.zero_add]; exact Nat.le_trans (Nat.mul_le_mul (show m1 ≤ 1099511627776 by omega) hbs) (by omega)) hx.size ?_
    intro A' c' w2 o2 g2 at2
    simp only [Nat.zero_add, List.nil_append] at o2 ⊢
    rw [b3]
    exact hK A' c' w2 (hf.put (by simp) _) (bel_app hx g2 (fun g h => (own_lt o0' g h).1)) o2 g2 (fun g h => (own_lt o0' g h).1)
  refine rg_two r_ a1 a2 n1 n2 (fun w1 hc1 he1 => ?_) (fun w1 hc1 he1 => ?_)
  · -- the empty literal first
    refine wp_val (a4 a0 w1) ⟨bel_alloc hc1 _, ?_⟩
    rw [a3]
    have f0 : Fr [s0, sA, sN, sB, sD, dE] a0 (a0.put (some s0) (.slice (some ⟨w1.heap.size, 0, none⟩) 0 0)) := (Fr.refl _ _).put (by simp) _
    have ev0 : (a0.put (some s0) (.slice (some ⟨w1.heap.size, 0, none⟩) 0 0)).eval (.tmp s0) = .slice (some ⟨w1.heap.size, 0, none⟩) 0 0 := put_eval _ hlt.1
    have ow0 := own_base (hsz0 w1) hc1.size
    refine rg_two r0 b1 b2 n1 n2 (fun w2 hc2 he2 => ?_) (fun w2 hc2 he2 => ?_)
    · refine SA _ w2 0 L f0 hc2 _ _ ev0 (own_keep ow0 he2) _ fun A' c' w3 hf3 hx3 o3 _ _ => ⟨hx3, ?_⟩
      refine rg_one r0A n1 n2 fun w4 hc4 he4 => ?_
      refine wp_val (n4 _ w4 (hxn _ hf3)) ⟨bel_alloc hc4 _, ?_⟩
      rw [n3]
      refine S2 _ _ (hf3.put (by simp) _) (bel_alloc hc4 _) A' c' ?_ (own_keep (own_keep o3 he4) (bel_alloc (Below.refl _ _) _)) (some ⟨w4.heap.size, 0, none⟩) 1 (put_eval _ (by rw [hf3.size]; exact hlt.2.2.1)) (by simpa using rd_new w4 e news.toArray)
      rw [put_eval_ne _ hs.ne.2.symm]
      exact put_eval _ (by rw [f0.size]; exact hlt.2.1)
    · refine wp_val (n4 _ w2 (hxn _ f0)) ⟨bel_alloc hc2 _, ?_⟩
      rw [n3]
      refine rg_one r0N b1 b2 fun w3 hc3 he3 => ?_
      have f1 := f0.put (d := sN) (by simp) (.slice (some ⟨w2.heap.size, 0, none⟩) 1 1)
      have ev1 : ((a0.put (some s0) (.slice (some ⟨w1.heap.size, 0, none⟩) 0 0)).put (some sN) (.slice (some ⟨w2.heap.size, 0, none⟩) 1 1)).eval (.tmp s0) = .slice (some ⟨w1.heap.size, 0, none⟩) 0 0 := by
        rw [put_eval_ne _ hs.ne.1.symm]; exact ev0
      have evN : ((a0.put (some s0) (.slice (some ⟨w1.heap.size, 0, none⟩) 0 0)).put (some sN) (.slice (some ⟨w2.heap.size, 0, none⟩) 1 1)).eval (.tmp sN) = .slice (some ⟨w2.heap.size, 0, none⟩) 1 1 := put_eval _ (by rw [f0.size]; exact hlt.2.2.1)
      have rdN : Rd w3 (some ⟨w2.heap.size, 0, none⟩) news := Rd.below (by simpa using rd_new w2 e news.toArray) he3
      refine SA _ w3 0 L f1 hc3 _ _ ev1 (own_keep (own_keep (own_keep ow0 he2) (bel_alloc (Below.refl _ _) _)) he3) _ fun A' c' w4 hf4 hx4 o4 g4 _ => ⟨hx4, ?_⟩
      rw [Array.setIfInBounds_comm _ _ (Ne.symm iAN)]
      have hz := he2.size
      refine S2 _ _ hf4 hx4 A' c' (put_eval _ (by rw [f1.size]; exact hlt.2.1)) o4 (some ⟨w2.heap.size, 0, none⟩) 1 ?_ (rdN.grown g4 (fun g h e => by
        simp only [ob, Option.map_some, Option.some.injEq] at h e
        simp at hz
        omega))
      rw [put_eval_ne _ hs.ne.2]
      exact evN
  · -- the element first
    refine wp_val (n4 a0 w1 (hxn _ (Fr.refl _ _))) ⟨bel_alloc hc1 _, ?_⟩
    rw [n3]
    have f0 : Fr [s0, sA, sN, sB, sD, dE] a0 (a0.put (some sN) (.slice (some ⟨w1.heap.size, 0, none⟩) 1 1)) := (Fr.refl _ _).put (by simp) _
    have evN : (a0.put (some sN) (.slice (some ⟨w1.heap.size, 0, none⟩) 1 1)).eval (.tmp sN) = .slice (some ⟨w1.heap.size, 0, none⟩) 1 1 := put_eval _ hlt.2.2.1
    have rdN0 : Rd (w1.alloc (.cells news.toArray e)) (some ⟨w1.heap.size, 0, none⟩) news := by simpa using rd_new w1 e news.toArray
    refine rg_one rN a1 a2 fun w2 hc2 he2 => ?_
    refine wp_val (a4 _ w2) ⟨bel_alloc hc2 _, ?_⟩
    rw [a3]
    rw [Array.setIfInBounds_comm _ _ (Ne.symm i0N)]
    refine rg_one r0N b1 b2 fun w3 hc3 he3 => ?_
    have f1 := f0.put (d := s0) (by simp) (.slice (some ⟨w2.heap.size, 0, none⟩) 0 0)
    have ev0 : ((a0.put (some sN) (.slice (some ⟨w1.heap.size, 0, none⟩) 1 1)).put (some s0) (.slice (some ⟨w2.heap.size, 0, none⟩) 0 0)).eval (.tmp s0) = .slice (some ⟨w2.heap.size, 0, none⟩) 0 0 := put_eval _ (by rw [f0.size]; exact hlt.1)
    have evN1 : ((a0.put (some sN) (.slice (some ⟨w1.heap.size, 0, none⟩) 1 1)).put (some s0) (.slice (some ⟨w2.heap.size, 0, none⟩) 0 0)).eval (.tmp sN) = .slice (some ⟨w1.heap.size, 0, none⟩) 1 1 := by
      rw [put_eval_ne _ hs.ne.1]; exact evN
    have rdN : Rd w3 (some ⟨w1.heap.size, 0, none⟩) news := ((rdN0.below he2).alloc _).below he3
    have ow0 := own_base (hsz0 w2) hc2.size
    refine SA _ w3 0 L f1 hc3 _ _ ev0 (own_keep ow0 he3) _ fun A' c' w4 hf4 hx4 o4 g4 _ => ⟨hx4, ?_⟩
    rw [Array.setIfInBounds_comm _ _ (Ne.symm iAN)]
    have hz := he2.size
    refine S2 _ _ hf4 hx4 A' c' (put_eval _ (by rw [f1.size]; exact hlt.2.1)) o4 (some ⟨w1.heap.size, 0, none⟩) 1 ?_ (rdN.grown g4 (fun g h e => by
      simp only [ob, Option.map_some, Option.some.injEq] at h e
      simp at hz
      omega))
    rw [put_eval_ne _ hs.ne.2]
    exact evN1
end
end Go.Proofs.YtoedmmhiinhljaaDoor

/- A number put into a list in order: the reference. -/
namespace Go.Proofs.YtoedmmhiinhljaaDoor
open Go.RowKit
set_option linter.unusedVariables false
attribute [local go_sem ↓] Go.wp_at_zero Go.wp_at_succ

/-- How many numbers stay ahead of n. -/
def cutTo (l : List Int) (n : Int) : Nat → Nat
  | 0 => 0
  | k + 1 => if n < l.getD k 0 then cutTo l n k else k + 1
theorem cutTo_le (l : List Int) (n : Int) (k : Nat) : cutTo l n k ≤ k := by
  induction k with
  | zero => exact Nat.le_refl _
  | succ k ih => unfold cutTo; split <;> omega
def putI (l : List Int) (n : Int) : List Int :=
  if 0 < cutTo l n l.length ∧ l.getD (cutTo l n l.length - 1) 0 = n then l else l.take (cutTo l n l.length) ++ [n] ++ l.drop (cutTo l n l.length)
/-- A slice whose memory is the call's own, of some base. -/
def RetO (w : World) (base E sz : Nat) (vs : List Value) (e : Ending) (w' : World) : Prop :=
  ∃ g n c, e = .returned (.slice (some ⟨g, 0, none⟩) n c) ∧ w'.ownsRow base E sz (.slice (some ⟨g, 0, none⟩) n c) n vs ∧ Below w.heap.size w w'
theorem run_upto (w : World) (g m c k : Nat) (hk : k ≤ c) : (Instr.slice 22 (.slice (some ⟨g, 0, none⟩) m c) none (some (.int .i64 (k : Int))) none).run Tryd.prog w = .ok (.slice (some ⟨g, 0, none⟩) k c) w := by
  have h2 : (k : Int) ≤ (c : Int) := by omega
  simp [go_sem, h2]
def offK (c k : Nat) : Nat := if c = k then 0 else k
theorem run_from (w : World) (g m c k : Nat) (hk : k ≤ m) : (Instr.slice 22 (.slice (some ⟨g, 0, none⟩) m c) (some (.int .i64 (k : Int))) none none).run Tryd.prog w = .ok (.slice (some ⟨g, offK c k, none⟩) (m - k) (c - k)) w := by
  have h1 : (0 : Int) ≤ (k : Int) := by omega
  have h2 : (k : Int) ≤ (m : Int) := by omega
  unfold offK
  by_cases hc : c = k
  · subst hc
    simp [go_sem, h2]
  · simp [go_sem, h2, hc]
theorem Rd.from_ {w : World} {g c k m : Nat} {l : List Int} (h : Rd w (some ⟨g, 0, none⟩) (vI l)) (hl : l.length = m) (hmc : m ≤ c) : Rd w (some ⟨g, offK c k, none⟩) (vI (l.drop k)) := by
  have h2 := Rd.drop h k c (by rw [vI_length]; omega)
  rw [vI_drop]
  unfold offK
  split
  · next e => rw [if_pos e] at h2; exact h2
  · next e =>
    rw [if_neg e] at h2
    have e2 : (some ⟨g, 0, none⟩ : Option Addr).map (·.add k) = some ⟨g, k, none⟩ := by simp only [Option.map_some]; unfold Addr.add; split <;> simp_all
    rw [e2] at h2
    exact h2
theorem putI_same {l : List Int} {n : Int} {k : Nat} (hk : cutTo l n l.length = k) (h0 : 0 < k) (h1 : l.getD (k - 1) 0 = n) : putI l n = l := by unfold putI; rw [hk, if_pos ⟨h0, h1⟩]
theorem putI_new {l : List Int} {n : Int} {k : Nat} (hk : cutTo l n l.length = k) (h1 : ¬ (0 < k ∧ l.getD (k - 1) 0 = n)) : putI l n = l.take k ++ [n] ++ l.drop k := by unfold putI; rw [hk, if_neg h1]
end Go.Proofs.YtoedmmhiinhljaaDoor

/- A tiling turned: the reference. -/
namespace Go.Proofs.YtoedmmhiinhljaaDoor
open Go.RowKit
set_option linter.unusedVariables false
attribute [local go_sem ↓] Go.wp_at_zero Go.wp_at_succ

theorem l8Low_k (x : Int) (w : World) (h0 : 0 ≤ x) (hx : x < 2 ^ 62) : Calls Tryd.prog 33 #[.int .i64 x] w (Ret w (.int .i64 (keyT x : Nat))) := by
  obtain ⟨m, rfl⟩ : ∃ m : Nat, x = m := ⟨x.toNat, by omega⟩
  by_cases hm : m = 0
  · subst hm
    have hk : keyT ((0 : Nat) : Int) = 0 := rfl
    rw [hk]
    have h0I : ¬ ((0 : Nat) : Int) > 0 := by omega
    go_enter Tryd.func33, Tryd.ntmps33
    go_wp2_with fail
    go_loopw [3] (fun e3 wr => e3 = .int .i64 0 ∧ wr = w) (fun e3 _ => 0)
    case atStart => exact ⟨rfl, rfl⟩
    case round =>
      obtain ⟨rfl, rfl⟩ := hrel
      go_wp2_with fail
      go_ret
      exact ⟨rfl, Below.refl _ _⟩
  · have hk : keyT (m : Int) = lowN m := by unfold keyT; rw [if_neg (by omega), Int.toNat_natCast]
    rw [hk]
    exact l8Low_s m w hm (by omega)
theorem pos_step {key : Int → Nat} {x : Int} {out : List Int} {k j : Nat} (hk : k = j + 1) (h : key x < key (out.getD j 0)) : StM.pos key x out k = StM.pos key x out j := by
  subst hk
  show (if _ then _ else _) = _
  rw [if_pos h]
theorem pos_here {key : Int → Nat} {x : Int} {out : List Int} {k j : Nat} (hk : k = j + 1) (h : ¬ key x < key (out.getD j 0)) : StM.pos key x out k = k := by
  subst hk
  show (if _ then _ else _) = _
  rw [if_neg h]
set_option maxRecDepth 100000 in
set_option maxHeartbeats 6400000 in
theorem l23Sort_s (A : Option Addr) (n c : Nat) (L : List Int) (w : World) (hr : Rd w A (vI L)) (hl : L.length = n) (hn : n ≤ 1048576) (hx : ∀ x ∈ L, 0 ≤ x ∧ x < 2 ^ 62) :
    Calls Tryd.prog 19 #[.slice A n c] w (RetS w 3 1 (vI (StM.stS keyT L))) := by
  have HR := Lib.hid hr
  have HL := Lib.hid hl
  have HX := Lib.hid hx
  have HO0 := Lib.hid (own_blk (w := w.alloc (.cells #[] 3)) (cs := #[]) (Blk.new w 3 #[]) (base := w.heap.size) (size := 1) (n := 0) rfl (Nat.le_refl _) (Nat.zero_le _))
  clear hr hl hx
  go_enter Tryd.func19, Tryd.ntmps19
  go_wp2_with fail
  go_loopw [4, 3] (fun e4 e3 wr => ∃ (i g co : Nat) (out : List Int), i ≤ n ∧ e4 = .int .i64 i ∧ e3 = .slice (some ⟨g, 0, none⟩) i co ∧ out = StM.stS keyT (L.take i) ∧ wr.ownsRow w.heap.size 3 1 (.slice (some ⟨g, 0, none⟩) i co) i (vI out) ∧ (∀ x ∈ out, 0 ≤ x ∧ x < 2 ^ 62) ∧ Below w.heap.size w wr) (fun e4 _ _ => n - (intOf e4).toNat)
  case atStart => exact ⟨0, w.heap.size, 0, [], Nat.zero_le _, rfl, by simp, rfl, HO0.out, (fun x h => by cases h), bel_alloc (Below.refl _ _) _⟩
  case round =>
    obtain ⟨w1, hw1⟩ : ∃ w1, w1 = wr := ⟨_, rfl⟩
    subst hw1
    obtain ⟨i, g, co, out, hin, rfl, rfl, hout, hown, hrng, hb⟩ := hrel
    have hol : out.length = i := by have := own_len hown; rw [vI_length] at this; omega
    have HOUT := Lib.hid hout
    have HOW := Lib.hid hown
    have HRNG := Lib.hid hrng
    have HOL := Lib.hid hol
    have HB := Lib.hid hb
    have hgl := (own_lt hown g rfl).2
    have hmc : i ≤ co ∧ co ≤ 9223372036854775807 := by
      rcases hown.2 with ⟨h, _⟩ | ⟨g', cap, cur, hv, _, _, h1, h2, _⟩
      · cases h
      · injection hv with _ _ h3
        unfold maxLen at h2
        omega
    clear hout hown hrng hol hb
    by_cases hlt : i < n
    · have hi0 : (0 : Int) ≤ (i : Int) := by omega
      have hi1 : (i : Int) < (n : Int) := by omega
      have hil : i < L.length := by rw [HL.out]; exact hlt
      obtain ⟨gl, off, hA, hgl2, d1⟩ := RdI.at_ (HR.out.below HB.out) hil
      obtain ⟨x, hx⟩ : ∃ x, L[i] = x := ⟨_, rfl⟩
      have hxr := HX.out _ (List.getElem_mem hil)
      rw [hx] at d1 hxr
      have hst : StM.stS keyT (L.take (i + 1)) = StM.insS keyT out x := by
        unfold StM.stS
        rw [List.take_succ_eq_append_getElem hil, List.foldl_append, hx, HOUT.out]
        rfl
      have HST := Lib.hid hst
      have HXR := Lib.hid hxr
      have HD1 := Lib.hid d1
      clear hx hst hxr d1 hil
      subst hA
      go_wp2_with fail
      go_loopw [5] (fun e5 wr2 => ∃ k : Nat, k ≤ i ∧ e5 = .int .i64 k ∧ StM.pos keyT x out i = StM.pos keyT x out k ∧ Below w1.heap.size w1 wr2) (fun e5 _ => (intOf e5).toNat)
      case atStart => exact ⟨i, Nat.le_refl _, rfl, rfl, Below.refl _ _⟩
      case round =>
        obtain ⟨k, hk, rfl, hpos, hb2⟩ := hrel
        have HPOS := Lib.hid hpos
        have HB2 := Lib.hid hb2
        have d1 : wr.cell? ⟨gl, off + i, none⟩ = some (.int .i64 x) := keep_below hb2 HD1.out
        have dl := World.block_lt_of_cell? _ _ d1
        have hgl3 : g < wr.heap.size := by have := hb2.size; omega
        clear hpos hb2
        by_cases hk0 : 0 < k
        · obtain ⟨p, hp⟩ : ∃ p, k = p + 1 := ⟨k - 1, by omega⟩
          have hkI : (k : Int) > 0 := by omega
          have hpI : (k : Int) - 1 = (p : Int) := by omega
          have hpw : IntKind.i64.wrap (p : Int) = (p : Int) := Go.IntWalk.i64_in _ (by omega)
          have hp0 : (0 : Int) ≤ (p : Int) := by omega
          have hp1 : (p : Int) < (i : Int) := by omega
          have hpl : p < out.length := by rw [HOL.out]; omega
          obtain ⟨g2, off2, he, _, c1⟩ := RdI.at_ ((Rd.of_own HOW.out).below HB2.out) hpl
          simp only [Option.some.injEq, Addr.mk.injEq, and_true] at he
          obtain ⟨rfl, rfl⟩ := he
          rw [Nat.zero_add] at c1
          have hgd : out.getD p 0 = out[p] := by rw [List.getD_eq_getElem?_getD, List.getElem?_eq_getElem hpl]; rfl
          have hyr := HRNG.out _ (List.getElem_mem hpl)
          obtain ⟨y, hy⟩ : ∃ y, out[p] = y := ⟨_, rfl⟩
          rw [hy] at c1 hgd hyr
          obtain ⟨kx, hkx⟩ : ∃ kx, keyT x = kx := ⟨_, rfl⟩
          obtain ⟨ky, hky⟩ : ∃ ky, keyT y = ky := ⟨_, rfl⟩
          have HKX : Hid (∀ w', Calls Tryd.prog 33 #[.int .i64 x] w' (Ret w' (.int .i64 (kx : Int)))) := fun w' => by have h := l8Low_k x w' HXR.out.1 HXR.out.2; rw [hkx] at h; exact h
          have HKY : Hid (∀ w', Calls Tryd.prog 33 #[.int .i64 y] w' (Ret w' (.int .i64 (ky : Int)))) := fun w' => by have h := l8Low_k y w' hyr.1 hyr.2; rw [hky] at h; exact h
          have HYR := Lib.hid hyr
          have hcase : (kx < ky → StM.pos keyT x out i = StM.pos keyT x out p) ∧ (¬ kx < ky → StM.pos keyT x out i = k) :=
            ⟨fun h => by rw [HPOS.out]; exact pos_step hp (by rw [hgd, hkx, hky]; exact h), fun h => by rw [HPOS.out]; exact pos_here hp (by rw [hgd, hkx, hky]; exact h)⟩
          have HCASE := Lib.hid hcase
          have HPK := Lib.hid (show p < k by omega)
          have hpk : p ≤ i := by omega
          clear hp hpl hgd hyr hy hkx hky hcase
          by_cases hgt : kx < ky
          · have hgI : (kx : Int) < (ky : Int) := by omega
            have HN := Lib.hid (HCASE.out.1 hgt)
            go_upto_region 6 with fail
            (refine wp_region_below (by kernel_rfl) (by kernel_rfl) ?_; (repeat (first | go_big_quiet_skip | (refine quietV (v := ?_) (by rfl) rfl (fun w' hbw => ?_) ?_; rotate_left; ((try dsimp only at hbw); have hbc := (bcell hbw).1; have hbf := (bcell hbw).2; go_simp; first | done | with_reducible rfl | first | (with_reducible exact callsB (v := .int .i64 (ky : Int)) (HKY.out _) hbw) | (with_reducible exact callsB (v := .int .i64 (kx : Int)) (HKX.out _) hbw)); simp only [List.setIfInBounds_toArray, List.set_cons_zero, List.set_cons_succ]))); refine wpQuiet_nil ?_; intro wz hbz)
            go_wp2_with fail
            exact ⟨⟨p, hpk, rfl, HN.out, bel_trans HB2.out hbz⟩, by have := HPK.out; simp [intOf]; omega⟩
          · have hgI : ¬ (kx : Int) < (ky : Int) := by omega
            have HPE := Lib.hid (HCASE.out.2 hgt)
            go_upto_region 6 with fail
            (refine wp_region_below (by kernel_rfl) (by kernel_rfl) ?_; (repeat (first | go_big_quiet_skip | (refine quietV (v := ?_) (by rfl) rfl (fun w' hbw => ?_) ?_; rotate_left; ((try dsimp only at hbw); have hbc := (bcell hbw).1; have hbf := (bcell hbw).2; go_simp; first | done | with_reducible rfl | first | (with_reducible exact callsB (v := .int .i64 (ky : Int)) (HKY.out _) hbw) | (with_reducible exact callsB (v := .int .i64 (kx : Int)) (HKX.out _) hbw)); simp only [List.setIfInBounds_toArray, List.set_cons_zero, List.set_cons_succ]))); refine wpQuiet_nil ?_; intro wz hbz)
            have HBQ := Lib.hid (bel_trans HB2.out hbz)
            clear c1 d1 dl hbz
            have HINS : Hid (out.take k ++ [x] ++ out.drop k = StM.stS keyT (L.take (i + 1))) := by
              show _ = _
              rw [HST.out]
              unfold StM.insS
              rw [HOL.out, HPE.out]
              simp
            have HRN2 : Hid (∀ z ∈ StM.stS keyT (L.take (i + 1)), 0 ≤ z ∧ z < 2 ^ 62) := fun z hz => by
              rw [← HINS.out, List.mem_append, List.mem_append, List.mem_singleton] at hz
              rcases hz with (hz | hz) | hz
              · exact HRNG.out z (List.mem_of_mem_take hz)
              · rw [hz]; exact HXR.out
              · exact HRNG.out z (List.mem_of_mem_drop hz)
            go_wp2_with fail
            obtain ⟨i0, hi, hz0, hz1, hz2⟩ := info_parts infoI
            have hs1 : ∀ w', (Instr.slice 22 (.slice (some ⟨g, 0, none⟩) i co) none (some (.int .i64 (k : Int))) none).run Tryd.prog w' = .ok (.slice (some ⟨g, 0, none⟩) k co) w' := fun w' => run_upto w' g i co k (by omega)
            have hs2 : ∀ w', (Instr.slice 22 (.slice (some ⟨g, 0, none⟩) i co) (some (.int .i64 (k : Int))) none none).run Tryd.prog w' = .ok (.slice (some ⟨g, offK co k, none⟩) (i - k) (co - k)) w' := fun w' => run_from w' g i co k hk
            have hrw := (Rd.of_own HOW.out).below HBQ.out
            have r2 : Rd wz (some ⟨g, offK co k, none⟩) (vI (out.drop k)) := Rd.from_ hrw HOL.out hmc.1
            have r1 : Rd wz (some ⟨g, 0, none⟩) (vI (out.take k)) := by rw [vI_take]; exact Rd.take hrw _
            have L1 : Hid ((out.take k).length = k) := by show (out.take k).length = k; rw [List.length_take, HOL.out]; omega
            have L2 : Hid ((out.drop k).length = i - k) := by show (out.drop k).length = i - k; rw [List.length_drop, HOL.out]
            have R1 := Lib.hid r1
            have R2 := Lib.hid r2
            have HI := Lib.hid hi
            have HZ0 := Lib.hid hz0
            have HZ1 := Lib.hid hz1
            have HZ2 := Lib.hid hz2
            have dq : wz.cell? ⟨gl, off + i, none⟩ = some (.int .i64 x) := keep_below HBQ.out HD1.out
            have dql := World.block_lt_of_cell? _ _ dq
            clear r1 r2 hi hz0 hz1 hz2 hrw
            refine wp_region_rg 16 rfl (by kernel_rfl) ?_
            (refine rgT (i := 1) (v := ?_) rfl rfl (by kernel_rfl) (by kernel_rfl) (by kernel_rfl) (by rfl) (fun w' hcw => ?_) ?_; rotate_left; ((try dsimp only at hcw); have hbc := hcw.cells; go_simp; first | done | with_reducible rfl); simp only [List.setIfInBounds_toArray, List.set_cons_zero, List.set_cons_succ])
            (refine rgT (i := 2) (v := ?_) rfl rfl (by kernel_rfl) (by kernel_rfl) (by kernel_rfl) (by rfl) (fun w' hcw => ?_) ?_; rotate_left; ((try dsimp only at hcw); have hbc := hcw.cells; go_simp; first | done | with_reducible rfl); simp only [List.setIfInBounds_toArray, List.set_cons_zero, List.set_cons_succ])
            (refine rgT (i := 3) (v := ?_) rfl rfl (by kernel_rfl) (by kernel_rfl) (by kernel_rfl) (by rfl) (fun w' hcw => ?_) ?_; rotate_left; ((try dsimp only at hcw); have hbc := hcw.cells; go_simp; first | done | with_reducible rfl); simp only [List.setIfInBounds_toArray, List.set_cons_zero, List.set_cons_succ])
            (refine rgT (i := 5) (v := ?_) rfl rfl (by kernel_rfl) (by kernel_rfl) (by kernel_rfl) (by rfl) (fun w' hcw => ?_) ?_; rotate_left; ((try dsimp only at hcw); have hbc := hcw.cells; go_simp; first | done | with_reducible rfl); simp only [List.setIfInBounds_toArray, List.set_cons_zero, List.set_cons_succ])
            (refine rgT (i := 6) (v := ?_) rfl rfl (by kernel_rfl) (by kernel_rfl) (by kernel_rfl) (by rfl) (fun w' hcw => ?_) ?_; rotate_left; ((try dsimp only at hcw); have hbc := hcw.cells; go_simp; first | done | with_reducible rfl); simp only [List.setIfInBounds_toArray, List.set_cons_zero, List.set_cons_succ])
            (refine rgT (i := 7) (v := ?_) rfl rfl (by kernel_rfl) (by kernel_rfl) (by kernel_rfl) (by rfl) (fun w' hcw => ?_) ?_; rotate_left; ((try dsimp only at hcw); have hbc := hcw.cells; go_simp; first | done | with_reducible rfl); simp only [List.setIfInBounds_toArray, List.set_cons_zero, List.set_cons_succ])
            (refine rgT (i := 8) (v := ?_) rfl rfl (by kernel_rfl) (by kernel_rfl) (by kernel_rfl) (by rfl) (fun w' hcw => ?_) ?_; rotate_left; ((try dsimp only at hcw); have hbc := hcw.cells; go_simp; first | done | with_reducible rfl); simp only [List.setIfInBounds_toArray, List.set_cons_zero, List.set_cons_succ])
            (refine rgT (i := 11) (v := ?_) rfl rfl (by kernel_rfl) (by kernel_rfl) (by kernel_rfl) (by rfl) (fun w' hcw => ?_) ?_; rotate_left; ((try dsimp only at hcw); have hbc := hcw.cells; go_simp; first | done | with_reducible rfl); simp only [List.setIfInBounds_toArray, List.set_cons_zero, List.set_cons_succ])
            (refine rgT (i := 12) (v := ?_) rfl rfl (by kernel_rfl) (by kernel_rfl) (by kernel_rfl) (by rfl) (fun w' hcw => ?_) ?_; rotate_left; ((try dsimp only at hcw); have hbc := hcw.cells; go_simp; first | done | with_reducible rfl); simp only [List.setIfInBounds_toArray, List.set_cons_zero, List.set_cons_succ])
            (refine rgT (i := 13) (v := ?_) rfl rfl (by kernel_rfl) (by kernel_rfl) (by kernel_rfl) (by rfl) (fun w' hcw => ?_) ?_; rotate_left; ((try dsimp only at hcw); have hbc := hcw.cells; go_simp; first | done | with_reducible rfl); simp only [List.setIfInBounds_toArray, List.set_cons_zero, List.set_cons_succ])
            refine ins_tail (T := 22) (e := 3) (i := i0) (z := .int .i64 0) (size := 1) (bytes := 8) (i0 := 0) (iA := 4) (iN := 9) (iB := 10) (iD := 14) (iE := 15) (s0 := 33) (sA := 37) (sN := 42) (sB := 43) (sD := 47) (dE := 3) (t1 := 36) (t2 := 46) (xn := .tmp 41) (vn := .int .i64 x) (news := vI [x]) (vs1 := vI (out.take k)) (vs2 := vI (out.drop k)) (A1 := some ⟨g, 0, none⟩) (m1 := k) (c1 := co) (A2 := some ⟨g, offK co k, none⟩) (m2 := i - k) (c2 := co - k) _ ?ht ?hi ?hz ?h1 ?h2 rfl (by omega) ⟨⟨_, rfl, rfl, rfl, fun a w => ?p0⟩, ⟨_, rfl, rfl, rfl, rfl⟩, ⟨_, rfl, rfl, rfl, fun a w h => ?pN⟩, ⟨_, rfl, rfl, rfl, rfl⟩, ⟨_, rfl, rfl, rfl, rfl⟩, ⟨_, rfl, rfl, rfl, rfl⟩⟩ ⟨by simp, by decide, by decide, by decide⟩ (fun a h => (h.eval (by decide)).trans rfl) (by kernel_rfl) (by kernel_rfl) (by kernel_rfl) (by kernel_rfl) (by kernel_rfl) (by decide) (by decide) (by kernel_rfl) (by kernel_rfl) (by kernel_rfl) (by kernel_rfl) rfl ?q1 ?l1 ?o1 rfl ?q2 ?l2 ?o2 ?ln ?on ?hm ?hb ?hQ
            case ht => exact Tryd.underlying22
            case hi => exact HI.out
            case hz => exact HZ0.out
            case h1 => exact HZ1.out
            case h2 => exact HZ2.out
            case p0 => simp [go_sem, execOp]
            case pN => (generalize Act.eval a = ρ at h ⊢; simp [go_sem, execOp, h, vI])
            case q1 => exact R1.out
            case l1 => rw [vI_length, L1.out] <;> omega
            case o1 => exact vI_one _
            case q2 => exact R2.out
            case l2 => rw [vI_length, L2.out] <;> omega
            case o2 => exact vI_one _
            case ln => rfl
            case on => exact vI_one _
            case hm => omega
            case hb => omega
            case hQ =>
              intro a' w' A' c' hfr hev how hex
              have e2 : k + 1 + (i - k) = i + 1 := by omega
              rw [e2] at hev how
              obtain ⟨v0, vA, vN, vB, vD, rfl⟩ := hfr.form hev
              rw [← vI_append, ← vI_append, HINS.out] at how
              obtain ⟨g', rfl, _, _⟩ := own_at how (by omega)
              have hbz := bel_trans (bel_trans HB.out HBQ.out) hex
              have HOWN := Lib.hid (own_base how (by have h1 := HB.out.size; have h2 := HBQ.out.size; omega : w.heap.size ≤ _))
              have HBZ := Lib.hid hbz
              clear how hev hfr hbz hex
              refine NoPanic.normal ?_
              simp only [List.setIfInBounds_toArray, List.set_cons_zero, List.set_cons_succ]
              go_wp2_with fail
              exact ⟨⟨i + 1, g', c', _, by omega, by go_num, rfl, HST.out.symm ▸ rfl, HOWN.out, HRN2.out, HBZ.out⟩, by simp [intOf]; omega⟩
        · have hkI : ¬ (k : Int) > 0 := by omega
          have hkd : decide ((k : Int) > 0) = false := decide_eq_false hkI
          have HPE : Hid (StM.pos keyT x out i = k) := by show _ = _; rw [HPOS.out, show k = 0 by omega]; rfl
          clear hkI
          go_upto_region 6 with fail
          (refine wp_region_below (by kernel_rfl) (by kernel_rfl) ?_; (repeat (first | go_big_quiet_skip | (refine quietV (v := ?_) (by rfl) rfl (fun w' hbw => ?_) ?_; rotate_left; ((try dsimp only at hbw); have hbc := (bcell hbw).1; have hbf := (bcell hbw).2; go_simp; first | done | with_reducible rfl | fail); simp only [List.setIfInBounds_toArray, List.set_cons_zero, List.set_cons_succ]))); refine wpQuiet_nil ?_; intro wz hbz)
          have HBQ := Lib.hid (bel_trans HB2.out hbz)
          clear d1 dl hbz
          have HINS : Hid (out.take k ++ [x] ++ out.drop k = StM.stS keyT (L.take (i + 1))) := by
            show _ = _
            rw [HST.out]
            unfold StM.insS
            rw [HOL.out, HPE.out]
            simp
          have HRN2 : Hid (∀ z ∈ StM.stS keyT (L.take (i + 1)), 0 ≤ z ∧ z < 2 ^ 62) := fun z hz => by
            rw [← HINS.out, List.mem_append, List.mem_append, List.mem_singleton] at hz
            rcases hz with (hz | hz) | hz
            · exact HRNG.out z (List.mem_of_mem_take hz)
            · rw [hz]; exact HXR.out
            · exact HRNG.out z (List.mem_of_mem_drop hz)
          go_wp2_with fail
          obtain ⟨i0, hi, hz0, hz1, hz2⟩ := info_parts infoI
          have hs1 : ∀ w', (Instr.slice 22 (.slice (some ⟨g, 0, none⟩) i co) none (some (.int .i64 (k : Int))) none).run Tryd.prog w' = .ok (.slice (some ⟨g, 0, none⟩) k co) w' := fun w' => run_upto w' g i co k (by omega)
          have hs2 : ∀ w', (Instr.slice 22 (.slice (some ⟨g, 0, none⟩) i co) (some (.int .i64 (k : Int))) none none).run Tryd.prog w' = .ok (.slice (some ⟨g, offK co k, none⟩) (i - k) (co - k)) w' := fun w' => run_from w' g i co k hk
          have hrw := (Rd.of_own HOW.out).below HBQ.out
          have r2 : Rd wz (some ⟨g, offK co k, none⟩) (vI (out.drop k)) := Rd.from_ hrw HOL.out hmc.1
          have r1 : Rd wz (some ⟨g, 0, none⟩) (vI (out.take k)) := by rw [vI_take]; exact Rd.take hrw _
          have L1 : Hid ((out.take k).length = k) := by show (out.take k).length = k; rw [List.length_take, HOL.out]; omega
          have L2 : Hid ((out.drop k).length = i - k) := by show (out.drop k).length = i - k; rw [List.length_drop, HOL.out]
          have R1 := Lib.hid r1
          have R2 := Lib.hid r2
          have HI := Lib.hid hi
          have HZ0 := Lib.hid hz0
          have HZ1 := Lib.hid hz1
          have HZ2 := Lib.hid hz2
          have dq : wz.cell? ⟨gl, off + i, none⟩ = some (.int .i64 x) := keep_below HBQ.out HD1.out
          have dql := World.block_lt_of_cell? _ _ dq
          clear r1 r2 hi hz0 hz1 hz2 hrw
          refine wp_region_rg 16 rfl (by kernel_rfl) ?_
          (refine rgT (i := 1) (v := ?_) rfl rfl (by kernel_rfl) (by kernel_rfl) (by kernel_rfl) (by rfl) (fun w' hcw => ?_) ?_; rotate_left; ((try dsimp only at hcw); have hbc := hcw.cells; go_simp; first | done | with_reducible rfl); simp only [List.setIfInBounds_toArray, List.set_cons_zero, List.set_cons_succ])
          (refine rgT (i := 2) (v := ?_) rfl rfl (by kernel_rfl) (by kernel_rfl) (by kernel_rfl) (by rfl) (fun w' hcw => ?_) ?_; rotate_left; ((try dsimp only at hcw); have hbc := hcw.cells; go_simp; first | done | with_reducible rfl); simp only [List.setIfInBounds_toArray, List.set_cons_zero, List.set_cons_succ])
          (refine rgT (i := 3) (v := ?_) rfl rfl (by kernel_rfl) (by kernel_rfl) (by kernel_rfl) (by rfl) (fun w' hcw => ?_) ?_; rotate_left; ((try dsimp only at hcw); have hbc := hcw.cells; go_simp; first | done | with_reducible rfl); simp only [List.setIfInBounds_toArray, List.set_cons_zero, List.set_cons_succ])
          (refine rgT (i := 5) (v := ?_) rfl rfl (by kernel_rfl) (by kernel_rfl) (by kernel_rfl) (by rfl) (fun w' hcw => ?_) ?_; rotate_left; ((try dsimp only at hcw); have hbc := hcw.cells; go_simp; first | done | with_reducible rfl); simp only [List.setIfInBounds_toArray, List.set_cons_zero, List.set_cons_succ])
          (refine rgT (i := 6) (v := ?_) rfl rfl (by kernel_rfl) (by kernel_rfl) (by kernel_rfl) (by rfl) (fun w' hcw => ?_) ?_; rotate_left; ((try dsimp only at hcw); have hbc := hcw.cells; go_simp; first | done | with_reducible rfl); simp only [List.setIfInBounds_toArray, List.set_cons_zero, List.set_cons_succ])
          (refine rgT (i := 7) (v := ?_) rfl rfl (by kernel_rfl) (by kernel_rfl) (by kernel_rfl) (by rfl) (fun w' hcw => ?_) ?_; rotate_left; ((try dsimp only at hcw); have hbc := hcw.cells; go_simp; first | done | with_reducible rfl); simp only [List.setIfInBounds_toArray, List.set_cons_zero, List.set_cons_succ])
          (refine rgT (i := 8) (v := ?_) rfl rfl (by kernel_rfl) (by kernel_rfl) (by kernel_rfl) (by rfl) (fun w' hcw => ?_) ?_; rotate_left; ((try dsimp only at hcw); have hbc := hcw.cells; go_simp; first | done | with_reducible rfl); simp only [List.setIfInBounds_toArray, List.set_cons_zero, List.set_cons_succ])
          (refine rgT (i := 11) (v := ?_) rfl rfl (by kernel_rfl) (by kernel_rfl) (by kernel_rfl) (by rfl) (fun w' hcw => ?_) ?_; rotate_left; ((try dsimp only at hcw); have hbc := hcw.cells; go_simp; first | done | with_reducible rfl); simp only [List.setIfInBounds_toArray, List.set_cons_zero, List.set_cons_succ])
          (refine rgT (i := 12) (v := ?_) rfl rfl (by kernel_rfl) (by kernel_rfl) (by kernel_rfl) (by rfl) (fun w' hcw => ?_) ?_; rotate_left; ((try dsimp only at hcw); have hbc := hcw.cells; go_simp; first | done | with_reducible rfl); simp only [List.setIfInBounds_toArray, List.set_cons_zero, List.set_cons_succ])
          (refine rgT (i := 13) (v := ?_) rfl rfl (by kernel_rfl) (by kernel_rfl) (by kernel_rfl) (by rfl) (fun w' hcw => ?_) ?_; rotate_left; ((try dsimp only at hcw); have hbc := hcw.cells; go_simp; first | done | with_reducible rfl); simp only [List.setIfInBounds_toArray, List.set_cons_zero, List.set_cons_succ])
          refine ins_tail (T := 22) (e := 3) (i := i0) (z := .int .i64 0) (size := 1) (bytes := 8) (i0 := 0) (iA := 4) (iN := 9) (iB := 10) (iD := 14) (iE := 15) (s0 := 33) (sA := 37) (sN := 42) (sB := 43) (sD := 47) (dE := 3) (t1 := 36) (t2 := 46) (xn := .tmp 41) (vn := .int .i64 x) (news := vI [x]) (vs1 := vI (out.take k)) (vs2 := vI (out.drop k)) (A1 := some ⟨g, 0, none⟩) (m1 := k) (c1 := co) (A2 := some ⟨g, offK co k, none⟩) (m2 := i - k) (c2 := co - k) _ ?ht ?hi ?hz ?h1 ?h2 rfl (by omega) ⟨⟨_, rfl, rfl, rfl, fun a w => ?p0⟩, ⟨_, rfl, rfl, rfl, rfl⟩, ⟨_, rfl, rfl, rfl, fun a w h => ?pN⟩, ⟨_, rfl, rfl, rfl, rfl⟩, ⟨_, rfl, rfl, rfl, rfl⟩, ⟨_, rfl, rfl, rfl, rfl⟩⟩ ⟨by simp, by decide, by decide, by decide⟩ (fun a h => (h.eval (by decide)).trans rfl) (by kernel_rfl) (by kernel_rfl) (by kernel_rfl) (by kernel_rfl) (by kernel_rfl) (by decide) (by decide) (by kernel_rfl) (by kernel_rfl) (by kernel_rfl) (by kernel_rfl) rfl ?q1 ?l1 ?o1 rfl ?q2 ?l2 ?o2 ?ln ?on ?hm ?hb ?hQ
          case ht => exact Tryd.underlying22
          case hi => exact HI.out
          case hz => exact HZ0.out
          case h1 => exact HZ1.out
          case h2 => exact HZ2.out
          case p0 => simp [go_sem, execOp]
          case pN => (generalize Act.eval a = ρ at h ⊢; simp [go_sem, execOp, h, vI])
          case q1 => exact R1.out
          case l1 => rw [vI_length, L1.out] <;> omega
          case o1 => exact vI_one _
          case q2 => exact R2.out
          case l2 => rw [vI_length, L2.out] <;> omega
          case o2 => exact vI_one _
          case ln => rfl
          case on => exact vI_one _
          case hm => omega
          case hb => omega
          case hQ =>
            intro a' w' A' c' hfr hev how hex
            have e2 : k + 1 + (i - k) = i + 1 := by omega
            rw [e2] at hev how
            obtain ⟨v0, vA, vN, vB, vD, rfl⟩ := hfr.form hev
            rw [← vI_append, ← vI_append, HINS.out] at how
            obtain ⟨g', rfl, _, _⟩ := own_at how (by omega)
            have hbz := bel_trans (bel_trans HB.out HBQ.out) hex
            have HOWN := Lib.hid (own_base how (by have h1 := HB.out.size; have h2 := HBQ.out.size; omega : w.heap.size ≤ _))
            have HBZ := Lib.hid hbz
            clear how hev hfr hbz hex
            refine NoPanic.normal ?_
            simp only [List.setIfInBounds_toArray, List.set_cons_zero, List.set_cons_succ]
            go_wp2_with fail
            exact ⟨⟨i + 1, g', c', _, by omega, by go_num, rfl, HST.out.symm ▸ rfl, HOWN.out, HRN2.out, HBZ.out⟩, by simp [intOf]; omega⟩
    · obtain rfl : i = n := by omega
      have hi1 : ¬ (i : Int) < (i : Int) := by omega
      have HV : Hid (StM.stS keyT L = out) := by show _ = _; rw [HOUT.out, List.take_of_length_le (by rw [HL.out]; exact Nat.le_refl _)]
      go_wp2_with fail
      go_ret
      exact ⟨_, _, _, rfl, by rw [HV.out]; exact HOW.out, HB.out⟩
end Go.Proofs.YtoedmmhiinhljaaDoor

/- Steps of a region that draws its order, with the rest named. -/
namespace Go.Proofs.YtoedmmhiinhljaaDoor
open Go.RowKit
set_option linter.unusedVariables false
section
variable {P : Program} {ops : Array Oper} {md : Region.Mode} {C : World → Prop} {Q : Exit → Act → World → Prop}
theorem rgK_one {f i : Nat} {o : Oper} {listed : Array Bool} {a : Act} {w : World} (hr : Region.ready md ops listed = [i]) (hi : ops[i]? = some o) (hg : o.guard = none)
    (h : ∀ w', C w' → Ext w w' → ∀ K : Act → World → Prop, (∀ a' w'', C w'' → wpRg P md ops C Q f (listed.setIfInBounds i true) a' w'' → K a' w'') → o.wp P a w' K Q) : wpRg P md ops C Q (f + 1) listed a w :=
  rg_one hr hi hg fun w' hc he => h w' hc he _ fun _ _ h1 h2 => ⟨h1, h2⟩
theorem rgK_two {f i k : Nat} {o o2 : Oper} {listed : Array Bool} {a : Act} {w : World} (hr : Region.ready md ops listed = [i, k]) (hi : ops[i]? = some o) (hg : o.guard = none) (hk : ops[k]? = some o2) (hg2 : o2.guard = none)
    (h : ∀ w', C w' → Ext w w' → ∀ K : Act → World → Prop, (∀ a' w'', C w'' → wpRg P md ops C Q f (listed.setIfInBounds i true) a' w'' → K a' w'') → o.wp P a w' K Q)
    (h2 : ∀ w', C w' → Ext w w' → ∀ K : Act → World → Prop, (∀ a' w'', C w'' → wpRg P md ops C Q f (listed.setIfInBounds k true) a' w'' → K a' w'') → o2.wp P a w' K Q) : wpRg P md ops C Q (f + 1) listed a w :=
  rg_two hr hi hg hk hg2 (fun w' hc he => h w' hc he _ fun _ _ h1 h2 => ⟨h1, h2⟩) (fun w' hc he => h2 w' hc he _ fun _ _ h1 h2 => ⟨h1, h2⟩)
/-- An operation whose guard does not hold is taken first. -/
theorem rgS {i d : Nat} {oi : Oper} {f : Nat} {listed : Array Bool} {ts : Array Value} {ds : List Deferred} {w w0 : World} (hi : ops[i]? = some oi) (hd : oi.dst = some d)
    (hs : Region.noSelect ops = true) (hf : Region.free .any ops listed i = true) (hr : (Region.ready .any ops listed).contains i = true) (hw : Region.wanted oi (yielded ops ts) = false)
    (h : wpRg P .any ops (ExC w0) (NoPanic Q) f (listed.setIfInBounds i true) { tmps := ts.setIfInBounds d undef, defers := ds } w) : wpRg P .any ops (ExC w0) (NoPanic Q) (f + 1) listed { tmps := ts, defers := ds } w :=
  wpRg_first (v := undef) (fun _ _ h k => h.ext k) hi (Region.noSelect_spec hs) (fun _ _ _ h => h) f listed _ w (Region.free_spec hi hf) (by simpa using hr) (.inr ⟨hw, rfl⟩) (by rw [hd]; exact h)
end
end Go.Proofs.YtoedmmhiinhljaaDoor

/- A tiling turned: the reference's TurnTiling. -/
namespace Go.Proofs.YtoedmmhiinhljaaDoor
open Go.RowKit
set_option linter.unusedVariables false
attribute [local go_sem ↓] Go.wp_at_zero Go.wp_at_succ


set_option maxRecDepth 100000 in
set_option maxHeartbeats 6400000 in
theorem TurnTiling_s (W : Int) (A : Option Addr) (n c : Nat) (D : Option Addr) (k cd : Nat) (rows l : List Int) (m : Int) (w : World) (hr : Rd w A (vI rows)) (hl : rows.length = n) (hrI : Rd w D (vI l)) (hlI : l.length = k) (hx : ∀ x ∈ l, x < 9223372036854775808) (hk : k ≤ 1048576) :
    Calls Tryd.prog 6 #[.agg #[.int .i64 W, .slice A n c], .slice D k cd, .int .i64 m] w (RetS2 w 3 1 (vI (ttV W rows l m)) (.bool (ttOk W rows l m))) := by
  have HL := Lib.hid hl
  have HR := Lib.hid hr
  have HRI := Lib.hid hrI
  have HLI := Lib.hid hlI
  have HX := Lib.hid hx
  have hml := motV_len W rows
  have HB0 := Lib.hid ((Blk.new w 28 #[.int .i64 W, .slice A n c]).alloc (.cells #[] 3))
  have ho0 := own_blk (cs := #[]) (Blk.new (w.alloc (.cells #[.int .i64 W, .slice A n c] 28)) 3 #[]) (base := w.heap.size + 1) (size := 1) (n := 0) rfl (by simp) (Nat.zero_le _)
  rw [World.size_alloc] at ho0
  have HO0 := Lib.hid ho0
  have HBEL0 := Lib.hid (bel_alloc (bel_alloc (Below.refl w.heap.size w) (.cells #[.int .i64 W, .slice A n c] 28)) (.cells #[] 3))
  clear hr hl hrI hlI hx ho0
  go_enter Tryd.func6, Tryd.ntmps6
  go_wp2_with fail
  go_loopw [9, 8] (fun e9 e8 wr => ∃ (i g co : Nat), i ≤ k ∧ e9 = .int .i64 i ∧ e8 = .slice (some ⟨g, 0, none⟩) i co ∧ wr.ownsRow (w.heap.size + 1) 3 1 (.slice (some ⟨g, 0, none⟩) i co) i (vI ((l.take i).map fun x => tmV W rows x m)) ∧ (∀ x ∈ l.take i, tmOk W rows x m = true) ∧ Blk wr w.heap.size 28 #[.int .i64 W, .slice A n c] ∧ Below w.heap.size w wr) (fun e9 _ _ => k - (intOf e9).toNat)
  case atStart => exact ⟨0, w.heap.size + 1, 0, Nat.zero_le _, rfl, by simp, by simpa [vI] using HO0.out, (fun x h => by simp at h), HB0.out, HBEL0.out⟩
  case round =>
    obtain ⟨i, g, co, hik, rfl, rfl, hown, hall, hbox, hb⟩ := hrel
    have HOW := Lib.hid hown
    have HALL := Lib.hid hall
    have HBX := Lib.hid hbox
    have HB := Lib.hid hb
    have b0 : wr.cell? ⟨w.heap.size, 0, none⟩ = some (.int .i64 W) := by simpa using hbox.cell 0
    have b1 : wr.cell? ⟨w.heap.size, 1, none⟩ = some (.slice A n c) := by simpa using hbox.cell 1
    have bl := hbox.lt
    clear hown hall hbox hb
    by_cases hlt : i < k
    · have hi0 : (0 : Int) ≤ (i : Int) := by omega
      have hi1 : (i : Int) < (k : Int) := by omega
      have hil : i < l.length := by rw [HLI.out]; exact hlt
      obtain ⟨gl, off, hA, hgl2, d1⟩ := RdI.at_ (HRI.out.below HB.out) hil
      have hmap := map_take_succ (fun x => tmV W rows x m) hil
      have hals := fun h2 => all_take_succ (P := fun x => tmOk W rows x m = true) hil HALL.out h2
      obtain ⟨x, hx⟩ : ∃ x, l[i] = x := ⟨_, rfl⟩
      have hxm : x ∈ l := by rw [← hx]; exact List.getElem_mem hil
      rw [hx] at d1 hmap hals
      have HMAP := Lib.hid hmap
      have HALS := Lib.hid hals
      have HXM := Lib.hid hxm
      have hx63 := HX.out x hxm
      have HTM : Hid (∀ w', Below wr.heap.size wr w' → Calls Tryd.prog 18 #[.agg #[.int .i64 W, .slice A n c], .int .i64 x, .int .i64 m] w' (Ret w' (.tuple #[.int .i64 (tmV W rows x m), .bool (tmOk W rows x m)]))) := fun w' hb' => TurnMask_s W A n c rows x m w' ((HR.out.below HB.out).below hb') HL.out hx63
      obtain ⟨tv, htv⟩ : ∃ tv, tmV W rows x m = tv := ⟨_, rfl⟩
      obtain ⟨tk, htk⟩ : ∃ tk, tmOk W rows x m = tk := ⟨_, rfl⟩
      rw [htv, htk] at HTM
      rw [htv] at HMAP
      have HTK := Lib.hid htk
      clear hx hxm hx63 hil hmap hals htv htk
      subst hA
      cases tk with
      | false =>
        have HTO : Hid (ttOk W rows l m = false) := ttOk_no HXM.out HTK.out
        have HTV : Hid (ttV W rows l m = []) := ttV_no HTO.out
        go_wp2_with fail
        (refine wp_region_below (by kernel_rfl) (by kernel_rfl) ?_; (repeat (first | go_big_quiet_skip | (refine quietV (v := ?_) (by rfl) rfl (fun w' hbw => ?_) ?_; rotate_left; ((try dsimp only at hbw); have hbc := (bcell hbw).1; have hbf := (bcell hbw).2; go_simp; first | done | with_reducible rfl | (with_reducible exact callsB (v := .tuple #[.int .i64 tv, .bool false]) (HTM.out _ hbw) hbw)); simp only [List.setIfInBounds_toArray, List.set_cons_zero, List.set_cons_succ]))); refine wpQuiet_nil ?_; intro w2 hb2)
        have hbz := bel_trans HB.out hb2
        have HBZ := Lib.hid (bel_alloc hbz (.cells #[] 3))
        have HOZ := Lib.hid (own_blk (cs := #[]) (Blk.new w2 3 #[]) (base := w.heap.size) (size := 1) (n := 0) rfl hbz.size (Nat.zero_le _))
        clear hbz hb2
        go_wp2_with fail
        go_ret2
        exact ⟨_, _, _, by rw [HTO.out]; rfl, by rw [HTV.out]; exact HOZ.out, HBZ.out⟩
      | true =>
        have HAL2 := Lib.hid (HALS.out HTK.out)
        go_wp2_with fail
        (refine wp_region_below (by kernel_rfl) (by kernel_rfl) ?_; (repeat (first | go_big_quiet_skip | (refine quietV (v := ?_) (by rfl) rfl (fun w' hbw => ?_) ?_; rotate_left; ((try dsimp only at hbw); have hbc := (bcell hbw).1; have hbf := (bcell hbw).2; go_simp; first | done | with_reducible rfl | (with_reducible exact callsB (v := .tuple #[.int .i64 tv, .bool true]) (HTM.out _ hbw) hbw)); simp only [List.setIfInBounds_toArray, List.set_cons_zero, List.set_cons_succ]))); refine wpQuiet_nil ?_; intro w2 hb2)
        have HB2 := Lib.hid hb2
        clear hb2
        go_wp2_with (at_builtin; go_must (refine app_I _ rfl _ _ rfl (w.heap.size + 1) _ _ _ _ rfl ((own_keep HOW.out HB2.out).alloc _) _ _ _ [tv] rfl (rd_newI _ _ _) rfl (by omega) (by have h1 := HB.out.size; have h2 := HB2.out.size; simp; omega) ?_); intro D6 c6 w6 ho6 hg6 hat6; have HO6 := Lib.hid ho6; have HG6 := Lib.hid hg6; clear ho6 hg6 hat6)
        have hgl := own_lt HOW.out g rfl
        have hb6 : Below w.heap.size w w6 := bel_app (bel_alloc (bel_trans HB.out HB2.out) _) HG6.out (fun g9 e9 => by simp only [ob, Option.map_some, Option.some.injEq] at e9; omega)
        have HB6 := Lib.hid hb6
        have HBX6 := Lib.hid (((HBX.out.below HB2.out).alloc (.cells #[.int .i64 tv] 3)).grown HG6.out (fun e => by simp only [ob, Option.map_some, Option.some.injEq] at e; omega))
        obtain ⟨g6, hg6, _, _⟩ := own_at HO6.out (by omega)
        subst hg6
        have HOV : Hid (w6.ownsRow (w.heap.size + 1) 3 1 (.slice (some ⟨g6, 0, none⟩) (i + 1) c6) (i + 1) (vI ((l.take (i + 1)).map fun x => tmV W rows x m))) := by
          show World.ownsRow _ _ _ _ _ _ _
          rw [HMAP.out]
          exact HO6.out
        clear hb6 hgl
        go_wp2_with fail
        exact ⟨⟨i + 1, g6, c6, by omega, by go_num, rfl, HOV.out, HAL2.out, HBX6.out, HB6.out⟩, by simp [intOf]; omega⟩
    · obtain rfl : i = k := by omega
      have hi1 : ¬ (i : Int) < (i : Int) := by omega
      have htl : l.take i = l := List.take_of_length_le (by rw [HLI.out]; exact Nat.le_refl _)
      have hall := HALL.out
      have hown := HOW.out
      rw [htl] at hall hown
      obtain ⟨hv, ho⟩ := ttV_all hall
      obtain ⟨M, hM⟩ : ∃ M, l.map (fun x => tmV W rows x m) = M := ⟨_, rfl⟩
      rw [hM] at hv hown
      have hMl : M.length = i := by rw [← hM, List.length_map, HLI.out]
      have hMr : ∀ x ∈ M, 0 ≤ x ∧ x < 2 ^ 62 := fun x hx => by
        rw [← hM] at hx
        obtain ⟨y, _, rfl⟩ := List.mem_map.1 hx
        exact tmV_lt
      obtain ⟨an, han⟩ : ∃ an, (motV W rows).any (· == m) = an := ⟨_, rfl⟩
      rw [han] at ho
      have HTV := Lib.hid hv
      have HTO := Lib.hid ho
      have HAN := Lib.hid han
      have HCS : Hid (∀ u, Below wr.heap.size wr u → Calls Tryd.prog 19 #[.slice (some ⟨g, 0, none⟩) i co] u (RetS u 3 1 (vI (StM.stS keyT M)))) := fun u hu => l23Sort_s _ i co M u (Rd.of_own (own_keep hown hu)) hMl (by omega) hMr
      have HRR : Hid (∀ u, Below wr.heap.size wr u → Rd u A (vI rows)) := fun u hu => (HR.out.below HB.out).below hu
      clear htl hall hown hv ho hM hMl hMr han
      go_wp2_with fail
      refine wp_region_rg 8 rfl (by kernel_rfl) ?_
      (refine rgT (i := 0) (v := ?_) rfl rfl (by kernel_rfl) (by kernel_rfl) (by kernel_rfl) (by rfl) (fun w' hcw => ?_) ?_; rotate_left; ((try dsimp only at hcw); have hbc := hcw.cells; go_simp; first | done | with_reducible rfl); simp only [List.setIfInBounds_toArray, List.set_cons_zero, List.set_cons_succ])
      (refine rgT (i := 2) (v := ?_) rfl rfl (by kernel_rfl) (by kernel_rfl) (by kernel_rfl) (by rfl) (fun w' hcw => ?_) ?_; rotate_left; ((try dsimp only at hcw); have hbc := hcw.cells; go_simp; first | done | with_reducible rfl); simp only [List.setIfInBounds_toArray, List.set_cons_zero, List.set_cons_succ])
      (refine rgT (i := 4) (v := ?_) rfl rfl (by kernel_rfl) (by kernel_rfl) (by kernel_rfl) (by rfl) (fun w' hcw => ?_) ?_; rotate_left; ((try dsimp only at hcw); have hbc := hcw.cells; go_simp; first | done | with_reducible rfl); simp only [List.setIfInBounds_toArray, List.set_cons_zero, List.set_cons_succ])
      refine rgK_one (i := 1) (by kernel_rfl) rfl rfl (fun u1 hc1 he1 K hK => ?_)
      go_simp
      refine (HCS.out _ hc1).mono ?_
      rintro e v1 ⟨G, qG, cG, rfl, hO, hbS⟩
      refine hK _ _ (bel_trans hc1 hbS) ?_
      clear hK K
      have HOG := Lib.hid (own_base hO hc1.size)
      have HBS := Lib.hid hbS
      clear hO hbS
      refine rgK_one (i := 3) (by kernel_rfl) rfl rfl (fun u3 hc3 he3 K hK => ?_)
      go_simp
      refine (RegionMotions_s W A n c rows _ (HRR.out _ hc3) HL.out).mono ?_
      rintro e v3 ⟨B, q, cq, rfl, hOm, hbR⟩
      have HQ := Lib.hid (by have := own_len hOm; rw [vI_length] at this; omega : (motV W rows).length = q)
      have HRB := Lib.hid (Rd.of_own hOm)
      refine hK _ _ (bel_trans hc3 hbR) ?_
      clear hK K hOm
      refine rgK_one (i := 5) (by kernel_rfl) rfl rfl (fun u5 hc5 he5 K hK => ?_)
      go_simp
      refine (l7Has_s B q cq _ m _ (HRB.out.below he5) HQ.out (by have := HQ.out; omega)).mono ?_
      rw [HAN.out]
      rintro e v5 ⟨rfl, hbH⟩
      refine hK _ _ (bel_trans hc5 hbH) ?_
      clear hK K
      (refine rgT (i := 6) (v := ?_) rfl rfl (by kernel_rfl) (by kernel_rfl) (by kernel_rfl) (by rfl) (fun w' hcw => ?_) ?_; rotate_left; ((try dsimp only at hcw); have hbc := hcw.cells; go_simp; first | done | with_reducible rfl); simp only [List.setIfInBounds_toArray, List.set_cons_zero, List.set_cons_succ])
      (refine rgT (i := 7) (v := ?_) rfl rfl (by kernel_rfl) (by kernel_rfl) (by kernel_rfl) (by rfl) (fun w' hcw => ?_) ?_; rotate_left; ((try dsimp only at hcw); have hbc := hcw.cells; go_simp; first | done | with_reducible rfl); simp only [List.setIfInBounds_toArray, List.set_cons_zero, List.set_cons_succ])
      refine ⟨by kernel_rfl, fun wz hcz hez => NoPanic.normal ?_⟩
      have HOZ := Lib.hid (own_base (own_keep HOG.out (bel_trans he3 (bel_trans hbR (bel_trans he5 (bel_trans hbH hez))))) HB.out.size)
      have HBZ := Lib.hid (bel_trans HB.out hcz)
      clear hcz hez
      go_wp2_with fail
      go_ret2
      exact ⟨G, qG, cG, by rw [HTO.out]; rfl, by rw [HTV.out]; exact HOZ.out, HBZ.out⟩
end Go.Proofs.YtoedmmhiinhljaaDoor

/- The canonical tiling: the reference. -/
namespace Go.Proofs.YtoedmmhiinhljaaDoor
open Go.RowKit
set_option linter.unusedVariables false
attribute [local go_sem ↓] Go.wp_at_zero Go.wp_at_succ

set_option maxHeartbeats 1600000 in
theorem l23Less_s (A B : Option Addr) (n c m d : Nat) (xs ys : List Int) (w : World) (hr : Rd w A (vI xs)) (hl : xs.length = n) (hr2 : Rd w B (vI ys)) (hl2 : ys.length = m) (hn : n ≤ 1099511627776) (hm : m ≤ 1099511627776) :
    Calls Tryd.prog 29 #[.slice A n c, .slice B m d] w (Ret w (.bool (lxI xs ys))) := by
  have HR := Lib.hid hr
  have HL := Lib.hid hl
  have HR2 := Lib.hid hr2
  have HL2 := Lib.hid hl2
  clear hr hl hr2 hl2
  go_enter Tryd.func29, Tryd.ntmps29
  go_wp2_with fail
  go_loopw [5] (fun e5 wr => ∃ k : Nat, k ≤ n ∧ k ≤ m ∧ e5 = .int .i64 k ∧ (∀ j, j < k → xs.getD j 0 = ys.getD j 0) ∧ Below w.heap.size w wr) (fun e5 _ => n - (intOf e5).toNat)
  case atStart => exact ⟨0, Nat.zero_le _, Nat.zero_le _, rfl, (fun j h => by omega), Below.refl _ _⟩
  case round =>
    obtain ⟨k, hk1, hk2, rfl, hsame, hb⟩ := hrel
    have HSM := Lib.hid hsame
    have HB := Lib.hid hb
    clear hsame hb
    by_cases h1 : k < n
    · by_cases h2 : k < m
      · have hi0 : (0 : Int) ≤ (k : Int) := by omega
        have hi1 : (k : Int) < (n : Int) := by omega
        have hi2 : (k : Int) < (m : Int) := by omega
        have k1 : k < xs.length := by rw [HL.out]; exact h1
        have k2 : k < ys.length := by rw [HL2.out]; exact h2
        obtain ⟨g1, o1, hA, gl1, d1⟩ := RdI.at_ (HR.out.below HB.out) k1
        obtain ⟨g2, o2, hB, gl2, d2⟩ := RdI.at_ (HR2.out.below HB.out) k2
        have e1 : xs.getD k 0 = xs[k] := by rw [List.getD_eq_getElem?_getD, List.getElem?_eq_getElem k1]; rfl
        have e2 : ys.getD k 0 = ys[k] := by rw [List.getD_eq_getElem?_getD, List.getElem?_eq_getElem k2]; rfl
        have hdf := fun h => lxI_diff k1 k2 HSM.out h
        obtain ⟨x, hx⟩ : ∃ x, xs[k] = x := ⟨_, rfl⟩
        obtain ⟨y, hy⟩ : ∃ y, ys[k] = y := ⟨_, rfl⟩
        rw [hx] at d1 e1
        rw [hy] at d2 e2
        rw [e1, e2] at hdf
        subst hA
        subst hB
        by_cases hxy : x = y
        · have HS2 : Hid (∀ j, j < k + 1 → xs.getD j 0 = ys.getD j 0) := fun j hj => by
            by_cases hjk : j = k
            · rw [hjk, e1, e2, hxy]
            · exact HSM.out j (by omega)
          have hne : (x != y) = false := by simp [hxy]
          clear hx hy e1 e2 hdf k1 k2 hxy
          go_wp2_with fail
          (refine wp_region_below (by kernel_rfl) (by kernel_rfl) ?_; (repeat (first | go_big_quiet_skip | (refine quietV (v := ?_) (by rfl) rfl (fun w' hbw => ?_) ?_; rotate_left; ((try dsimp only at hbw); have hbc := (bcell hbw).1; have hbf := (bcell hbw).2; go_simp; first | done | with_reducible rfl | fail); simp only [List.setIfInBounds_toArray, List.set_cons_zero, List.set_cons_succ]))); refine wpQuiet_nil ?_; intro wq hbq)
          have HBQ := Lib.hid (bel_trans HB.out hbq)
          clear hbq
          go_wp2_with fail
          exact ⟨⟨k + 1, by omega, by omega, by go_num, HS2.out, HBQ.out⟩, by simp [intOf]; omega⟩
        · have HV : Hid (lxI xs ys = decide (x < y)) := hdf hxy
          have hne : (x != y) = true := by simp [hxy]
          clear hx hy e1 e2 hdf k1 k2 hxy
          go_wp2_with fail
          (refine wp_region_below (by kernel_rfl) (by kernel_rfl) ?_; (repeat (first | go_big_quiet_skip | (refine quietV (v := ?_) (by rfl) rfl (fun w' hbw => ?_) ?_; rotate_left; ((try dsimp only at hbw); have hbc := (bcell hbw).1; have hbf := (bcell hbw).2; go_simp; first | done | with_reducible rfl | fail); simp only [List.setIfInBounds_toArray, List.set_cons_zero, List.set_cons_succ]))); refine wpQuiet_nil ?_; intro wq hbq)
          have HBQ := Lib.hid (bel_trans HB.out hbq)
          have c1 := keep_below hbq d1
          have c2 := keep_below hbq d2
          have l1 := World.block_lt_of_cell? _ _ c1
          have l2 := World.block_lt_of_cell? _ _ c2
          clear hbq d1 d2
          go_wp2_with fail
          (refine wp_region_below (by kernel_rfl) (by kernel_rfl) ?_; (repeat (first | go_big_quiet_skip | (refine quietV (v := ?_) (by rfl) rfl (fun w' hbw => ?_) ?_; rotate_left; ((try dsimp only at hbw); have hbc := (bcell hbw).1; have hbf := (bcell hbw).2; go_simp; first | done | with_reducible rfl | fail); simp only [List.setIfInBounds_toArray, List.set_cons_zero, List.set_cons_succ]))); refine wpQuiet_nil ?_; intro wp hbp)
          go_wp2_with fail
          go_ret
          exact ⟨by rw [HV.out]; rfl, bel_trans HBQ.out hbp⟩
      · have hi1 : (k : Int) < (n : Int) := by omega
        have hi2 : ¬ (k : Int) < (m : Int) := by omega
        have HV : Hid (lxI xs ys = decide ((n : Int) < (m : Int))) := by
          show _ = _
          rw [lxI_end (by rw [HL.out]; exact hk1) (by rw [HL2.out]; exact hk2) HSM.out (.inr (by rw [HL2.out]; omega)), HL.out, HL2.out]
          simp
        clear h1 h2
        go_wp2_with fail
        go_ret
        exact ⟨by rw [HV.out]; (first | rfl | simp), HB.out⟩
    · have hi1 : ¬ (k : Int) < (n : Int) := by omega
      have HV : Hid (lxI xs ys = decide ((n : Int) < (m : Int))) := by
        show _ = _
        rw [lxI_end (by rw [HL.out]; exact hk1) (by rw [HL2.out]; exact hk2) HSM.out (.inl (by rw [HL.out]; omega)), HL.out, HL2.out]
        simp
      clear h1
      go_wp2_with fail
      go_ret
      exact ⟨by rw [HV.out]; (first | rfl | simp), HB.out⟩
set_option maxRecDepth 100000 in
set_option maxHeartbeats 6400000 in
theorem CanonicalTiling_s (W : Int) (A : Option Addr) (n c : Nat) (D : Option Addr) (k cd : Nat) (rows l : List Int) (w : World) (hr : Rd w A (vI rows)) (hl : rows.length = n) (hrI : Rd w D (vI l)) (hlI : l.length = k) (hx : ∀ x ∈ l, x < 9223372036854775808) (hk : k ≤ 1048576) :
    Calls Tryd.prog 15 #[.agg #[.int .i64 W, .slice A n c], .slice D k cd] w (RetS2 w 3 1 (vI (canV W rows l)) (.bool (canOk W rows l))) := by
  have HL := Lib.hid hl
  have HR := Lib.hid hr
  have HRI := Lib.hid hrI
  have HLI := Lib.hid hlI
  have HX := Lib.hid hx
  have hml := motV_len W rows
  obtain ⟨M, hM⟩ : ∃ M, motV W rows = M := ⟨_, rfl⟩
  have hMm : ∀ m ∈ M, ttOk W rows l m = l.all (okMask W rows) := fun m h => ttOk_mem (by rw [hM]; exact h)
  have hTl : ∀ m, (ttV W rows l m).length ≤ k := fun m => by have := ttV_len W rows l m; omega
  have hTl := Lib.hid hTl
  have HB0 := Lib.hid ((Blk.new w 28 #[.int .i64 W, .slice A n c]).alloc (.cells #[] 3))
  have ho0 := own_blk (cs := #[]) (Blk.new (w.alloc (.cells #[.int .i64 W, .slice A n c] 28)) 3 #[]) (base := w.heap.size) (size := 1) (n := 0) rfl (by simp) (Nat.zero_le _)
  rw [World.size_alloc] at ho0
  have HO0 := Lib.hid ho0
  have hbe0 := bel_alloc (bel_alloc (Below.refl w.heap.size w) (.cells #[.int .i64 W, .slice A n c] 28)) (.cells #[] 3)
  have HBE0 := Lib.hid hbe0
  have HR0 := Lib.hid (hr.below hbe0)
  clear hr hl hrI hlI hx ho0 hbe0
  obtain ⟨ok, hok⟩ : ∃ ok, l.all (okMask W rows) = ok := ⟨_, rfl⟩
  have HOK := Lib.hid hok
  rw [hok] at hMm
  cases ok with
  | false =>
    have HMM := Lib.hid hMm
    have HMV := Lib.hid hM
    have HV : Hid (canV W rows l = []) := by show _ = _; unfold canV; rw [hok]; rfl
    have HO : Hid (canOk W rows l = false) := by show _ = _; unfold canOk; rw [hok]; rfl
    clear hok hMm hM
    go_enter Tryd.func15, Tryd.ntmps15
    go_wp2_with fail
    refine (RegionMotions_s W A n c rows _ HR0.out HL.out).mono ?_
    rw [HMV.out]
    rintro e w1 ⟨G, q, cq, rfl, hoG, hb1⟩
    have HQ := Lib.hid (by have := own_len hoG; rw [vI_length] at this; omega : M.length = q)
    have hq8 : q ≤ 8 := by have h1 := HQ.out; have h2 := HMV.out; rw [h2] at hml; omega
    have HRG := Lib.hid (Rd.of_own hoG)
    have HBX := Lib.hid (HB0.out.below hb1)
    have HB1 := Lib.hid (bel_trans HBE0.out hb1)
    have HO1 := Lib.hid (own_keep HO0.out hb1)
    clear hoG hb1
    go_wp2_with fail
    go_loopw [9, 6, 7] (fun e9 e6 e7 wr => e9 = .int .i64 0 ∧ e6 = .slice (some ⟨w.heap.size + 1, 0, none⟩) 0 0 ∧ e7 = .bool false ∧ wr = w1) (fun _ _ _ _ => 0)
    case atStart => exact ⟨rfl, by simp, rfl, rfl⟩
    case round =>
      obtain ⟨rfl, rfl, rfl, rfl⟩ := hrel
      have b0 : wr.cell? ⟨w.heap.size, 0, none⟩ = some (.int .i64 W) := by simpa using HBX.out.cell 0
      have b1 : wr.cell? ⟨w.heap.size, 1, none⟩ = some (.slice A n c) := by simpa using HBX.out.cell 1
      have bl := HBX.out.lt
      by_cases h0 : 0 < q
      · have hi1 : (0 : Int) < (q : Int) := by omega
        have hil : 0 < M.length := by rw [HQ.out]; exact h0
        obtain ⟨gg, off, hA, hgg, d1⟩ := RdI.at_ HRG.out hil
        obtain ⟨m, hm⟩ : ∃ m, M[0] = m := ⟨_, rfl⟩
        have hmm := HMM.out m (by rw [← hm]; exact List.getElem_mem hil)
        rw [hm, Nat.add_zero] at d1
        have HTO := Lib.hid hmm
        clear hm hmm hil
        subst hA
        go_wp2_with fail
        refine wp_region_rg 12 rfl (by kernel_rfl) ?_
        (refine rgT (i := 0) (v := ?_) rfl rfl (by kernel_rfl) (by kernel_rfl) (by kernel_rfl) (by rfl) (fun w' hcw => ?_) ?_; rotate_left; ((try dsimp only at hcw); have hbc := hcw.cells; go_simp; first | done | with_reducible rfl); simp only [List.setIfInBounds_toArray, List.set_cons_zero, List.set_cons_succ])
        (refine rgT (i := 1) (v := ?_) rfl rfl (by kernel_rfl) (by kernel_rfl) (by kernel_rfl) (by rfl) (fun w' hcw => ?_) ?_; rotate_left; ((try dsimp only at hcw); have hbc := hcw.cells; go_simp; first | done | with_reducible rfl); simp only [List.setIfInBounds_toArray, List.set_cons_zero, List.set_cons_succ])
        (refine rgT (i := 2) (v := ?_) rfl rfl (by kernel_rfl) (by kernel_rfl) (by kernel_rfl) (by rfl) (fun w' hcw => ?_) ?_; rotate_left; ((try dsimp only at hcw); have hbc := hcw.cells; go_simp; first | done | with_reducible rfl); simp only [List.setIfInBounds_toArray, List.set_cons_zero, List.set_cons_succ])
        (refine rgT (i := 3) (v := ?_) rfl rfl (by kernel_rfl) (by kernel_rfl) (by kernel_rfl) (by rfl) (fun w' hcw => ?_) ?_; rotate_left; ((try dsimp only at hcw); have hbc := hcw.cells; go_simp; first | done | with_reducible rfl); simp only [List.setIfInBounds_toArray, List.set_cons_zero, List.set_cons_succ])
        (refine rgT (i := 4) (v := ?_) rfl rfl (by kernel_rfl) (by kernel_rfl) (by kernel_rfl) (by rfl) (fun w' hcw => ?_) ?_; rotate_left; ((try dsimp only at hcw); have hbc := hcw.cells; go_simp; first | done | with_reducible rfl); simp only [List.setIfInBounds_toArray, List.set_cons_zero, List.set_cons_succ])
        (refine rgT (i := 5) (v := ?_) rfl rfl (by kernel_rfl) (by kernel_rfl) (by kernel_rfl) (by rfl) (fun w' hcw => ?_) ?_; rotate_left; ((try dsimp only at hcw); have hbc := hcw.cells; go_simp; first | done | with_reducible rfl); simp only [List.setIfInBounds_toArray, List.set_cons_zero, List.set_cons_succ])
        refine rgK_one (i := 6) (by kernel_rfl) rfl rfl (fun u1 hc1 he1 K hK => ?_)
        go_simp
        refine (TurnTiling_s W A n c D k cd rows l m _ ((HR.out.below HB1.out).below hc1) HL.out ((HRI.out.below HB1.out).below hc1) HLI.out HX.out hk).mono ?_
        rw [HTO.out]
        rintro e v1 ⟨X, qx, cx, rfl, hoX, hbX⟩
        refine hK _ _ (bel_trans hc1 hbX) ?_
        clear hK K hoX
        (refine rgT (i := 7) (v := ?_) rfl rfl (by kernel_rfl) (by kernel_rfl) (by kernel_rfl) (by rfl) (fun w' hcw => ?_) ?_; rotate_left; ((try dsimp only at hcw); have hbc := hcw.cells; go_simp; first | done | with_reducible rfl); simp only [List.setIfInBounds_toArray, List.set_cons_zero, List.set_cons_succ])
        (refine rgT (i := 8) (v := ?_) rfl rfl (by kernel_rfl) (by kernel_rfl) (by kernel_rfl) (by rfl) (fun w' hcw => ?_) ?_; rotate_left; ((try dsimp only at hcw); have hbc := hcw.cells; go_simp; first | done | with_reducible rfl); simp only [List.setIfInBounds_toArray, List.set_cons_zero, List.set_cons_succ])
        (refine rgT (i := 9) (v := ?_) rfl rfl (by kernel_rfl) (by kernel_rfl) (by kernel_rfl) (by rfl) (fun w' hcw => ?_) ?_; rotate_left; ((try dsimp only at hcw); have hbc := hcw.cells; go_simp; first | done | with_reducible rfl); simp only [List.setIfInBounds_toArray, List.set_cons_zero, List.set_cons_succ])
        (refine rgT (i := 10) (v := ?_) rfl rfl (by kernel_rfl) (by kernel_rfl) (by kernel_rfl) (by rfl) (fun w' hcw => ?_) ?_; rotate_left; ((try dsimp only at hcw); have hbc := hcw.cells; go_simp; first | done | with_reducible rfl); simp only [List.setIfInBounds_toArray, List.set_cons_zero, List.set_cons_succ])
        (refine rgT (i := 11) (v := ?_) rfl rfl (by kernel_rfl) (by kernel_rfl) (by kernel_rfl) (by rfl) (fun w' hcw => ?_) ?_; rotate_left; ((try dsimp only at hcw); have hbc := hcw.cells; go_simp; first | done | with_reducible rfl); simp only [List.setIfInBounds_toArray, List.set_cons_zero, List.set_cons_succ])
        refine ⟨by kernel_rfl, fun wz hcz hez => NoPanic.normal ?_⟩
        have hbz := bel_trans HB1.out hcz
        have HBZ := Lib.hid (bel_alloc hbz (.cells #[] 3))
        have HOZ := Lib.hid (own_blk (cs := #[]) (Blk.new wz 3 #[]) (base := w.heap.size) (size := 1) (n := 0) rfl hbz.size (Nat.zero_le _))
        clear hbz hcz hez
        go_wp2_with fail
        go_ret2
        exact ⟨_, _, _, by rw [HO.out]; rfl, by rw [HV.out]; exact HOZ.out, HBZ.out⟩
      · have hi1 : ¬ (0 : Int) < (q : Int) := by omega
        go_wp2_with fail
        go_ret2
        exact ⟨_, _, _, by rw [HO.out]; rfl, by rw [HV.out]; exact HO1.out, HB1.out⟩
  | true =>
    obtain ⟨T, hT0⟩ : ∃ T, M.map (ttV W rows l) = T := ⟨_, rfl⟩
    have HV : Hid (canV W rows l = (canL T).getD []) := by show _ = _; unfold canV; rw [HOK.out, hM, hT0]; rfl
    have HO : Hid (canOk W rows l = decide (M ≠ [])) := by show _ = _; unfold canOk; rw [HOK.out, hM]; rfl
    have HTM : Hid (T.length = M.length) := by show _ = _; rw [← hT0, List.length_map]
    have HTA : Hid (∀ i (h : i < T.length) (h2 : i < M.length), T[i] = ttV W rows l M[i]) := fun i h h2 => by subst hT0; simp
    have HMM := Lib.hid hMm
    have HMV := Lib.hid hM
    clear hok hMm hM hT0
    go_enter Tryd.func15, Tryd.ntmps15
    go_wp2_with fail
    refine (RegionMotions_s W A n c rows _ HR0.out HL.out).mono ?_
    rw [HMV.out]
    rintro e w1 ⟨G, q, cq, rfl, hoG, hb1⟩
    have HQ := Lib.hid (by have := own_len hoG; rw [vI_length] at this; omega : M.length = q)
    have hq8 : q ≤ 8 := by have h1 := HQ.out; have h2 := HMV.out; rw [h2] at hml; omega
    have HRG := Lib.hid (Rd.of_own hoG)
    have HBX := Lib.hid (HB0.out.below hb1)
    have HB1 := Lib.hid (bel_trans HBE0.out hb1)
    have HO1 := Lib.hid (own_keep HO0.out hb1)
    clear hoG hb1
    go_wp2_with fail
    go_loopw [9, 6, 7] (fun e9 e6 e7 wr => ∃ (i : Nat) (Z : Option Addr) (z cz : Nat), i ≤ q ∧ e9 = .int .i64 i ∧ e6 = .slice Z z cz ∧ e7 = .bool (canL (T.take i)).isSome ∧ wr.ownsRow w.heap.size 3 1 (.slice Z z cz) z (vI ((canL (T.take i)).getD [])) ∧ z ≤ k ∧ Below w1.heap.size w1 wr) (fun e9 _ _ _ => q - (intOf e9).toNat)
    case atStart => exact ⟨0, some ⟨w.heap.size + 1, 0, none⟩, 0, 0, Nat.zero_le _, rfl, by simp, rfl, HO1.out, Nat.zero_le _, Below.refl _ _⟩
    case round =>
      obtain ⟨i, Z, z, cz, hiq, rfl, rfl, rfl, hown, hzk, hb⟩ := hrel
      have HOW := Lib.hid hown
      have HB := Lib.hid hb
      have hbx := HBX.out.below hb
      have b0 : wr.cell? ⟨w.heap.size, 0, none⟩ = some (.int .i64 W) := by simpa using hbx.cell 0
      have b1 : wr.cell? ⟨w.heap.size, 1, none⟩ = some (.slice A n c) := by simpa using hbx.cell 1
      have bl := hbx.lt
      clear hown hb hbx
      by_cases hlt : i < q
      · have hi0 : (0 : Int) ≤ (i : Int) := by omega
        have hi1 : (i : Int) < (q : Int) := by omega
        have hil : i < M.length := by rw [HQ.out]; exact hlt
        have hit : i < T.length := by rw [HTM.out]; exact hil
        obtain ⟨gg, off, hA, hgg, d1⟩ := RdI.at_ (HRG.out.below HB.out) hil
        have hta := HTA.out i hit hil
        have htk := canL_take hit
        obtain ⟨m, hm⟩ : ∃ m, M[i] = m := ⟨_, rfl⟩
        have hmm := HMM.out m (by rw [← hm]; exact List.getElem_mem hil)
        rw [hm] at d1 hta
        rw [hta] at htk
        obtain ⟨t, ht⟩ : ∃ t, ttV W rows l m = t := ⟨_, rfl⟩
        rw [ht] at htk
        have HTV := Lib.hid ht
        have HTO := Lib.hid hmm
        have HTK := Lib.hid htk
        clear hm hmm hil hit hta htk ht
        subst hA
        go_wp2_with fail
        refine wp_region_rg 12 rfl (by kernel_rfl) ?_
        (refine rgT (i := 0) (v := ?_) rfl rfl (by kernel_rfl) (by kernel_rfl) (by kernel_rfl) (by rfl) (fun w' hcw => ?_) ?_; rotate_left; ((try dsimp only at hcw); have hbc := hcw.cells; go_simp; first | done | with_reducible rfl); simp only [List.setIfInBounds_toArray, List.set_cons_zero, List.set_cons_succ])
        (refine rgT (i := 1) (v := ?_) rfl rfl (by kernel_rfl) (by kernel_rfl) (by kernel_rfl) (by rfl) (fun w' hcw => ?_) ?_; rotate_left; ((try dsimp only at hcw); have hbc := hcw.cells; go_simp; first | done | with_reducible rfl); simp only [List.setIfInBounds_toArray, List.set_cons_zero, List.set_cons_succ])
        (refine rgT (i := 2) (v := ?_) rfl rfl (by kernel_rfl) (by kernel_rfl) (by kernel_rfl) (by rfl) (fun w' hcw => ?_) ?_; rotate_left; ((try dsimp only at hcw); have hbc := hcw.cells; go_simp; first | done | with_reducible rfl); simp only [List.setIfInBounds_toArray, List.set_cons_zero, List.set_cons_succ])
        (refine rgT (i := 3) (v := ?_) rfl rfl (by kernel_rfl) (by kernel_rfl) (by kernel_rfl) (by rfl) (fun w' hcw => ?_) ?_; rotate_left; ((try dsimp only at hcw); have hbc := hcw.cells; go_simp; first | done | with_reducible rfl); simp only [List.setIfInBounds_toArray, List.set_cons_zero, List.set_cons_succ])
        (refine rgT (i := 4) (v := ?_) rfl rfl (by kernel_rfl) (by kernel_rfl) (by kernel_rfl) (by rfl) (fun w' hcw => ?_) ?_; rotate_left; ((try dsimp only at hcw); have hbc := hcw.cells; go_simp; first | done | with_reducible rfl); simp only [List.setIfInBounds_toArray, List.set_cons_zero, List.set_cons_succ])
        (refine rgT (i := 5) (v := ?_) rfl rfl (by kernel_rfl) (by kernel_rfl) (by kernel_rfl) (by rfl) (fun w' hcw => ?_) ?_; rotate_left; ((try dsimp only at hcw); have hbc := hcw.cells; go_simp; first | done | with_reducible rfl); simp only [List.setIfInBounds_toArray, List.set_cons_zero, List.set_cons_succ])
        refine rgK_one (i := 6) (by kernel_rfl) rfl rfl (fun u1 hc1 he1 K hK => ?_)
        go_simp
        refine (TurnTiling_s W A n c D k cd rows l m _ (((HR.out.below HB1.out).below HB.out).below hc1) HL.out (((HRI.out.below HB1.out).below HB.out).below hc1) HLI.out HX.out hk).mono ?_
        rw [HTO.out, HTV.out]
        rintro e v1 ⟨X, qx, cx, rfl, hoX, hbX⟩
        refine hK _ _ (bel_trans hc1 hbX) ?_
        clear hK K
        (refine rgT (i := 7) (v := ?_) rfl rfl (by kernel_rfl) (by kernel_rfl) (by kernel_rfl) (by rfl) (fun w' hcw => ?_) ?_; rotate_left; ((try dsimp only at hcw); have hbc := hcw.cells; go_simp; first | done | with_reducible rfl); simp only [List.setIfInBounds_toArray, List.set_cons_zero, List.set_cons_succ])
        (refine rgT (i := 8) (v := ?_) rfl rfl (by kernel_rfl) (by kernel_rfl) (by kernel_rfl) (by rfl) (fun w' hcw => ?_) ?_; rotate_left; ((try dsimp only at hcw); have hbc := hcw.cells; go_simp; first | done | with_reducible rfl); simp only [List.setIfInBounds_toArray, List.set_cons_zero, List.set_cons_succ])
        (refine rgT (i := 9) (v := ?_) rfl rfl (by kernel_rfl) (by kernel_rfl) (by kernel_rfl) (by rfl) (fun w' hcw => ?_) ?_; rotate_left; ((try dsimp only at hcw); have hbc := hcw.cells; go_simp; first | done | with_reducible rfl); simp only [List.setIfInBounds_toArray, List.set_cons_zero, List.set_cons_succ])
        (refine rgT (i := 10) (v := ?_) rfl rfl (by kernel_rfl) (by kernel_rfl) (by kernel_rfl) (by rfl) (fun w' hcw => ?_) ?_; rotate_left; ((try dsimp only at hcw); have hbc := hcw.cells; go_simp; first | done | with_reducible rfl); simp only [List.setIfInBounds_toArray, List.set_cons_zero, List.set_cons_succ])
        (refine rgT (i := 11) (v := ?_) rfl rfl (by kernel_rfl) (by kernel_rfl) (by kernel_rfl) (by rfl) (fun w' hcw => ?_) ?_; rotate_left; ((try dsimp only at hcw); have hbc := hcw.cells; go_simp; first | done | with_reducible rfl); simp only [List.setIfInBounds_toArray, List.set_cons_zero, List.set_cons_succ])
        refine ⟨by kernel_rfl, fun wz hcz hez => NoPanic.normal ?_⟩
        have htq : t.length = qx := by have := own_len hoX; rw [vI_length] at this; omega
        have hqk : qx ≤ k := by have := hTl.out m; rw [HTV.out] at this; omega
        have HTQ := Lib.hid htq
        have HOX := Lib.hid (own_base (own_keep hoX hez) (by have h1 := hc1.size; have h2 := HB.out.size; have h3 := HB1.out.size; omega : w.heap.size ≤ _))
        have HBZ := Lib.hid (bel_trans HB.out hcz)
        have HOW2 := Lib.hid (own_keep HOW.out hcz)
        clear hcz hez hc1 he1 hoX hbX htq d1 b0 b1 bl
        cases hcl : canL (T.take i) with
        | none =>
          have HN : Hid (canL (T.take (i + 1)) = some t) := by show _ = _; rw [HTK.out, hcl]; rfl
          rw [show (none : Option (List Int)).isSome = false from rfl]
          clear hcl
          go_wp2_with fail
          exact ⟨⟨i + 1, X, qx, cx, by omega, by go_num, rfl, by rw [HN.out]; rfl, by rw [HN.out]; exact HOX.out, hqk, HBZ.out⟩, by simp [intOf]; omega⟩
        | some b =>
          have hbz : b.length = z := by have h := HOW.out; rw [hcl] at h; have h2 := own_len h; rw [vI_length] at h2; simp only [Option.getD_some, Nat.mul_one] at h2; exact h2
          have hrb := Rd.of_own HOW2.out
          rw [hcl] at hrb
          have HBL := Lib.hid hbz
          have HRB : Hid (Rd wz Z (vI b)) := hrb
          have HLX := Lib.hid (l23Less_s X Z qx cx z cz t b wz (Rd.of_own HOX.out) HTQ.out HRB.out HBL.out (by omega) (by omega))
          have HN : Hid (canL (T.take (i + 1)) = some (if lxI t b then t else b)) := by show _ = _; rw [HTK.out, hcl]; rfl
          have HCL := Lib.hid hcl
          rw [show (some b : Option (List Int)).isSome = true from rfl]
          clear hcl hbz hrb
          cases hlx : lxI t b with
          | true =>
            rw [hlx] at HLX HN
            have HN2 : Hid (canL (T.take (i + 1)) = some t) := HN.out
            clear HN
            go_wp2_with fail
            refine HLX.out.mono ?_
            rintro e w7 ⟨rfl, hb7⟩
            go_wp2_with fail
            exact ⟨⟨i + 1, X, qx, cx, by omega, by go_num, rfl, by rw [HN2.out]; rfl, by rw [HN2.out]; exact own_keep HOX.out hb7, hqk, bel_trans HBZ.out hb7⟩, by simp [intOf]; omega⟩
          | false =>
            rw [hlx] at HLX HN
            have HN2 : Hid (canL (T.take (i + 1)) = some b) := HN.out
            have HOB : Hid (wz.ownsRow w.heap.size 3 1 (.slice Z z cz) z (vI b)) := by have h := HOW2.out; rw [HCL.out] at h; exact h
            clear HN
            go_wp2_with fail
            refine HLX.out.mono ?_
            rintro e w7 ⟨rfl, hb7⟩
            go_wp2_with fail
            exact ⟨⟨i + 1, Z, z, cz, by omega, by go_num, rfl, by rw [HN2.out]; rfl, by rw [HN2.out]; exact own_keep HOB.out hb7, hzk, bel_trans HBZ.out hb7⟩, by simp [intOf]; omega⟩
      · obtain rfl : i = q := by omega
        have hi1 : ¬ (i : Int) < (i : Int) := by omega
        have HTL : Hid (T.take i = T) := List.take_of_length_le (by rw [HTM.out, HQ.out]; exact Nat.le_refl _)
        have hown := HOW.out
        have hfo : (canL (T.take i)).isSome = decide (M ≠ []) := by
          by_cases h0 : i = 0
          · rw [h0, decide_eq_false (by intro h; exact h (List.eq_nil_of_length_eq_zero (by rw [HQ.out, h0])))]; rfl
          · obtain ⟨j, hj⟩ : ∃ j, i = j + 1 := ⟨i - 1, by omega⟩
            rw [hj, canL_some (by rw [HTM.out, HQ.out]; omega), decide_eq_true (by intro h; rw [h] at HQ; have h3 := HQ.out; simp at h3; omega)]
        rw [HTL.out] at hown
        have HOWE := Lib.hid hown
        have HFO := Lib.hid hfo
        clear hown hfo
        go_wp2_with fail
        go_ret2
        exact ⟨_, _, _, by rw [HO.out, ← HFO.out]; rfl, by rw [HV.out]; exact HOWE.out, bel_trans HB1.out HB.out⟩
end Go.Proofs.YtoedmmhiinhljaaDoor

/- The library's exchange of two ranges, and its rotation. -/
namespace Go.Proofs.YtoedmmhiinhljaaDoor
open Go.RowKit Go.Shelf
set_option linter.unusedVariables false
attribute [local go_sem ↓] Go.wp_at_zero Go.wp_at_succ

set_option maxHeartbeats 3200000 in
theorem swrT (sf : Nat) (th : Value) (base g n c B : Nat) (hsw : SwT sf th base g n c B) (a b m : Nat) (d0 : Nat → Int) (w : World) (h : SS w base g n c B d0) (ha : a + m ≤ b) (hb : b + m ≤ n) (hn : n ≤ 1099511627776) :
    Calls Tryd.prog 62 #[.agg #[.func (.func 27) #[] #[.pointer (some ⟨B, 0, none⟩)], .func (.func sf) #[] #[.slice (some ⟨g, 0, none⟩) n c, th]], .int .i64 (a : Int), .int .i64 (b : Int), .int .i64 (m : Int)] w (StP w base g n c B fun d' => d' = StM.sw d0 a b m) := by
  have hgl := h.lt.2
  have HS := Lib.hid h
  have HSW := Lib.hid hsw
  have HBB := Lib.hid (Blk.new w 64 #[.func (.func 27) #[] #[.pointer (some ⟨B, 0, none⟩)], .func (.func sf) #[] #[.slice (some ⟨g, 0, none⟩) n c, th]])
  clear hsw h
  go_enter Tryd.func62, Tryd.ntmps62
  go_wp2
  go_loopw [8] (fun e6 wr => ∃ (i : Nat), i ≤ m ∧ e6 = .int .i64 i ∧ SS wr base g n c B (StM.sw d0 a b i) ∧ (w.alloc (.cells #[.func (.func 27) #[] #[.pointer (some ⟨B, 0, none⟩)], .func (.func sf) #[] #[.slice (some ⟨g, 0, none⟩) n c, th]] 64)).grownBy wr (some g)) (fun e6 _ => m - (intOf e6).toNat)
  case atStart => exact ⟨0, Nat.zero_le _, rfl, by rw [StM.sw_zero]; exact HS.out.keep (by (repeat (first | with_reducible exact Below.refl _ _ | with_reducible assumption | with_reducible apply bel_alloc | with_reducible apply bel_drew | with_reducible apply bel_drewN | ((with_reducible refine bel_set ?_ ?_); rotate_left; (simp <;> omega)) | (with_reducible refine bel_trans ?_ (by with_reducible assumption))))), World.grownBy.refl _ _⟩
  case round =>
    obtain ⟨i, him, rfl, hown, hg⟩ := hrel
    have HOW := Lib.hid hown
    have HG := Lib.hid hg
    have hBB := HBB.out.grown HG.out (fun e => by injection e with e; omega)
    have b1 : wr.cell? ⟨w.heap.size, 1, none⟩ = some (.func (.func sf) #[] #[.slice (some ⟨g, 0, none⟩) n c, th]) := by simpa using hBB.cell 1
    have bl := hBB.lt
    clear hown hg hBB
    by_cases hlt : i < m
    · have hiI : (i : Int) < (m : Int) := by omega
      obtain ⟨x, hx⟩ : ∃ x, a + i = x := ⟨_, rfl⟩
      obtain ⟨y, hy⟩ : ∃ y, b + i = y := ⟨_, rfl⟩
      have hxI : (a : Int) + (i : Int) = (x : Int) := by omega
      have hyI : (b : Int) + (i : Int) = (y : Int) := by omega
      have hxw : IntKind.i64.wrap (x : Int) = (x : Int) := Go.IntWalk.i64_in _ (by omega)
      have hyw : IntKind.i64.wrap (y : Int) = (y : Int) := Go.IntWalk.i64_in _ (by omega)
      obtain ⟨w2, hrun, ho2, hg2⟩ := HSW.out wr _ x y HOW.out (by omega) (by omega)
      have HO2 : Hid (SS w2 base g n c B (StM.sw d0 a b (i + 1))) := by
        rw [← StM.sw2_sw d0 a b i (by omega), hx, hy]
        exact ho2
      have HG2 := Lib.hid (hg2 _ HG.out)
      clear ho2 hg2 hx hy
      go_wp2_with fail
      exact ⟨⟨i + 1, by omega, by go_num, HO2.out, HG2.out⟩, by simp [intOf]; omega⟩
    · obtain rfl : i = m := by omega
      have hiI : ¬ (i : Int) < (i : Int) := by omega
      go_wp2_with fail
      go_end0
      exact ⟨rfl, _, HOW.out, grown_allocT HG.out, rfl⟩
set_option maxHeartbeats 3200000 in
theorem rotT (sf : Nat) (th : Value) (base g n c B : Nat) (hsw : SwT sf th base g n c B) (a m b : Nat) (d0 : Nat → Int) (w : World) (h : SS w base g n c B d0) (ha : a < m) (hm : m < b) (hb : b ≤ n) (hn : n ≤ 1099511627776) :
    Calls Tryd.prog 61 #[.agg #[.func (.func 27) #[] #[.pointer (some ⟨B, 0, none⟩)], .func (.func sf) #[] #[.slice (some ⟨g, 0, none⟩) n c, th]], .int .i64 (a : Int), .int .i64 (m : Int), .int .i64 (b : Int)] w (StP w base g n c B fun d' => d' = StM.rot d0 a m b) := by
  have hgl := h.lt.2
  have HS := Lib.hid h
  have HSW := Lib.hid hsw
  have HBB := Lib.hid (Blk.new w 64 #[.func (.func 27) #[] #[.pointer (some ⟨B, 0, none⟩)], .func (.func sf) #[] #[.slice (some ⟨g, 0, none⟩) n c, th]])
  obtain ⟨i0, hi0⟩ : ∃ i0, m - a = i0 := ⟨_, rfl⟩
  obtain ⟨j0, hj0⟩ : ∃ j0, b - m = j0 := ⟨_, rfl⟩
  have hiI : (m : Int) - (a : Int) = (i0 : Int) := by omega
  have hjI : (b : Int) - (m : Int) = (j0 : Int) := by omega
  have hiw : IntKind.i64.wrap (i0 : Int) = (i0 : Int) := Go.IntWalk.i64_in _ (by omega)
  have hjw : IntKind.i64.wrap (j0 : Int) = (j0 : Int) := Go.IntWalk.i64_in _ (by omega)
  have HI := Lib.hid hi0
  have HJ := Lib.hid hj0
  clear hsw h hi0 hj0
  go_enter Tryd.func61, Tryd.ntmps61
  go_wp2_with fail
  go_loopw [8, 9] (fun e6 e7 wr => ∃ (i j : Nat) (d : Nat → Int), 0 < i ∧ 0 < j ∧ i ≤ m - a ∧ j ≤ b - m ∧ e6 = .int .i64 i ∧ e7 = .int .i64 j ∧ StM.rot d (m - i) m (m + j) = StM.rot d0 a m b ∧ SS wr base g n c B d ∧ (w.alloc (.cells #[.func (.func 27) #[] #[.pointer (some ⟨B, 0, none⟩)], .func (.func sf) #[] #[.slice (some ⟨g, 0, none⟩) n c, th]] 64)).grownBy wr (some g)) (fun e6 e7 _ => (intOf e6).toNat + (intOf e7).toNat)
  case atStart => exact ⟨i0, j0, d0, by have := HI.out; omega, by have := HJ.out; omega, by have := HI.out; omega, by have := HJ.out; omega, rfl, rfl, by rw [show m - i0 = a by have := HI.out; omega, show m + j0 = b by have := HJ.out; omega], HS.out.keep (by (repeat (first | with_reducible exact Below.refl _ _ | with_reducible assumption | with_reducible apply bel_alloc | with_reducible apply bel_drew | with_reducible apply bel_drewN | ((with_reducible refine bel_set ?_ ?_); rotate_left; (simp <;> omega)) | (with_reducible refine bel_trans ?_ (by with_reducible assumption))))), World.grownBy.refl _ _⟩
  case round =>
    clear hiI hjI hiw hjw HI HJ
    obtain ⟨i, j, d, hi, hj, hia, hjb, rfl, rfl, hrot, hown, hg⟩ := hrel
    have HR := Lib.hid hrot
    have HOW := Lib.hid hown
    have HG := Lib.hid hg
    have hBB := HBB.out.grown HG.out (fun e => by injection e with e; omega)
    have b0 : wr.cell? ⟨w.heap.size, 0, none⟩ = some (.func (.func 27) #[] #[.pointer (some ⟨B, 0, none⟩)]) := by simpa using hBB.cell 0
    have b1 : wr.cell? ⟨w.heap.size, 1, none⟩ = some (.func (.func sf) #[] #[.slice (some ⟨g, 0, none⟩) n c, th]) := by simpa using hBB.cell 1
    have bl := hBB.lt
    clear hown hg hBB hrot
    obtain ⟨p, hp⟩ : ∃ p, m - i = p := ⟨_, rfl⟩
    have hpI : (m : Int) - (i : Int) = (p : Int) := by omega
    have hpw : IntKind.i64.wrap (p : Int) = (p : Int) := Go.IntWalk.i64_in _ (by omega)
    have HP := Lib.hid hp
    clear hp
    rcases Nat.lt_trichotomy i j with hlt | heq | hgt
    · have hne : ((i : Int) == (j : Int)) = false := by simp; omega
      have hgtI : ¬ (i : Int) > (j : Int) := by omega
      obtain ⟨q, hq⟩ : ∃ q, m + j - i = q := ⟨_, rfl⟩
      obtain ⟨s, hs⟩ : ∃ s, m + j = s := ⟨_, rfl⟩
      have hsI : (m : Int) + (j : Int) = (s : Int) := by omega
      have hsw : IntKind.i64.wrap (s : Int) = (s : Int) := Go.IntWalk.i64_in _ (by omega)
      have hqI : (s : Int) - (i : Int) = (q : Int) := by omega
      have hqw : IntKind.i64.wrap (q : Int) = (q : Int) := Go.IntWalk.i64_in _ (by omega)
      obtain ⟨k, hk⟩ : ∃ k, j - i = k := ⟨_, rfl⟩
      have hkI : (j : Int) - (i : Int) = (k : Int) := by omega
      have hkw : IntKind.i64.wrap (k : Int) = (k : Int) := Go.IntWalk.i64_in _ (by omega)
      have HQ := Lib.hid hq
      have HK := Lib.hid hk
      clear hq hs hk
      go_wp2_with fail
      refine (swrT sf th base g n c B HSW.out p q i d _ HOW.out (by have := HP.out; have := HQ.out; omega) (by have := HP.out; have := HQ.out; omega) hn).mono ?_
      rintro e w1 ⟨rfl, d1, hS1, hg1, rfl⟩
      have HS1 := Lib.hid hS1
      have HG1 := Lib.hid (HG.out.trans hg1)
      have HR1 : Hid (StM.rot (StM.sw d p q i) (m - i) m (m + k) = StM.rot d0 a m b) := by
        show _ = _
        rw [← HR.out, ← StM.rot_lt d m i j hlt (by omega), HP.out, HQ.out, HK.out]
      clear hS1 hg1
      go_wp2_with fail
      exact ⟨⟨i, k, _, hi, by have := HK.out; omega, hia, by have := HK.out; omega, rfl, rfl, HR1.out, HS1.out, HG1.out⟩, by have := HK.out; simp [intOf]; omega⟩
    · subst heq
      have hne : ((i : Int) == (i : Int)) = true := by simp
      go_wp2_with fail
      refine (swrT sf th base g n c B HSW.out p m i d _ HOW.out (by have := HP.out; omega) (by omega) hn).mono ?_
      rintro e w1 ⟨rfl, d1, hS1, hg1, rfl⟩
      have HS1 := Lib.hid hS1
      have HG1 := Lib.hid (HG.out.trans hg1)
      have HR1 : Hid (StM.sw d p m i = StM.rot d0 a m b) := by
        show _ = _
        rw [← HR.out, ← HP.out]
        exact StM.rot_eq d m i (by omega)
      clear hS1 hg1
      go_wp2_with fail
      go_end0
      exact ⟨rfl, _, HS1.out, grown_allocT HG1.out, HR1.out⟩
    · have hne : ((i : Int) == (j : Int)) = false := by simp; omega
      have hgtI : (i : Int) > (j : Int) := by omega
      obtain ⟨k, hk⟩ : ∃ k, i - j = k := ⟨_, rfl⟩
      have hkI : (i : Int) - (j : Int) = (k : Int) := by omega
      have hkw : IntKind.i64.wrap (k : Int) = (k : Int) := Go.IntWalk.i64_in _ (by omega)
      have HK := Lib.hid hk
      clear hk
      go_wp2_with fail
      refine (swrT sf th base g n c B HSW.out p m j d _ HOW.out (by have := HP.out; omega) (by omega) hn).mono ?_
      rintro e w1 ⟨rfl, d1, hS1, hg1, rfl⟩
      have HS1 := Lib.hid hS1
      have HG1 := Lib.hid (HG.out.trans hg1)
      have HR1 : Hid (StM.rot (StM.sw d p m j) (m - k) m (m + j) = StM.rot d0 a m b) := by
        show _ = _
        rw [← HR.out, ← StM.rot_gt d m i j hgt (by omega), HP.out, HK.out]
      clear hS1 hg1
      go_wp2_with fail
      exact ⟨⟨k, j, _, by have := HK.out; omega, hj, by have := HK.out; omega, hjb, rfl, rfl, HR1.out, HS1.out, HG1.out⟩, by have := HK.out; simp [intOf]; omega⟩
end Go.Proofs.YtoedmmhiinhljaaDoor

/- The searches by halves within the merge. No program is in sight. -/
namespace Go.Proofs.YtoedmmhiinhljaaDoor
namespace StM
set_option linter.unusedVariables false
variable {key : Int → Nat}
theorem Srt.le {a b i j : Nat} {d : Nat → Int} (h : Srt key a b d) (h1 : a ≤ i) (h2 : i ≤ j) (h3 : j < b) : key (d i) ≤ key (d j) := by
  by_cases e : i = j
  · rw [e]; exact Nat.le_refl _
  · exact h i j h1 (by omega) h3
theorem bs1_lo {m b h : Nat} {x : Nat} {d : Nat → Int} (hs : Srt key m b d) (hh : h < b) (hl : key (d h) < x) : ∀ k, m ≤ k → k < h + 1 → key (d k) < x := fun k h1 h2 =>
  Nat.lt_of_le_of_lt (hs.le h1 (by omega) hh) hl
theorem bs1_hi {m b h : Nat} {x : Nat} {d : Nat → Int} (hs : Srt key m b d) (hm : m ≤ h) (hl : ¬ key (d h) < x) : ∀ k, h ≤ k → k < b → x ≤ key (d k) := fun k h1 h2 =>
  Nat.le_trans (Nat.le_of_not_lt hl) (hs.le hm h1 h2)
theorem bs2_lo {a m h : Nat} {x : Nat} {d : Nat → Int} (hs : Srt key a m d) (hh : h < m) (hl : ¬ x < key (d h)) : ∀ k, a ≤ k → k < h + 1 → key (d k) ≤ x := fun k h1 h2 =>
  Nat.le_trans (hs.le h1 (by omega) hh) (Nat.le_of_not_lt hl)
theorem bs2_hi {a m h : Nat} {x : Nat} {d : Nat → Int} (hs : Srt key a m d) (hm : a ≤ h) (hl : x < key (d h)) : ∀ k, h ≤ k → k < m → x < key (d k) := fun k h1 h2 =>
  Nat.lt_of_lt_of_le hl (hs.le hm h1 h2)
/-- What holds of the place where the search in the middle begins. -/
def Mid (a m b mid s0 r0 : Nat) : Prop := (mid < m ∧ s0 = mid + m - b ∧ r0 = mid) ∨ (m ≤ mid ∧ s0 = a ∧ r0 = m)
theorem bs3_lo {a m b mid s0 r0 c : Nat} {d : Nat → Int} (hab : a < m) (hmb : m < b) (hmid : mid = (a + b) / 2) (h0 : Mid a m b mid s0 r0) (h5 : Srt key a m d) (h6 : Srt key m b d) (h1 : s0 ≤ c) (h2 : c < r0)
    (hl : ¬ key (d (mid + m - 1 - c)) < key (d c)) : ∀ k, s0 ≤ k → k < c + 1 → key (d k) ≤ key (d (mid + m - 1 - k)) := fun k k1 k2 => by
  unfold Mid at h0
  exact Nat.le_trans (h5.le (by omega) (by omega : k ≤ c) (by omega)) (Nat.le_trans (Nat.le_of_not_lt hl) (h6.le (by omega) (by omega) (by omega)))
theorem bs3_hi {a m b mid s0 r0 c : Nat} {d : Nat → Int} (hab : a < m) (hmb : m < b) (hmid : mid = (a + b) / 2) (h0 : Mid a m b mid s0 r0) (h5 : Srt key a m d) (h6 : Srt key m b d) (h1 : s0 ≤ c) (h2 : c < r0)
    (hl : key (d (mid + m - 1 - c)) < key (d c)) : ∀ k, c ≤ k → k < r0 → key (d (mid + m - 1 - k)) < key (d k) := fun k k1 k2 => by
  unfold Mid at h0
  exact Nat.lt_of_le_of_lt (h6.le (by omega) (by omega : mid + m - 1 - k ≤ mid + m - 1 - c) (by omega)) (Nat.lt_of_lt_of_le hl (h5.le (by omega) k1 (by omega)))
/-- The places that the search looks at lie within. -/
theorem Mid.at_ {a m b mid s0 r0 c : Nat} (hab : a < m) (hmb : m < b) (hmid : mid = (a + b) / 2) (h0 : Mid a m b mid s0 r0) (h1 : s0 ≤ c) (h2 : c < r0) : c < m ∧ c + 1 ≤ mid + m ∧ m ≤ mid + m - 1 - c ∧ mid + m - 1 - c < b := by
  unfold Mid at h0
  omega
theorem Mid.le {a m b mid s0 r0 : Nat} (hab : a < m) (hmb : m < b) (hmid : mid = (a + b) / 2) (h0 : Mid a m b mid s0 r0) : a ≤ s0 ∧ s0 ≤ r0 ∧ r0 ≤ m ∧ r0 ≤ mid := by
  unfold Mid at h0
  omega
end StM
end Go.Proofs.YtoedmmhiinhljaaDoor

/- The library's merge of two sorted segments. -/
namespace Go.Proofs.YtoedmmhiinhljaaDoor
open Go.RowKit Go.Shelf
set_option linter.unusedVariables false
attribute [local go_sem ↓] Go.wp_at_zero Go.wp_at_succ


set_option maxRecDepth 100000 in
set_option maxHeartbeats 6400000 in
theorem symA (sf : Nat) (th : Value) (base g n c B : Nat) (hsw : SwT sf th base g n c B) (hn : n ≤ 1099511627776) (a m b : Nat) (d0 : Nat → Int) (w : World) (h : SS w base g n c B d0) (hm : m = a + 1) (hmb : m < b) (hb : b ≤ n) (h6 : StM.Srt keyT m b d0) :
    Calls Tryd.prog 57 #[.agg #[.func (.func 27) #[] #[.pointer (some ⟨B, 0, none⟩)], .func (.func sf) #[] #[.slice (some ⟨g, 0, none⟩) n c, th]], .int .i64 (a : Int), .int .i64 (m : Int), .int .i64 (b : Int)] w (StP w base g n c B fun d' => StM.Stb keyT a b d0 d' ∧ StM.Srt keyT a b d') := by
  have hgl := h.lt.2
  have HS := Lib.hid h
  have HSW := Lib.hid hsw
  have HBB := Lib.hid (Blk.new w 64 #[.func (.func 27) #[] #[.pointer (some ⟨B, 0, none⟩)], .func (.func sf) #[] #[.slice (some ⟨g, 0, none⟩) n c, th]])
  have H6 := Lib.hid h6
  have hdI : (m : Int) - (a : Int) = 1 := by omega
  have ham : a < m := by omega
  have HM := Lib.hid hm
  clear hsw h h6 hm
  go_enter Tryd.func57, Tryd.ntmps57
  go_wp2_with fail
  go_loopw [8, 9] (fun e8 e9 wr => ∃ (i j : Nat), m ≤ i ∧ i ≤ j ∧ j ≤ b ∧ e8 = .int .i64 i ∧ e9 = .int .i64 j ∧ (∀ k, m ≤ k → k < i → keyT (d0 k) < keyT (d0 a)) ∧ (∀ k, j ≤ k → k < b → keyT (d0 a) ≤ keyT (d0 k)) ∧ SS wr base g n c B d0 ∧ (w.alloc (.cells #[.func (.func 27) #[] #[.pointer (some ⟨B, 0, none⟩)], .func (.func sf) #[] #[.slice (some ⟨g, 0, none⟩) n c, th]] 64)).grownBy wr (some g)) (fun e8 e9 _ => (intOf e9).toNat - (intOf e8).toNat)
  case atStart => exact ⟨m, b, Nat.le_refl _, by omega, Nat.le_refl _, rfl, rfl, (fun k h1 h2 => by omega), (fun k h1 h2 => by omega), HS.out.keep (by (repeat (first | with_reducible exact Below.refl _ _ | with_reducible assumption | with_reducible apply bel_alloc | with_reducible apply bel_drew | with_reducible apply bel_drewN | ((with_reducible refine bel_set ?_ ?_); rotate_left; (simp <;> omega)) | (with_reducible refine bel_trans ?_ (by with_reducible assumption))))), World.grownBy.refl _ _⟩
  case round =>
    obtain ⟨i, j, hmi, hij, hjb, rfl, rfl, hlo, hhi, hown, hg⟩ := hrel
    have HLO := Lib.hid hlo
    have HHI := Lib.hid hhi
    have HOW := Lib.hid hown
    have HG := Lib.hid hg
    clear hlo hhi hown hg
    by_cases hlt : i < j
    · have hltI : (i : Int) < (j : Int) := by omega
      obtain ⟨s, hs⟩ : ∃ s, i + j = s := ⟨_, rfl⟩
      have hsI : (i : Int) + (j : Int) = (s : Int) := by omega
      have hsw : IntKind.i64.wrap (s : Int) = (s : Int) := Go.IntWalk.i64_in _ (by omega)
      have hsu : IntKind.u64.wrap (s : Int) = (s : Int) := by rw [IntKind.wrap_u64]; omega
      obtain ⟨q, hq⟩ : ∃ q, s / 2 = q := ⟨_, rfl⟩
      have hqI : (s : Int) / 2 = (q : Int) := by omega
      have hqw : IntKind.i64.wrap (q : Int) = (q : Int) := Go.IntWalk.i64_in _ (by omega)
      have hqu : IntKind.u64.wrap (q : Int) = (q : Int) := by rw [IntKind.wrap_u64]; omega
      have HQ := Lib.hid (show i ≤ q ∧ q < j by omega)
      have hBB := HBB.out.grown HG.out (fun e => by injection e with e; omega)
      have b0 : wr.cell? ⟨w.heap.size, 0, none⟩ = some (.func (.func 27) #[] #[.pointer (some ⟨B, 0, none⟩)]) := by simpa using hBB.cell 0
      have b1 : wr.cell? ⟨w.heap.size, 1, none⟩ = some (.func (.func sf) #[] #[.slice (some ⟨g, 0, none⟩) n c, th]) := by simpa using hBB.cell 1
      have bl := hBB.lt
      clear hBB
      have hqn : q < n := by omega
      have han : a < n := by omega
      clear hs hq
      by_cases hl : keyT (d0 q) < keyT (d0 a)
      · have HLO2 := Lib.hid (StM.bs1_lo H6.out (by have := HQ.out; omega : q < b) hl)
        have HL := Lib.hid hl
        clear hl
        go_wp2_with fail
        refine (lessT HOW.out hqn han true (by rw [decide_eq_true HL.out])).mono ?_
        rintro e w1 ⟨rfl, hb1⟩
        go_wp2_with fail
        exact ⟨⟨q + 1, j, by have := HQ.out; omega, by have := HQ.out; omega, hjb, by go_num, rfl, HLO2.out, HHI.out, HOW.out.keep hb1, grown_below HG.out hb1⟩, by have := HQ.out; simp [intOf]; omega⟩
      · have HHI2 := Lib.hid (StM.bs1_hi H6.out (by have := HQ.out; omega : m ≤ q) hl)
        have HL := Lib.hid hl
        clear hl
        go_wp2_with fail
        refine (lessT HOW.out hqn han false (by rw [decide_eq_false HL.out])).mono ?_
        rintro e w1 ⟨rfl, hb1⟩
        go_wp2_with fail
        exact ⟨⟨i, q, hmi, HQ.out.1, by have := HQ.out; omega, rfl, rfl, HLO.out, HHI2.out, HOW.out.keep hb1, grown_below HG.out hb1⟩, by have := HQ.out; simp [intOf]; omega⟩
    · obtain rfl : i = j := by omega
      have hltI : ¬ (i : Int) < (i : Int) := by omega
      obtain ⟨p, hp⟩ : ∃ p, i = p + 1 := ⟨i - 1, by omega⟩
      have hpI : (i : Int) - 1 = (p : Int) := by omega
      have hpw : IntKind.i64.wrap (p : Int) = (p : Int) := Go.IntWalk.i64_in _ (by omega)
      have HP := Lib.hid hp
      clear hp
      go_wp2_with fail
      go_loopw [11] (fun e11 wq => ∃ (k : Nat), a ≤ k ∧ k ≤ p ∧ e11 = .int .i64 k ∧ SS wq base g n c B (StM.rot d0 a m (k + 1)) ∧ (w.alloc (.cells #[.func (.func 27) #[] #[.pointer (some ⟨B, 0, none⟩)], .func (.func sf) #[] #[.slice (some ⟨g, 0, none⟩) n c, th]] 64)).grownBy wq (some g)) (fun e11 _ => p - (intOf e11).toNat)
      case atStart => exact ⟨a, Nat.le_refl _, by have := HP.out; omega, rfl, by rw [← HM.out, StM.rot_idr _ _ _ (by omega)]; exact HOW.out, HG.out⟩
      case round =>
        clear HOW HG
        obtain ⟨k, hak, hkp, rfl, hown, hg⟩ := hrel
        have HOW := Lib.hid hown
        have HG := Lib.hid hg
        clear hown hg
        by_cases hlt2 : k < p
        · have hkI : (k : Int) < (p : Int) := by omega
          obtain ⟨y, hy⟩ : ∃ y, k + 1 = y := ⟨_, rfl⟩
          have hyI : (k : Int) + 1 = (y : Int) := by omega
          have hyw : IntKind.i64.wrap (y : Int) = (y : Int) := Go.IntWalk.i64_in _ (by have := HP.out; omega)
          have hBB := HBB.out.grown HG.out (fun e => by injection e with e; omega)
          have b0 : wr.cell? ⟨w.heap.size, 0, none⟩ = some (.func (.func 27) #[] #[.pointer (some ⟨B, 0, none⟩)]) := by simpa using hBB.cell 0
          have b1 : wr.cell? ⟨w.heap.size, 1, none⟩ = some (.func (.func sf) #[] #[.slice (some ⟨g, 0, none⟩) n c, th]) := by simpa using hBB.cell 1
          have bl := hBB.lt
          clear hBB
          obtain ⟨w2, hrun, ho2, hg2⟩ := HSW.out wr _ k y HOW.out (by have := HP.out; omega) (by have := HP.out; omega)
          have HO2 : Hid (SS w2 base g n c B (StM.rot d0 a m (y + 1))) := by
            have e := StM.rot_up d0 HM.out hak
            rw [hy, show k + 2 = y + 1 by omega] at e
            have h2 := ho2
            rw [hy, e] at h2
            exact h2
          have HG2 := Lib.hid (hg2 _ HG.out)
          have hky : k < y := by omega
          have hyp : y ≤ p := by omega
          clear ho2 hg2 hy
          go_wp2_with fail
          exact ⟨⟨y, by omega, hyp, rfl, HO2.out, HG2.out⟩, by simp [intOf]; omega⟩
        · obtain rfl : k = p := by omega
          have hkI : ¬ (k : Int) < (k : Int) := by omega
          go_wp2_with fail
          (try simp only [Exit.inBlock, Exit.then])
          refine bodyPost_ret (results_none rfl _ _ _) rfl ?_
          refine ⟨rfl, _, HOW.out, grown_allocT HG.out, ?_⟩
          have e := HP.out
          rw [← e]
          exact StM.merge1 HM.out hmi hjb H6.out HLO.out HHI.out
set_option maxRecDepth 100000 in
set_option maxHeartbeats 6400000 in
/-- The merge where the second segment holds one value. -/
theorem symB (sf : Nat) (th : Value) (base g n c B : Nat) (hsw : SwT sf th base g n c B) (hn : n ≤ 1099511627776) (a m b : Nat) (d0 : Nat → Int) (w : World) (h : SS w base g n c B d0) (ham : a + 1 < m) (hbm : b = m + 1) (hb : b ≤ n) (h5 : StM.Srt keyT a m d0) :
    Calls Tryd.prog 57 #[.agg #[.func (.func 27) #[] #[.pointer (some ⟨B, 0, none⟩)], .func (.func sf) #[] #[.slice (some ⟨g, 0, none⟩) n c, th]], .int .i64 (a : Int), .int .i64 (m : Int), .int .i64 (b : Int)] w (StP w base g n c B fun d' => StM.Stb keyT a b d0 d' ∧ StM.Srt keyT a b d') := by
  have hgl := h.lt.2
  have HS := Lib.hid h
  have HSW := Lib.hid hsw
  have HBB := Lib.hid (Blk.new w 64 #[.func (.func 27) #[] #[.pointer (some ⟨B, 0, none⟩)], .func (.func sf) #[] #[.slice (some ⟨g, 0, none⟩) n c, th]])
  have H5 := Lib.hid h5
  obtain ⟨z, hz⟩ : ∃ z, m - a = z := ⟨_, rfl⟩
  have hzI : (m : Int) - (a : Int) = (z : Int) := by omega
  have hzw : IntKind.i64.wrap (z : Int) = (z : Int) := Go.IntWalk.i64_in _ (by omega)
  have hz1 : ((z : Int) == 1) = false := by rw [beq_eq_false_iff_ne]; omega
  have hdI : (b : Int) - (m : Int) = 1 := by omega
  have hmn : m < n := by omega
  have HM := Lib.hid hbm
  clear hsw h h5 hbm hz
  go_enter Tryd.func57, Tryd.ntmps57
  go_wp2_with fail
  go_loopw [12, 13] (fun e8 e9 wr => ∃ (i j : Nat), a ≤ i ∧ i ≤ j ∧ j ≤ m ∧ e8 = .int .i64 i ∧ e9 = .int .i64 j ∧ (∀ k, a ≤ k → k < i → keyT (d0 k) ≤ keyT (d0 m)) ∧ (∀ k, j ≤ k → k < m → keyT (d0 m) < keyT (d0 k)) ∧ SS wr base g n c B d0 ∧ (w.alloc (.cells #[.func (.func 27) #[] #[.pointer (some ⟨B, 0, none⟩)], .func (.func sf) #[] #[.slice (some ⟨g, 0, none⟩) n c, th]] 64)).grownBy wr (some g)) (fun e8 e9 _ => (intOf e9).toNat - (intOf e8).toNat)
  case atStart => exact ⟨a, m, Nat.le_refl _, by omega, Nat.le_refl _, rfl, rfl, (fun k h1 h2 => by omega), (fun k h1 h2 => by omega), HS.out.keep (by (repeat (first | with_reducible exact Below.refl _ _ | with_reducible assumption | with_reducible apply bel_alloc | with_reducible apply bel_drew | with_reducible apply bel_drewN | ((with_reducible refine bel_set ?_ ?_); rotate_left; (simp <;> omega)) | (with_reducible refine bel_trans ?_ (by with_reducible assumption))))), World.grownBy.refl _ _⟩
  case round =>
    obtain ⟨i, j, hmi, hij, hjb, rfl, rfl, hlo, hhi, hown, hg⟩ := hrel
    have HLO := Lib.hid hlo
    have HHI := Lib.hid hhi
    have HOW := Lib.hid hown
    have HG := Lib.hid hg
    clear hlo hhi hown hg
    by_cases hlt : i < j
    · have hltI : (i : Int) < (j : Int) := by omega
      obtain ⟨s, hs⟩ : ∃ s, i + j = s := ⟨_, rfl⟩
      have hsI : (i : Int) + (j : Int) = (s : Int) := by omega
      have hsw : IntKind.i64.wrap (s : Int) = (s : Int) := Go.IntWalk.i64_in _ (by omega)
      have hsu : IntKind.u64.wrap (s : Int) = (s : Int) := by rw [IntKind.wrap_u64]; omega
      obtain ⟨q, hq⟩ : ∃ q, s / 2 = q := ⟨_, rfl⟩
      have hqI : (s : Int) / 2 = (q : Int) := by omega
      have hqw : IntKind.i64.wrap (q : Int) = (q : Int) := Go.IntWalk.i64_in _ (by omega)
      have hqu : IntKind.u64.wrap (q : Int) = (q : Int) := by rw [IntKind.wrap_u64]; omega
      have HQ := Lib.hid (show i ≤ q ∧ q < j by omega)
      have hBB := HBB.out.grown HG.out (fun e => by injection e with e; omega)
      have b0 : wr.cell? ⟨w.heap.size, 0, none⟩ = some (.func (.func 27) #[] #[.pointer (some ⟨B, 0, none⟩)]) := by simpa using hBB.cell 0
      have b1 : wr.cell? ⟨w.heap.size, 1, none⟩ = some (.func (.func sf) #[] #[.slice (some ⟨g, 0, none⟩) n c, th]) := by simpa using hBB.cell 1
      have bl := hBB.lt
      clear hBB
      have hqn : q < n := by omega
      clear hs hq
      by_cases hl : keyT (d0 m) < keyT (d0 q)
      · have HHI2 := Lib.hid (StM.bs2_hi H5.out (by have := HQ.out; omega : a ≤ q) hl)
        have HL := Lib.hid hl
        clear hl
        go_wp2_with fail
        refine (lessT HOW.out hmn hqn true (by rw [decide_eq_true HL.out])).mono ?_
        rintro e w1 ⟨rfl, hb1⟩
        go_wp2_with fail
        exact ⟨⟨i, q, hmi, HQ.out.1, by have := HQ.out; omega, rfl, rfl, HLO.out, HHI2.out, HOW.out.keep hb1, grown_below HG.out hb1⟩, by have := HQ.out; simp [intOf]; omega⟩
      · have HLO2 := Lib.hid (StM.bs2_lo H5.out (by have := HQ.out; omega : q < m) hl)
        have HL := Lib.hid hl
        clear hl
        go_wp2_with fail
        refine (lessT HOW.out hmn hqn false (by rw [decide_eq_false HL.out])).mono ?_
        rintro e w1 ⟨rfl, hb1⟩
        go_wp2_with fail
        exact ⟨⟨q + 1, j, by have := HQ.out; omega, by have := HQ.out; omega, hjb, by go_num, rfl, HLO2.out, HHI.out, HOW.out.keep hb1, grown_below HG.out hb1⟩, by have := HQ.out; simp [intOf]; omega⟩
    · obtain rfl : i = j := by omega
      have hltI : ¬ (i : Int) < (i : Int) := by omega
      go_wp2_with fail
      go_loopw [15] (fun e11 wq => ∃ (k : Nat), i ≤ k ∧ k ≤ m ∧ e11 = .int .i64 k ∧ SS wq base g n c B (StM.rot d0 k m b) ∧ (w.alloc (.cells #[.func (.func 27) #[] #[.pointer (some ⟨B, 0, none⟩)], .func (.func sf) #[] #[.slice (some ⟨g, 0, none⟩) n c, th]] 64)).grownBy wq (some g)) (fun e11 _ => (intOf e11).toNat)
      case atStart => exact ⟨m, hjb, Nat.le_refl _, rfl, by rw [StM.rot_idl _ _ _ (by have := HM.out; omega)]; exact HOW.out, HG.out⟩
      case round =>
        clear HOW HG
        obtain ⟨k, hik, hkm, rfl, hown, hg⟩ := hrel
        have HOW := Lib.hid hown
        have HG := Lib.hid hg
        clear hown hg
        by_cases hlt2 : i < k
        · have hkI : (k : Int) > (i : Int) := by omega
          obtain ⟨p, hp⟩ : ∃ p, k = p + 1 := ⟨k - 1, by omega⟩
          have hpI : (k : Int) - 1 = (p : Int) := by omega
          have hpw : IntKind.i64.wrap (p : Int) = (p : Int) := Go.IntWalk.i64_in _ (by omega)
          have hBB := HBB.out.grown HG.out (fun e => by injection e with e; omega)
          have b0 : wr.cell? ⟨w.heap.size, 0, none⟩ = some (.func (.func 27) #[] #[.pointer (some ⟨B, 0, none⟩)]) := by simpa using hBB.cell 0
          have b1 : wr.cell? ⟨w.heap.size, 1, none⟩ = some (.func (.func sf) #[] #[.slice (some ⟨g, 0, none⟩) n c, th]) := by simpa using hBB.cell 1
          have bl := hBB.lt
          clear hBB
          obtain ⟨w2, hrun, ho2, hg2⟩ := HSW.out wr _ k p HOW.out (by omega) (by omega)
          have HO2 : Hid (SS w2 base g n c B (StM.rot d0 p m b)) := by
            rw [← StM.rot_dn d0 HM.out hp hkm]
            exact ho2
          have HG2 := Lib.hid (hg2 _ HG.out)
          have hpk : p < k := by omega
          have hip : i ≤ p := by omega
          clear ho2 hg2 hp
          go_wp2_with fail
          exact ⟨⟨p, hip, by omega, rfl, HO2.out, HG2.out⟩, by simp [intOf]; omega⟩
        · obtain rfl : k = i := by omega
          have hkI : ¬ (k : Int) > (k : Int) := by omega
          go_wp2_with fail
          (try simp only [Exit.inBlock, Exit.then])
          refine bodyPost_ret (results_none rfl _ _ _) rfl ?_
          exact ⟨rfl, _, HOW.out, grown_allocT HG.out, StM.merge2 HM.out hmi hjb H5.out HLO.out HHI.out⟩
end Go.Proofs.YtoedmmhiinhljaaDoor
