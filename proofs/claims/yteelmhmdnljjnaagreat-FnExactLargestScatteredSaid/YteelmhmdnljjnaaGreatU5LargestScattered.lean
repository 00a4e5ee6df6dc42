/- Texts of this claim, one behind the other: part 5. -/
import Derived.Test.YteelmhmdnljjnaaGreatU4LargestScattered
import Derived.Outline
import Derived.WalkLawsBesides
import Derived.WalkSpells
import Derived.BigQuiet
import Derived.Deep.QuietTactic
import Derived.Deep.RegionHeld3
import Derived.Deep.RegionWith
import Derived.Deep.DeepCutAuto
import Derived.Deep.CutBlock
import Derived.Deep.DrawnRows
import Derived.Lib.SmallJoins
/- Masks scattered over placements: both sides. -/
namespace Go.Proofs.YteelmhmdnljjnaaGreat
open Go.RowKit
set_option linter.unusedVariables false
attribute [local go_sem ↓] Go.wp_at_zero Go.wp_at_succ

def okMask2 (W : Int) (rows : List Int) (x : Int) : Bool := decide (0 ≤ x) && inM x.toNat (maskV W rows)
theorem maskV_62b {W : Int} {rows : List Int} (h : isReg W rows = true) : maskV W rows < 2 ^ 36 := by
  obtain ⟨m, rfl, hm1, hm6, hn1, hn6, hrow⟩ := isReg_yes h
  unfold maskV
  rw [if_pos h]
  have h1 := mkTo_lt hrow rows.length (Nat.le_refl _)
  rw [Int.toNat_natCast]
  exact Nat.lt_of_lt_of_le h1 (Nat.pow_le_pow_right (by decide) (by have := Nat.mul_le_mul hn6 hm6; omega))
theorem isMaskP_i (W : Int) (A : Option Addr) (h c : Nat) (rows : List Int) (x : Int) (w : World) (hr : Rd w A (vI rows)) (hl : rows.length = h) (hv : isReg W rows = true) (hx : x < 9223372036854775808) :
    Calls Tryz.prog 53 #[.agg #[.int .i64 W, .slice A h c], .int .i64 x] w (Ret w (.bool (okMask2 W rows x))) := by
  have HL := Lib.hid hl
  have HT := Lib.hid hv
  have hm62 := maskV_62b hv
  clear hl hv
  by_cases h0 : 0 ≤ x
  · obtain ⟨k, rfl⟩ : ∃ k : Nat, x = (k : Int) := ⟨x.toNat, by omega⟩
    obtain ⟨v, hve⟩ : ∃ v, maskV W rows = v := ⟨_, rfl⟩
    have hV : okMask2 W rows (k : Int) = inM k v := by unfold okMask2; rw [hve, decide_eq_true h0]; rfl
    rw [hve] at hm62
    have hand := i64_andNot k v (by omega) (by omega)
    obtain ⟨t, ht⟩ : ∃ t, k - (k &&& v) = t := ⟨_, rfl⟩
    rw [ht] at hand
    have hti := sub_zero_iff k v
    rw [ht] at hti
    have hge : (k : Int) ≥ 0 := h0
    have HVE := Lib.hid hve
    cases hi : inM k v with
    | true =>
      rw [hi] at hV hti
      have HV := Lib.hid hV
      have ht0 : ((t : Int) == 0) = true := by have := hti.2 rfl; simp [this]
      clear hV hti ht hi hm62 hve
      go_enter Tryz.func53, Tryz.ntmps53
      go_wp2_with fail
      refine (mask_i _ _ _ _ rows _ (hr.alloc _) HL.out HT.out).mono ?_
      rw [HVE.out]
      rintro e w1 ⟨rfl, hb1⟩
      go_wp2_with fail
      go_ret
      exact ⟨by rw [HV.out]; rfl, (by (repeat (first | with_reducible exact Below.refl _ _ | with_reducible assumption | with_reducible apply bel_alloc | with_reducible apply bel_drew | with_reducible apply bel_drewN | ((with_reducible refine bel_set ?_ ?_); rotate_left; (simp <;> omega)) | (with_reducible refine bel_trans ?_ (by with_reducible assumption)))))⟩
    | false =>
      rw [hi] at hV hti
      have HV := Lib.hid hV
      have ht0 : ((t : Int) == 0) = false := by rw [beq_eq_false_iff_ne]; intro h; exact absurd (hti.1 (by omega)) (by decide)
      clear hV hti ht hi hm62 hve
      go_enter Tryz.func53, Tryz.ntmps53
      go_wp2_with fail
      refine (mask_i _ _ _ _ rows _ (hr.alloc _) HL.out HT.out).mono ?_
      rw [HVE.out]
      rintro e w1 ⟨rfl, hb1⟩
      go_wp2_with fail
      go_ret
      exact ⟨by rw [HV.out]; rfl, (by (repeat (first | with_reducible exact Below.refl _ _ | with_reducible assumption | with_reducible apply bel_alloc | with_reducible apply bel_drew | with_reducible apply bel_drewN | ((with_reducible refine bel_set ?_ ?_); rotate_left; (simp <;> omega)) | (with_reducible refine bel_trans ?_ (by with_reducible assumption)))))⟩
  · have HV : Hid (okMask2 W rows x = false) := by show okMask2 W rows x = false; unfold okMask2; rw [decide_eq_false h0]; rfl
    have hge : decide (x ≥ 0) = false := by simpa using h0
    go_enter Tryz.func53, Tryz.ntmps53
    go_wp2_with fail
    go_ret
    exact ⟨by rw [HV.out]; rfl, (by (repeat (first | with_reducible exact Below.refl _ _ | with_reducible assumption | with_reducible apply bel_alloc | with_reducible apply bel_drew | with_reducible apply bel_drewN | ((with_reducible refine bel_set ?_ ?_); rotate_left; (simp <;> omega)) | (with_reducible refine bel_trans ?_ (by with_reducible assumption)))))⟩

theorem scat_lt {a b : Nat} (hb : b < 2 ^ 62) : a &&& b < 2 ^ 62 := Nat.lt_of_le_of_lt Nat.and_le_right hb
theorem scattered_i (A : Option Addr) (n c : Nat) (L : List Int) (mask : Nat) (w : World) (hr : Rd w A (vI L)) (hl : L.length = n) (hn : n ≤ 1048576) (hL : Msk 36 L) (hm : mask < 2 ^ 62) :
    Calls Tryz.prog 54 #[.slice A n c, .int .i64 (mask : Int)] w (Ret w (.bool (scatL L mask))) := by
  have HL := Lib.hid hl
  have HM := Lib.hid hL
  have HR := Lib.hid hr
  clear hl hL hr
  go_enter Tryz.func54, Tryz.ntmps54
  go_wp2_with fail
  go_loopw [9] (fun e9 wr => ∃ k : Nat, k ≤ n ∧ e9 = .int .i64 k ∧ scatL L mask = (L.drop k).all (fun m => decide (pop (m.toNat &&& mask) ≤ 1)) ∧ Below w.heap.size w wr) (fun e9 _ => n - (intOf e9).toNat)
  case atStart => exact ⟨0, Nat.zero_le _, rfl, rfl, Below.refl _ _⟩
  case round =>
    obtain ⟨k, hk, rfl, hs, hb⟩ := hrel
    by_cases hlt : k < n
    · have hkl : k < L.length := by rw [HL.out]; exact hlt
      have hk0 : (0 : Int) ≤ (k : Int) := by omega
      have hk1 : (k : Int) < (n : Int) := by omega
      obtain ⟨g, off, hA, hg, d1⟩ := RdI.at_ (HR.out.below hb) hkl
      obtain ⟨q, hq, hq36⟩ := HM.out _ (List.getElem_mem hkl)
      rw [List.drop_eq_getElem_cons hkl, List.all_cons, hq, Int.toNat_natCast] at hs
      rw [hq] at d1
      obtain ⟨z, hz⟩ : ∃ z, q &&& mask = z := ⟨_, rfl⟩
      have hz62 : z < 2 ^ 62 := by rw [← hz]; exact scat_lt hm
      have hand : bits .and .i64 (q : Int) (mask : Int) = (z : Int) := by rw [i64_and q mask (by omega) (by omega), hz]
      have hcv : IntKind.u64.wrap (z : Int) = (z : Int) := wraps_u64 _ (by omega) (by omega)
      rw [hz] at hs
      have hpl : pop z ≤ 64 := by unfold pop; have h := List.countP_le_length (p := fun i => z.testBit i) (l := List.range 64); simpa using h
      have HZ := Lib.hid hz62
      subst hA
      clear hq hq36 hz hz62
      by_cases h1 : pop z ≤ 1
      · have hs2 : scatL L mask = (L.drop (k + 1)).all (fun m => decide (pop (m.toNat &&& mask) ≤ 1)) := by rw [hs, decide_eq_true h1, Bool.true_and]
        have HS := Lib.hid hs2
        obtain ⟨pz, hpz⟩ : ∃ pz, pop z = pz := ⟨_, rfl⟩
        rw [hpz] at h1
        have HPZ := Lib.hid hpz
        have hgt : ¬ (pz : Int) > 1 := by omega
        clear hs hs2 hpl hpz
        go_wp2_with fail
        refine (OnesCount_l z _ HZ.out).mono ?_
        rw [HPZ.out]
        rintro e w1 ⟨rfl, hb1⟩
        go_wp2_with fail
        exact ⟨⟨k + 1, by omega, by go_num, HS.out, bel_trans hb hb1⟩, by simp [intOf]; omega⟩
      · have hs2 : scatL L mask = false := by rw [hs, decide_eq_false h1, Bool.false_and]
        have HS := Lib.hid hs2
        obtain ⟨pz, hpz⟩ : ∃ pz, pop z = pz := ⟨_, rfl⟩
        rw [hpz] at h1
        have HPZ := Lib.hid hpz
        have hgt : (pz : Int) > 1 := by omega
        clear hs hs2 hpl hpz
        go_wp2_with fail
        refine (OnesCount_l z _ HZ.out).mono ?_
        rw [HPZ.out]
        rintro e w1 ⟨rfl, hb1⟩
        go_wp2_with fail
        go_ret
        exact ⟨by rw [HS.out]; rfl, bel_trans hb hb1⟩
    · obtain rfl : k = n := by omega
      rw [List.drop_of_length_le (by rw [HL.out]; omega)] at hs
      have HS := Lib.hid hs
      have hk1 : ¬ (k : Int) < (k : Int) := by omega
      clear hs
      go_wp2_with fail
      go_ret
      exact ⟨by rw [HS.out]; rfl, hb⟩
theorem and0 : bits .and .i64 (0 : Int) (-1) = 0 := by decide
theorem l21Apart_s (A : Option Addr) (n c : Nat) (L : List Int) (mask : Nat) (w : World) (hr : Rd w A (vI L)) (hl : L.length = n) (hn : n ≤ 1048576) (hL : Msk 36 L) (hm : mask < 2 ^ 62) :
    Calls Tryz.prog 52 #[.slice A n c, .int .i64 (mask : Int)] w (Ret w (.bool (scatL L mask))) := by
  have HL := Lib.hid hl
  have HM := Lib.hid hL
  have HR := Lib.hid hr
  clear hl hL hr
  go_enter Tryz.func52, Tryz.ntmps52
  go_wp2_with fail
  go_loopw [5] (fun e9 wr => ∃ k : Nat, k ≤ n ∧ e9 = .int .i64 k ∧ scatL L mask = (L.drop k).all (fun m => decide (pop (m.toNat &&& mask) ≤ 1)) ∧ Below w.heap.size w wr) (fun e9 _ => n - (intOf e9).toNat)
  case atStart => exact ⟨0, Nat.zero_le _, rfl, rfl, Below.refl _ _⟩
  case round =>
    obtain ⟨k, hk, rfl, hs, hb⟩ := hrel
    by_cases hlt : k < n
    · have hkl : k < L.length := by rw [HL.out]; exact hlt
      have hk0 : (0 : Int) ≤ (k : Int) := by omega
      have hk1 : (k : Int) < (n : Int) := by omega
      obtain ⟨g, off, hA, hg, d1⟩ := RdI.at_ (HR.out.below hb) hkl
      obtain ⟨q, hq, hq36⟩ := HM.out _ (List.getElem_mem hkl)
      rw [List.drop_eq_getElem_cons hkl, List.all_cons, hq, Int.toNat_natCast] at hs
      rw [hq] at d1
      obtain ⟨z, hz⟩ : ∃ z, q &&& mask = z := ⟨_, rfl⟩
      have hz62 : z < 2 ^ 62 := by rw [← hz]; exact scat_lt hm
      have hand : bits .and .i64 (q : Int) (mask : Int) = (z : Int) := by rw [i64_and q mask (by omega) (by omega), hz]
      rw [hz] at hs
      have hp1 := pop_one hz62
      subst hA
      clear hq hq36 hz
      by_cases hz0 : z = 0
      · subst hz0
        have hs2 : scatL L mask = (L.drop (k + 1)).all (fun m => decide (pop (m.toNat &&& mask) ≤ 1)) := by rw [hs, decide_eq_true (hp1.2 (.inl rfl)), Bool.true_and]
        have HS := Lib.hid hs2
        have ha0 := and0
        clear hs hs2 hp1 hz62
        go_wp2_with fail
        exact ⟨⟨k + 1, by omega, by go_num, HS.out, hb⟩, by simp [intOf]; omega⟩
      · obtain ⟨y, hy⟩ : ∃ y, z - 1 = y := ⟨_, rfl⟩
        have hyI : (z : Int) - 1 = (y : Int) := by omega
        have hyw : IntKind.i64.wrap (y : Int) = (y : Int) := Go.IntWalk.i64_in _ (by omega)
        obtain ⟨t, ht⟩ : ∃ t, z &&& y = t := ⟨_, rfl⟩
        have hand2 : bits .and .i64 (z : Int) (y : Int) = (t : Int) := by rw [i64_and z y (by omega) (by omega), ht]
        rw [hy, ht] at hp1
        have hzp : (z : Int) > 0 := by omega
        by_cases ht0 : t = 0
        · have hs2 : scatL L mask = (L.drop (k + 1)).all (fun m => decide (pop (m.toNat &&& mask) ≤ 1)) := by rw [hs, decide_eq_true (hp1.2 (.inr ht0)), Bool.true_and]
          have HS := Lib.hid hs2
          have htt : ((t : Int) != 0) = false := by simp [ht0]
          clear hs hs2 hp1 hz62 hy ht ht0
          go_wp2_with fail
          exact ⟨⟨k + 1, by omega, by go_num, HS.out, hb⟩, by simp [intOf]; omega⟩
        · have hs2 : scatL L mask = false := by rw [hs, decide_eq_false (fun h => by have := hp1.1 h; omega), Bool.false_and]
          have HS := Lib.hid hs2
          have htt : ((t : Int) != 0) = true := by simp; omega
          clear hs hs2 hp1 hz62 hy ht ht0
          go_wp2_with fail
          go_ret
          exact ⟨by rw [HS.out]; rfl, hb⟩
    · obtain rfl : k = n := by omega
      rw [List.drop_of_length_le (by rw [HL.out]; omega)] at hs
      have HS := Lib.hid hs
      have hk1 : ¬ (k : Int) < (k : Int) := by omega
      clear hs
      go_wp2_with fail
      go_ret
      exact ⟨by rw [HS.out]; rfl, hb⟩
set_option maxHeartbeats 1600000 in
theorem IsScattered_i (W : Int) (A B : Option Addr) (n c q cb : Nat) (rows : List Int) (x : Int) (hs : List H) (P : List (List C)) (w : World) (hr : Rd w A (vI rows)) (hl : rows.length = n) (hp : RdP w B q hs P) (hq : q ≤ 1048576) (hm : totC P ≤ 1048576) (hx : x < 9223372036854775808) :
    Calls Tryz.prog 23 #[.agg #[.int .i64 W, .slice A n c], .slice B q cb, .int .i64 x] w (Ret w (.bool (scatV W rows P x))) := by
  have HL := Lib.hid hl
  have HR := Lib.hid (hr.alloc (.cells #[.int .i64 W, .slice A n c] 29))
  have HP := Lib.hid (hp.alloc (.cells #[.int .i64 W, .slice A n c] 29))
  have HB0 := Lib.hid (Blk.new w 29 #[.int .i64 W, .slice A n c])
  have HM := Lib.hid hm
  have HX63 := Lib.hid hx
  have HPF := Lib.hid hp.flen
  have hbw0 : Below w.heap.size w (w.alloc (.cells #[.int .i64 W, .slice A n c] 29)) := bel_alloc (Below.refl _ _) _
  clear hl hr hp hm hx
  cases hpv : (isReg W rows && pcs P) with
  | false =>
    have HV : Hid (scatV W rows P x = false) := by show scatV W rows P x = false; unfold scatV; rw [hpv]; rfl
    have HPV := Lib.hid hpv
    clear hpv
    go_enter Tryz.func23, Tryz.ntmps23
    go_wp2_with fail
    refine (isProblem_i W A B n c q cb rows hs P _ HR.out HL.out HP.out hq HM.out).mono ?_
    rw [HPV.out]
    rintro e w1 ⟨rfl, hb1⟩
    go_wp2_with fail
    go_ret
    exact ⟨by rw [HV.out]; rfl, bel_trans hbw0 hb1⟩
  | true =>
    have HPV := Lib.hid hpv
    have hvr : isReg W rows = true := by simp only [Bool.and_eq_true] at hpv; exact hpv.1
    have hpc : pcs P = true := by simp only [Bool.and_eq_true] at hpv; exact hpv.2
    have HVR := Lib.hid hvr
    have HPC := Lib.hid hpc
    have hV : scatV W rows P x = (okMask2 W rows x && scatL (allV W rows P) x.toNat) := by unfold scatV okMask2 inM; rw [hpv, Bool.true_and]
    have HV := Lib.hid hV
    have hLm := allV_msk W rows P
    have hLl := allV_len W rows P
    have hp5 := (pcs_at hpc).1
    have hm36 := maskV_62b hvr
    have HB1 : Hid (∀ {w1 : World}, Below (w.alloc (.cells #[.int .i64 W, .slice A n c] 29)).heap.size (w.alloc (.cells #[.int .i64 W, .slice A n c] 29)) w1 → w1.cell? ⟨w.heap.size, 0, none⟩ = some (.int .i64 W) ∧ w1.cell? ⟨w.heap.size, 1, none⟩ = some (.slice A n c) ∧ w.heap.size < w1.heap.size) := fun h => by
      have hB := HB0.out.below h
      exact ⟨by simpa using hB.cell 0, by simpa using hB.cell 1, hB.lt⟩
    cases hok : okMask2 W rows x with
    | false =>
      have HV2 : Hid (scatV W rows P x = false) := by show _ = _; rw [hV, hok]; rfl
      have HOK := Lib.hid hok
      clear hpv hvr hpc hV hLm hLl hp5 hok hm36
      go_enter Tryz.func23, Tryz.ntmps23
      go_wp2_with fail
      refine (isProblem_i W A B n c q cb rows hs P _ HR.out HL.out HP.out hq HM.out).mono ?_
      rw [HPV.out]
      rintro e w1 ⟨rfl, hb1⟩
      obtain ⟨b0, b1, bl⟩ := HB1.out hb1
      go_wp2_with fail
      refine (isMaskP_i W A n c rows x _ (HR.out.below hb1) HL.out HVR.out HX63.out).mono ?_
      rw [HOK.out]
      rintro e w2 ⟨rfl, hb2⟩
      go_wp2_with fail
      go_ret
      exact ⟨by rw [HV2.out]; rfl, bel_trans hbw0 (bel_trans hb1 hb2)⟩
    | true =>
      have hx0 : 0 ≤ x ∧ inM x.toNat (maskV W rows) = true := by unfold okMask2 at hok; simpa using hok
      obtain ⟨k, rfl⟩ := Int.eq_ofNat_of_zero_le hx0.1
      have hk36 : k < 2 ^ 36 := inM_lt hx0.2 hm36
      have hk62 : k < 2 ^ 62 := by omega
      have HK := Lib.hid hk62
      have HV2 : Hid (scatV W rows P (k : Int) = scatL (allV W rows P) k) := by show _ = _; rw [hV, hok, Bool.true_and, Int.toNat_natCast]
      obtain ⟨L, hL⟩ : ∃ L, allV W rows P = L := ⟨_, rfl⟩
      rw [hL] at HV2 hLm hLl
      have HLE := Lib.hid hL
      have HLM := Lib.hid hLm
      have hL5 : L.length ≤ 1440 := by omega
      have HL5 := Lib.hid hL5
      have HOK := Lib.hid hok
      clear hpv hvr hpc hV hLm hLl hp5 hok hm36 hx0 hk36 hk62 hL hL5
      go_enter Tryz.func23, Tryz.ntmps23
      go_wp2_with fail
      refine (isProblem_i W A B n c q cb rows hs P _ HR.out HL.out HP.out hq HM.out).mono ?_
      rw [HPV.out]
      rintro e w1 ⟨rfl, hb1⟩
      obtain ⟨b0, b1, bl⟩ := HB1.out hb1
      go_wp2_with fail
      refine (isMaskP_i W A n c rows (k : Int) _ (HR.out.below hb1) HL.out HVR.out HX63.out).mono ?_
      rw [HOK.out]
      rintro e w2 ⟨rfl, hb2⟩
      have hb12 := bel_trans hb1 hb2
      obtain ⟨d0, d1, dl⟩ := HB1.out hb12
      clear b0 b1 bl
      go_wp2_with fail
      refine (all_i W A B n c q cb rows hs P _ (HR.out.below hb12) HL.out HVR.out (HP.out.below hb12) HPC.out).mono ?_
      rw [HLE.out]
      rintro e w3 ⟨E, q3, c3, rfl, hO, hb3⟩
      have hq3 : L.length = q3 := by have := own_len hO; rw [vI_length] at this; omega
      have HQ3 := Lib.hid hq3
      have HRE := Lib.hid (Rd.of_own hO)
      have hq4 : q3 ≤ 1048576 := by have := HL5.out; omega
      clear hO hq3
      go_wp2_with fail
      refine (scattered_i E q3 c3 L k _ HRE.out HQ3.out hq4 HLM.out HK.out).mono ?_
      rintro e w4 ⟨rfl, hb4⟩
      go_wp2_with fail
      go_ret
      exact ⟨by rw [HV2.out]; simp, bel_trans hbw0 (bel_trans hb12 (bel_trans hb3 hb4))⟩
set_option maxRecDepth 100000 in
set_option maxHeartbeats 3200000 in
theorem IsScattered_s (W : Int) (A B : Option Addr) (n c q cb : Nat) (rows : List Int) (x : Int) (hs : List H) (P : List (List C)) (w : World) (hr : Rd w A (vI rows)) (hl : rows.length = n) (hp : RdP w B q hs P) (hq : q ≤ 1048576) (hm : totC P ≤ 1048576) (hx : x < 9223372036854775808) :
    Calls Tryz.prog 22 #[.agg #[.int .i64 W, .slice A n c], .slice B q cb, .int .i64 x] w (Ret w (.bool (scatV W rows P x))) := by
  have HL := Lib.hid hl
  have HR := Lib.hid (hr.alloc (.cells #[.int .i64 W, .slice A n c] 29))
  have HP := Lib.hid (hp.alloc (.cells #[.int .i64 W, .slice A n c] 29))
  have HB0 := Lib.hid (Blk.new w 29 #[.int .i64 W, .slice A n c])
  have HM := Lib.hid hm
  have HX63 := Lib.hid hx
  have HPF := Lib.hid hp.flen
  have hbw0 : Below w.heap.size w (w.alloc (.cells #[.int .i64 W, .slice A n c] 29)) := bel_alloc (Below.refl _ _) _
  clear hl hr hp hm hx
  have HB1 : Hid (∀ {w1 : World}, Below (w.alloc (.cells #[.int .i64 W, .slice A n c] 29)).heap.size (w.alloc (.cells #[.int .i64 W, .slice A n c] 29)) w1 → w1.cell? ⟨w.heap.size, 0, none⟩ = some (.int .i64 W) ∧ w1.cell? ⟨w.heap.size, 1, none⟩ = some (.slice A n c) ∧ w.heap.size < w1.heap.size) := fun h => by
    have hB := HB0.out.below h
    exact ⟨by simpa using hB.cell 0, by simpa using hB.cell 1, hB.lt⟩
  cases hvr : isReg W rows with
  | false =>
    have HV : Hid (scatV W rows P x = false) := by show scatV W rows P x = false; unfold scatV; rw [hvr]; rfl
    have HVR := Lib.hid hvr
    clear hvr
    go_enter Tryz.func22, Tryz.ntmps22
    go_wp2_with fail
    refine (IsRegion_s _ _ _ _ rows _ HR.out HL.out).mono ?_
    rw [HVR.out]
    rintro e w1 ⟨rfl, hb1⟩
    go_wp2_with fail
    go_ret
    exact ⟨by rw [HV.out]; rfl, bel_trans hbw0 hb1⟩
  | true =>
    have HVR := Lib.hid hvr
    cases hpc : pcs P with
    | false =>
      have HV : Hid (scatV W rows P x = false) := by show scatV W rows P x = false; unfold scatV; rw [hpc, Bool.and_false]; rfl
      have HPC := Lib.hid hpc
      clear hvr hpc
      go_enter Tryz.func22, Tryz.ntmps22
      go_wp2_with fail
      refine (IsRegion_s _ _ _ _ rows _ HR.out HL.out).mono ?_
      rw [HVR.out]
      rintro e w1 ⟨rfl, hb1⟩
      go_wp2_with fail
      refine (ArePieces_s B q cb hs P _ (HP.out.below hb1) hq HM.out).mono ?_
      rw [HPC.out]
      rintro e w2 ⟨rfl, hb2⟩
      go_wp2_with fail
      go_ret
      exact ⟨by rw [HV.out]; rfl, bel_trans hbw0 (bel_trans hb1 hb2)⟩
    | true =>
      have HPC := Lib.hid hpc
      have hV : scatV W rows P x = (okMask2 W rows x && scatL (allV W rows P) x.toNat) := by unfold scatV okMask2 inM; rw [hvr, hpc]; rfl
      have hLm := allV_msk W rows P
      have hLl := allV_len W rows P
      have hp5 := (pcs_at hpc).1
      have hm36 := maskV_62b hvr
      by_cases hx0 : x < 0
      · have HV2 : Hid (scatV W rows P x = false) := by show _ = _; rw [hV]; unfold okMask2; rw [decide_eq_false (by omega)]; rfl
        clear hvr hpc hV hLm hLl hp5 hm36
        go_enter Tryz.func22, Tryz.ntmps22
        go_wp2_with fail
        refine (IsRegion_s _ _ _ _ rows _ HR.out HL.out).mono ?_
        rw [HVR.out]
        rintro e w1 ⟨rfl, hb1⟩
        go_wp2_with fail
        refine (ArePieces_s B q cb hs P _ (HP.out.below hb1) hq HM.out).mono ?_
        rw [HPC.out]
        rintro e w2 ⟨rfl, hb2⟩
        go_wp2_with fail
        go_ret
        exact ⟨by rw [HV2.out]; rfl, bel_trans hbw0 (bel_trans hb1 hb2)⟩
      · obtain ⟨k, rfl⟩ := Int.eq_ofNat_of_zero_le (by omega : 0 ≤ x)
        obtain ⟨mv, hmv⟩ : ∃ mv, maskV W rows = mv := ⟨_, rfl⟩
        rw [hmv] at hm36
        obtain ⟨z, hz⟩ : ∃ z, k &&& mv = z := ⟨_, rfl⟩
        have hk63 : k < 2 ^ 63 := by have := HX63.out; omega
        have hand : bits .and .i64 (k : Int) (mv : Int) = (z : Int) := by rw [i64_and k mv (by omega) (by omega), hz]
        have HMV := Lib.hid hmv
        have hokz : okMask2 W rows (k : Int) = (z == k) := by unfold okMask2 inM; rw [hmv, Int.toNat_natCast, hz, decide_eq_true (by omega), Bool.true_and]
        have HAND := Lib.hid hand
        by_cases hzk : z = k
        · have hk36 : k < 2 ^ 36 := by rw [← hzk, ← hz]; exact Nat.lt_of_le_of_lt Nat.and_le_right hm36
          have hk62 : k < 2 ^ 62 := by omega
          have HK := Lib.hid hk62
          have HV2 : Hid (scatV W rows P (k : Int) = scatL (allV W rows P) k) := by show _ = _; rw [hV, hokz, hzk]; simp
          obtain ⟨L, hL⟩ : ∃ L, allV W rows P = L := ⟨_, rfl⟩
          rw [hL] at HV2 hLm hLl
          have HLE := Lib.hid hL
          have HLM := Lib.hid hLm
          have hL5 : L.length ≤ 1440 := by omega
          have HL5 := Lib.hid hL5
          have hzt : ((k : Int) != (k : Int)) = false := by simp
          have HZT := Lib.hid hzt
          have hand3 : bits .and .i64 (k : Int) (mv : Int) = (k : Int) := by rw [hand, hzk]
          have HAND3 := Lib.hid hand3
          clear HAND hand3
          clear hvr hpc hV hLm hLl hp5 hm36 hmv hz hk63 hokz hzk hk36 hk62 hL hL5 hzt hand
          go_enter Tryz.func22, Tryz.ntmps22
          go_wp2_with fail
          refine (IsRegion_s _ _ _ _ rows _ HR.out HL.out).mono ?_
          rw [HVR.out]
          rintro e w1 ⟨rfl, hb1⟩
          go_wp2_with fail
          refine (ArePieces_s B q cb hs P _ (HP.out.below hb1) hq HM.out).mono ?_
          rw [HPC.out]
          rintro e w2 ⟨rfl, hb2⟩
          have hb12 := bel_trans hb1 hb2
          obtain ⟨b0, b1, bl⟩ := HB1.out hb12
          go_wp2_with fail
          refine (MaskOf_s W A n c rows _ (HR.out.below hb12) HL.out).mono ?_
          rw [HMV.out]
          rintro e w3 ⟨rfl, hb3⟩
          have hb13 := bel_trans hb12 hb3
          obtain ⟨d0, d1, dl⟩ := HB1.out hb13
          have hand := HAND3.out
          have hz9 : decide ((k : Int) < 0) = false := by simp
          clear b0 b1 bl
          go_wp2_with fail
          refine (AllPlacements_s W A B n c q cb rows hs P _ (HR.out.below hb13) HL.out HVR.out (HP.out.below hb13) HPC.out).mono ?_
          rw [HLE.out]
          rintro e w4 ⟨gE, q3, c3, rfl, hO, hb4⟩
          have hq3 : L.length = q3 := by have := own_len hO; rw [vI_length] at this; omega
          have HQ3 := Lib.hid hq3
          have HRE := Lib.hid (Rd.of_own hO)
          have hq4 : q3 ≤ 1048576 := by have := HL5.out; omega
          clear hO hq3
          go_wp2_with fail
          refine (l21Apart_s _ q3 c3 L k _ HRE.out HQ3.out hq4 HLM.out HK.out).mono ?_
          rintro e w5 ⟨rfl, hb5⟩
          go_wp2_with fail
          go_ret
          exact ⟨by rw [HV2.out]; rfl, bel_trans hbw0 (bel_trans hb13 (bel_trans hb4 hb5))⟩
        · have HV2 : Hid (scatV W rows P (k : Int) = false) := by show _ = _; rw [hV, hokz, show (z == k) = false from by simpa using hzk]; rfl
          have hzt : ((z : Int) != (k : Int)) = true := by simp; omega
          have HZT := Lib.hid hzt
          clear hvr hpc hV hLm hLl hp5 hm36 hmv hz hk63 hokz hzk hzt hand
          go_enter Tryz.func22, Tryz.ntmps22
          go_wp2_with fail
          refine (IsRegion_s _ _ _ _ rows _ HR.out HL.out).mono ?_
          rw [HVR.out]
          rintro e w1 ⟨rfl, hb1⟩
          go_wp2_with fail
          refine (ArePieces_s B q cb hs P _ (HP.out.below hb1) hq HM.out).mono ?_
          rw [HPC.out]
          rintro e w2 ⟨rfl, hb2⟩
          have hb12 := bel_trans hb1 hb2
          obtain ⟨b0, b1, bl⟩ := HB1.out hb12
          go_wp2_with fail
          refine (MaskOf_s W A n c rows _ (HR.out.below hb12) HL.out).mono ?_
          rw [HMV.out]
          rintro e w3 ⟨rfl, hb3⟩
          have hand := HAND.out
          have hzt := HZT.out
          clear b0 b1 bl
          go_wp2_with fail
          go_ret
          exact ⟨by rw [HV2.out]; rfl, bel_trans hbw0 (bel_trans hb12 hb3)⟩
end Go.Proofs.YteelmhmdnljjnaaGreat

/- Most scattered cells: the program's walk. -/
namespace Go.Proofs.YteelmhmdnljjnaaGreat
open Go.RowKit
set_option linter.unusedVariables false
attribute [local go_sem ↓] Go.wp_at_zero Go.wp_at_succ

set_option maxHeartbeats 1600000 in
theorem LargestScattered_i (W : Int) (A B : Option Addr) (n c q cb : Nat) (rows : List Int) (hs : List H) (P : List (List C)) (w : World) (hr : Rd w A (vI rows)) (hl : rows.length = n) (hp : RdP w B q hs P) (hq : q ≤ 1048576) (hm : totC P ≤ 1048576) :
    Calls Tryz.prog 25 #[.agg #[.int .i64 W, .slice A n c], .slice B q cb] w (Ret w (.tuple #[.int .i64 (lsV W rows P : Nat), .bool (smallV W rows P)])) := by
  have HL := Lib.hid hl
  have HR := Lib.hid (hr.alloc (.cells #[.int .i64 W, .slice A n c] 29))
  have HP := Lib.hid (hp.alloc (.cells #[.int .i64 W, .slice A n c] 29))
  have HB0 := Lib.hid (Blk.new w 29 #[.int .i64 W, .slice A n c])
  have HM := Lib.hid hm
  have hbw0 : Below w.heap.size w (w.alloc (.cells #[.int .i64 W, .slice A n c] 29)) := bel_alloc (Below.refl _ _) _
  clear hl hr hp hm
  have HB1 : Hid (∀ {w1 : World}, Below (w.alloc (.cells #[.int .i64 W, .slice A n c] 29)).heap.size (w.alloc (.cells #[.int .i64 W, .slice A n c] 29)) w1 → w1.cell? ⟨w.heap.size, 0, none⟩ = some (.int .i64 W) ∧ w1.cell? ⟨w.heap.size, 1, none⟩ = some (.slice A n c) ∧ w.heap.size < w1.heap.size) := fun h => by
    have hB := HB0.out.below h
    exact ⟨by simpa using hB.cell 0, by simpa using hB.cell 1, hB.lt⟩
  cases hsm : smallV W rows P with
  | false =>
    have HV : Hid (lsV W rows P = 0) := by show _ = _; unfold lsV; rw [hsm]; rfl
    have HS := Lib.hid hsm
    clear hsm
    go_enter Tryz.func25, Tryz.ntmps25
    go_wp2_with fail
    refine (isSmall_i W A B n c q cb rows hs P _ HR.out HL.out HP.out hq HM.out).mono ?_
    rw [HS.out]
    rintro e w1 ⟨rfl, hb1⟩
    go_wp2_with fail
    go_ret2
    exact ⟨by rw [HV.out]; rfl, bel_trans hbw0 hb1⟩
  | true =>
    have hvp : isReg W rows = true ∧ pcs P = true := by unfold smallV at hsm; simp only [Bool.and_eq_true] at hsm; exact hsm.1
    have hvr := hvp.1
    have hpc := hvp.2
    have hV : lsV W rows P = lsTo (allV W rows P) (subTo (maskV W rows) 36) (subTo (maskV W rows) 36).length := by unfold lsV; rw [if_pos hsm]
    have hLm := allV_msk W rows P
    have hLl := allV_len W rows P
    have hp5 := (pcs_at hpc).1
    have hm36 := maskV_62b hvr
    obtain ⟨L, hL⟩ : ∃ L, allV W rows P = L := ⟨_, rfl⟩
    obtain ⟨mk, hmk⟩ : ∃ mk, maskV W rows = mk := ⟨_, rfl⟩
    obtain ⟨M, hM⟩ : ∃ M, subTo mk 36 = M := ⟨_, rfl⟩
    rw [hL, hmk, hM] at hV
    rw [hL] at hLm hLl
    rw [hmk] at hm36
    have hMlt : ∀ x ∈ M, x < 2 ^ 36 := by rw [← hM]; exact subTo_lt mk 36
    have hMl : M.length ≤ 2 ^ 36 := by rw [← hM]; exact sub_len_le mk (Nat.le_refl _)
    have hL5 : L.length ≤ 1440 := by omega
    have HV := Lib.hid hV
    have HS := Lib.hid hsm
    have HVR := Lib.hid hvr
    have HPC := Lib.hid hpc
    have HLE := Lib.hid hL
    have HMK := Lib.hid hmk
    have HME := Lib.hid hM
    have HLM := Lib.hid hLm
    have HL5 := Lib.hid hL5
    have HMLT := Lib.hid hMlt
    have HML := Lib.hid hMl
    have HMK36 := Lib.hid hm36
    clear hsm hvp hvr hpc hV hLm hLl hp5 hm36 hL hmk hM hMlt hMl hL5
    go_enter Tryz.func25, Tryz.ntmps25
    go_wp2_with fail
    refine (isSmall_i W A B n c q cb rows hs P _ HR.out HL.out HP.out hq HM.out).mono ?_
    rw [HS.out]
    rintro e w1 ⟨rfl, hb1⟩
    obtain ⟨b0, b1, bl⟩ := HB1.out hb1
    go_wp2_with fail
    refine (all_i W A B n c q cb rows hs P _ (HR.out.below hb1) HL.out HVR.out (HP.out.below hb1) HPC.out).mono ?_
    rw [HLE.out]
    rintro e w2 ⟨E, q3, c3, rfl, hO, hb2⟩
    have hq3 : L.length = q3 := by have := own_len hO; rw [vI_length] at this; omega
    have HQ3 := Lib.hid hq3
    have HRE := Lib.hid (Rd.of_own hO)
    have hq4 : q3 ≤ 1048576 := by have := HL5.out; omega
    have hb12 := bel_trans hb1 hb2
    clear hO hq3 b0 b1 bl
    obtain ⟨b0, b1, bl⟩ := HB1.out hb12
    go_wp2_with fail
    refine (mask_i W A n c rows _ (HR.out.below hb12) HL.out HVR.out).mono ?_
    rw [HMK.out]
    rintro e w3 ⟨rfl, hb3⟩
    clear b0 b1 bl
    go_wp2_with fail
    refine (subsets_i mk _ HMK36.out).mono ?_
    rw [HME.out]
    rintro e w4 ⟨D, u, cd, rfl, hRD, hlD, hb4⟩
    have hMu : M.length = u := by rw [sI_len] at hlD; exact hlD
    have HMU := Lib.hid hMu
    have HRD := Lib.hid hRD
    have HRE4 := Lib.hid ((HRE.out.below hb3).below hb4)
    have hbw := bel_trans hbw0 (bel_trans hb12 (bel_trans hb3 hb4))
    have hu36 : u ≤ 2 ^ 36 := by rw [← hMu]; exact HML.out
    clear hRD hlD hMu hb3 hb4 hb12 hb1 hb2
    go_wp2_with fail
    go_loopw [21, 7] (fun e21 e7 wr => ∃ i b : Nat, i ≤ u ∧ e21 = .int .i64 i ∧ e7 = .int .i64 (b : Int) ∧ b = lsTo L M i ∧ Below w4.heap.size w4 wr) (fun e21 _ _ => u - (intOf e21).toNat)
    case atStart => exact ⟨0, 0, Nat.zero_le _, rfl, rfl, rfl, Below.refl _ _⟩
    case round =>
      obtain ⟨i, b, hi, rfl, rfl, hbe, hb⟩ := hrel
      by_cases hlt : i < u
      · have hiM : i < M.length := by rw [HMU.out]; exact hlt
        have hkl : i < (sI M).length := by rw [sI_len]; exact hiM
        have hi0 : (0 : Int) ≤ (i : Int) := by omega
        have hi1 : (i : Int) < (u : Int) := by omega
        obtain ⟨g, off, hA, hg, d1⟩ := RdI.at_ (HRD.out.below hb) hkl
        obtain ⟨x, hx⟩ : ∃ x, M[i] = x := ⟨_, rfl⟩
        have hxI : (sI M)[i] = (x : Int) := by rw [← hx]; simp [sI]
        rw [hxI] at d1
        have hx36 : x < 2 ^ 36 := by rw [← hx]; exact HMLT.out _ (List.getElem_mem hiM)
        have hb36 : b < 2 ^ 36 := by rw [hbe]; exact lsTo_in L M 36 HMLT.out i (by omega)
        have hst := lsTo_succ L M hiM
        rw [hx, ← hbe] at hst
        have hx62 : x < 2 ^ 62 := by omega
        have hb62 : b < 2 ^ 62 := by omega
        have hcx : IntKind.u64.wrap (x : Int) = (x : Int) := wraps_u64 _ (by omega) (by omega)
        have hcb : IntKind.u64.wrap (b : Int) = (b : Int) := wraps_u64 _ (by omega) (by omega)
        obtain ⟨px, hpx⟩ : ∃ px, pop x = px := ⟨_, rfl⟩
        obtain ⟨pb, hpb⟩ : ∃ pb, pop b = pb := ⟨_, rfl⟩
        unfold lsStep at hst
        rw [hpx, hpb] at hst
        have HPX := Lib.hid hpx
        have HPB := Lib.hid hpb
        have HX62 := Lib.hid hx62
        have HB62 := Lib.hid hb62
        subst hA
        clear hx hxI hpx hpb hbe hx62 hb62
        by_cases hgt : pb < px
        · have hgtI : (px : Int) > (pb : Int) := by omega
          rw [decide_eq_true hgt, Bool.true_and] at hst
          cases hsc : scatL L x with
          | true =>
            rw [hsc] at hst
            have HST := Lib.hid hst
            have HSC := Lib.hid hsc
            clear hst hsc
            go_wp2_with fail
            refine (OnesCount_l x _ HX62.out).mono ?_
            rw [HPX.out]
            rintro e w5 ⟨rfl, hb5⟩
            go_wp2_with fail
            refine (OnesCount_l b _ HB62.out).mono ?_
            rw [HPB.out]
            rintro e w6 ⟨rfl, hb6⟩
            have hb16 := bel_trans hb (bel_trans hb5 hb6)
            go_wp2_with fail
            refine (scattered_i E q3 c3 L x _ (HRE4.out.below hb16) HQ3.out hq4 HLM.out HX62.out).mono ?_
            rw [HSC.out]
            rintro e w7 ⟨rfl, hb7⟩
            go_wp2_with fail
            exact ⟨⟨i + 1, x, by omega, by go_num, rfl, HST.out.symm, bel_trans hb16 hb7⟩, by simp [intOf]; omega⟩
          | false =>
            rw [hsc] at hst
            have HST := Lib.hid hst
            have HSC := Lib.hid hsc
            clear hst hsc
            go_wp2_with fail
            refine (OnesCount_l x _ HX62.out).mono ?_
            rw [HPX.out]
            rintro e w5 ⟨rfl, hb5⟩
            go_wp2_with fail
            refine (OnesCount_l b _ HB62.out).mono ?_
            rw [HPB.out]
            rintro e w6 ⟨rfl, hb6⟩
            have hb16 := bel_trans hb (bel_trans hb5 hb6)
            go_wp2_with fail
            refine (scattered_i E q3 c3 L x _ (HRE4.out.below hb16) HQ3.out hq4 HLM.out HX62.out).mono ?_
            rw [HSC.out]
            rintro e w7 ⟨rfl, hb7⟩
            go_wp2_with fail
            exact ⟨⟨i + 1, b, by omega, by go_num, rfl, HST.out.symm, bel_trans hb16 hb7⟩, by simp [intOf]; omega⟩
        · have hgtI : ¬ (px : Int) > (pb : Int) := by omega
          rw [decide_eq_false hgt, Bool.false_and] at hst
          have HST := Lib.hid hst
          clear hst
          go_wp2_with fail
          refine (OnesCount_l x _ HX62.out).mono ?_
          rw [HPX.out]
          rintro e w5 ⟨rfl, hb5⟩
          go_wp2_with fail
          refine (OnesCount_l b _ HB62.out).mono ?_
          rw [HPB.out]
          rintro e w6 ⟨rfl, hb6⟩
          have hb16 := bel_trans hb (bel_trans hb5 hb6)
          go_wp2_with fail
          exact ⟨⟨i + 1, b, by omega, by go_num, rfl, HST.out.symm, hb16⟩, by simp [intOf]; omega⟩
      · obtain rfl : i = u := by omega
        have hi1 : ¬ (i : Int) < (i : Int) := by omega
        have hfin : lsV W rows P = b := by rw [HV.out, HMU.out, hbe]
        have HF := Lib.hid hfin
        clear hbe hfin
        go_wp2_with fail
        go_ret2
        exact ⟨by rw [HF.out]; rfl, bel_trans hbw hb⟩
end Go.Proofs.YteelmhmdnljjnaaGreat

/- Most scattered cells: the reference's walk. -/
namespace Go.Proofs.YteelmhmdnljjnaaGreat
open Go.RowKit
set_option linter.unusedVariables false
attribute [local go_sem ↓] Go.wp_at_zero Go.wp_at_succ

theorem mTo_mono (ps : List Nat) (code j : Nat) : ∀ d, mTo ps code j ≤ mTo ps code (j + d)
  | 0 => Nat.le_refl _
  | d + 1 => by
    have := mTo_mono ps code j d
    show _ ≤ mTo ps code (j + d) + _
    omega
theorem popN_snoc (n x : Nat) : popN (n + 1) x = popN n x + (if x.testBit n then 1 else 0) := by
  unfold popN
  rw [List.range_succ, List.countP_append, List.countP_singleton]
theorem popN_le (n x : Nat) : popN n x ≤ n := by unfold popN; have h := List.countP_le_length (p := fun i => x.testBit i) (l := List.range n); simpa using h
set_option maxRecDepth 100000 in
set_option maxHeartbeats 3200000 in
theorem LargestScattered_s (W : Int) (A B : Option Addr) (n c q cb : Nat) (rows : List Int) (hs : List H) (P : List (List C)) (w : World) (hr : Rd w A (vI rows)) (hl : rows.length = n) (hp : RdP w B q hs P) (hq : q ≤ 1048576) (hm : totC P ≤ 1048576) :
    Calls Tryz.prog 24 #[.agg #[.int .i64 W, .slice A n c], .slice B q cb] w (Ret w (.tuple #[.int .i64 (lsV W rows P : Nat), .bool (smallV W rows P)])) := by
  have HL := Lib.hid hl
  have HR := Lib.hid (hr.alloc (.cells #[.int .i64 W, .slice A n c] 29))
  have HP := Lib.hid (hp.alloc (.cells #[.int .i64 W, .slice A n c] 29))
  have HB0 := Lib.hid (Blk.new w 29 #[.int .i64 W, .slice A n c])
  have HM := Lib.hid hm
  have hbw0 : Below w.heap.size w (w.alloc (.cells #[.int .i64 W, .slice A n c] 29)) := bel_alloc (Below.refl _ _) _
  clear hl hr hp hm
  have HB1 : Hid (∀ {w1 : World}, Below (w.alloc (.cells #[.int .i64 W, .slice A n c] 29)).heap.size (w.alloc (.cells #[.int .i64 W, .slice A n c] 29)) w1 → w1.cell? ⟨w.heap.size, 0, none⟩ = some (.int .i64 W) ∧ w1.cell? ⟨w.heap.size, 1, none⟩ = some (.slice A n c) ∧ w.heap.size < w1.heap.size) := fun h => by
    have hB := HB0.out.below h
    exact ⟨by simpa using hB.cell 0, by simpa using hB.cell 1, hB.lt⟩
  cases hsm : smallV W rows P with
  | false =>
    have HV : Hid (lsV W rows P = 0) := by show _ = _; unfold lsV; rw [hsm]; rfl
    have HS := Lib.hid hsm
    clear hsm
    go_enter Tryz.func24, Tryz.ntmps24
    go_wp2_with fail
    refine (l20Fine_s W A B n c q cb rows hs P _ HR.out HL.out HP.out hq HM.out).mono ?_
    rw [HS.out]
    rintro e w1 ⟨rfl, hb1⟩
    go_wp2_with fail
    go_ret2
    exact ⟨by rw [HV.out]; rfl, bel_trans hbw0 hb1⟩
  | true =>
    have hsm2 := hsm
    unfold smallV at hsm2
    simp only [Bool.and_eq_true, decide_eq_true_eq] at hsm2
    have hvr := hsm2.1.1
    have hpc := hsm2.1.2
    have ha12 := hsm2.2
    have hV : lsV W rows P = lsTo (allV W rows P) (subTo (maskV W rows) 36) (subTo (maskV W rows) 36).length := by unfold lsV; rw [if_pos hsm]
    have hLm := allV_msk W rows P
    have hLl := allV_len W rows P
    have hp5 := (pcs_at hpc).1
    have hcb := (cells_bits hvr).1
    have hcin := cells_in (W := W) (rows := rows)
    have hcl : (cellsC W rows).length ≤ 12 := by unfold areaV at ha12; rw [if_pos hvr] at ha12; omega
    have HVR := Lib.hid hvr
    obtain ⟨m, rfl, hm1, hm6, hn1, hn6, hrow⟩ := isReg_yes hvr
    have h36 : m * rows.length ≤ 6 * 6 := Nat.mul_le_mul hm6 hn6
    rw [Int.toNat_natCast] at hcb
    obtain ⟨L, hL⟩ : ∃ L, allV (m : Int) rows P = L := ⟨_, rfl⟩
    obtain ⟨mk, hmk⟩ : ∃ mk, maskV (m : Int) rows = mk := ⟨_, rfl⟩
    obtain ⟨cs, hcs⟩ : ∃ cs, cellsC (m : Int) rows = cs := ⟨_, rfl⟩
    rw [hcs] at hcb hcl hcin
    rw [hL, hmk] at hV
    rw [hL] at hLm hLl
    rw [hmk] at hcb
    have hcode := sub_code mk 36 (Nat.le_refl _)
    have hMl := subTo_len mk 36
    have hMlt := subTo_lt mk 36
    obtain ⟨M, hM⟩ : ∃ M, subTo mk 36 = M := ⟨_, rfl⟩
    obtain ⟨ps, hps⟩ : ∃ ps, bitsL mk 36 = ps := ⟨_, rfl⟩
    obtain ⟨k, hk⟩ : ∃ k, cs.length = k := ⟨_, rfl⟩
    rw [hM] at hV hcode hMl hMlt
    rw [hps] at hcb hcode hMl
    have hpk : ps.length = k := by rw [← hcb, List.length_map, hk]
    rw [hpk] at hcode hMl
    have hgd : ∀ i (hi : i < cs.length), ps.getD i 0 = posM m cs[i] := fun i hi => by
      rw [← hcb, List.getD_eq_getElem?_getD, List.getElem?_map, List.getElem?_eq_getElem hi]; rfl
    obtain ⟨T, hT⟩ : ∃ T : Nat, 2 ^ k = T := ⟨_, rfl⟩
    have hTI : (2 : Int) ^ k = (T : Int) := by rw [← hT]; simp
    have hk12 : k ≤ 12 := by omega
    have hT12 : T ≤ 2 ^ 12 := by rw [← hT]; exact Nat.pow_le_pow_right (by decide) hk12
    rw [hT] at hcode hMl
    have hL5 : L.length ≤ 1440 := by omega
    have HV := Lib.hid hV
    have HS := Lib.hid hsm
    have HPC := Lib.hid hpc
    have HLE := Lib.hid hL
    have HLM := Lib.hid hLm
    have HL5 := Lib.hid hL5
    have HCS := Lib.hid hcs
    have HCIN := Lib.hid hcin
    have HCODE := Lib.hid hcode
    have HML := Lib.hid hMl
    have HMLT := Lib.hid hMlt
    have HGD := Lib.hid hgd
    have HK := Lib.hid hk
    have H36 : Hid (m * rows.length ≤ 36) := h36
    have hk0 : (0 : Int) ≤ (k : Int) := by omega
    have hk64 : (k : Int) ≤ 64 := by omega
    have ek : IntKind.i64.wrap (k : Int) = (k : Int) := Go.IntWalk.i64_in _ (by omega)
    have eT : IntKind.i64.wrap (T : Int) = (T : Int) := Go.IntWalk.i64_in _ (by omega)
    clear hsm hsm2 hvr hpc hV hLm hLl hp5 hL hmk hM hMlt hMl hL5 hcb hcin hcl hcode hps hpk hgd hT hrow h36 hcs hk ha12
    go_enter Tryz.func24, Tryz.ntmps24
    go_wp2_with fail
    refine (l20Fine_s (m : Int) A B n c q cb rows hs P _ HR.out HL.out HP.out hq HM.out).mono ?_
    rw [HS.out]
    rintro e w1 ⟨rfl, hb1⟩
    obtain ⟨b0, b1, bl⟩ := HB1.out hb1
    go_wp2_with fail
    refine (AllPlacements_s (m : Int) A B n c q cb rows hs P _ (HR.out.below hb1) HL.out HVR.out (HP.out.below hb1) HPC.out).mono ?_
    rw [HLE.out]
    rintro e w2 ⟨gE, q3, c3, rfl, hO, hb2⟩
    have hq3 : L.length = q3 := by have := own_len hO; rw [vI_length] at this; omega
    have HQ3 := Lib.hid hq3
    have HRE := Lib.hid (Rd.of_own hO)
    have hq4 : q3 ≤ 1048576 := by have := HL5.out; omega
    have hb12 := bel_trans hb1 hb2
    clear hO hq3 b0 b1 bl
    obtain ⟨b0, b1, bl⟩ := HB1.out hb12
    go_wp2_with fail
    refine (CellsOf_s (m : Int) A n c rows _ (HR.out.below hb12) HL.out HVR.out).mono ?_
    rw [HCS.out]
    rintro e w4 ⟨D, u, cd, rfl, hO, hb4⟩
    obtain rfl : k = u := by have := own_len hO; rw [vC_length, HK.out] at this; omega
    have HRD := Lib.hid (Rd.of_own hO)
    have HRE4 := Lib.hid (HRE.out.below hb4)
    have hb14 := bel_trans hb12 hb4
    clear hO hb4 hb12 hb1 hb2 b0 b1 bl
    go_wp2_with fail
    go_loopw [10, 8, 9] (fun e10 e8 e9 wr => ∃ code b s : Nat, code ≤ T ∧ e10 = .int .i64 code ∧ e8 = .int .i64 (b : Int) ∧ e9 = .int .i64 (s : Int) ∧ b = lsTo L M code ∧ s = pop b ∧ Below w4.heap.size w4 wr) (fun e10 _ _ _ => T - (intOf e10).toNat)
    case atStart => exact ⟨0, 0, 0, Nat.zero_le _, rfl, rfl, rfl, rfl, (popN_zero 64).symm, Below.refl _ _⟩
    case round =>
      obtain ⟨code, b, s, hc, rfl, rfl, rfl, hbe, hse, hb⟩ := hrel
      have HBE := Lib.hid hbe
      have HSE := Lib.hid hse
      clear hbe hse
      by_cases hlt : code < T
      · have hi0 : (0 : Int) ≤ (code : Int) := by omega
        have hi1 : (code : Int) < (T : Int) := by omega
        obtain ⟨hco1, hco2⟩ := HCODE.out code hlt
        have hcM : code < M.length := by rw [HML.out]; exact hlt
        have hxk : M[code] = mTo ps code k := by
          rw [List.getElem?_eq_getElem hcM] at hco1
          injection hco1
        have hst := lsTo_succ L M hcM
        have hx36 : mTo ps code k < 2 ^ 36 := by rw [← hxk]; exact HMLT.out _ (List.getElem_mem hcM)
        rw [hxk, ← HBE.out] at hst
        unfold lsStep at hst
        rw [hco2, ← HSE.out] at hst
        have hmono : ∀ i, i ≤ k → mTo ps code i < 2 ^ 36 := fun i hi => by
          have h := mTo_mono ps code i (k - i)
          rw [show i + (k - i) = k by omega] at h
          omega
        have HMO := Lib.hid hmono
        have HST := Lib.hid hst
        have HCO2 := Lib.hid hco2
        have HX36 := Lib.hid hx36
        clear hco1 hco2 hxk hst hx36 hmono
        go_wp2_with fail
        go_loopw [13, 11, 12] (fun e13 e11 e12 wr2 => ∃ i v z : Nat, i ≤ k ∧ e13 = .int .i64 i ∧ e11 = .int .i64 (v : Int) ∧ e12 = .int .i64 (z : Int) ∧ v = mTo ps code i ∧ z = popN i code ∧ Below w4.heap.size w4 wr2) (fun e13 _ _ _ => k - (intOf e13).toNat)
        case atStart => exact ⟨0, 0, 0, Nat.zero_le _, rfl, rfl, rfl, rfl, by simp [popN], hb⟩
        case round =>
          clear hb
          obtain ⟨i, v, z, hi, rfl, rfl, rfl, hv, hz, hb⟩ := hrel
          have hv36 : v < 2 ^ 36 := by rw [hv]; exact HMO.out i hi
          have hz12 : z ≤ i := by rw [hz]; exact popN_le _ _
          have HVE := Lib.hid hv
          have HZE := Lib.hid hz
          clear hv hz
          by_cases hik : i < k
          · have hii0 : (0 : Int) ≤ (i : Int) := by omega
            have hii1 : (i : Int) < (k : Int) := by omega
            have hii64 : (i : Int) ≤ 64 := by omega
            have ei : IntKind.i64.wrap (i : Int) = (i : Int) := Go.IntWalk.i64_in _ (by omega)
            have hic : i < cs.length := by rw [HK.out]; exact hik
            have hbit := bit_testP code i (by omega)
            obtain ⟨d, hd⟩ : ∃ d, code / 2 ^ i = d := ⟨_, rfl⟩
            have hdI : (code : Int) / 2 ^ i = (d : Int) := by rw [← hd]; simp
            rw [hdI] at hbit
            have hst : mTo ps code (i + 1) = mTo ps code i + (if code.testBit i then 2 ^ ps.getD i 0 else 0) := rfl
            have hsn := popN_snoc i code
            rw [← HVE.out] at hst
            rw [← HZE.out] at hsn
            clear hd
            cases hbt : code.testBit i with
            | false =>
              rw [hbt] at hbit hst hsn
              simp only [Bool.false_eq_true, if_false, Nat.add_zero] at hst hsn
              have HST2 := Lib.hid hst
              have HSN := Lib.hid hsn
              clear hst hsn hbt
              go_wp2_with fail
              exact ⟨⟨i + 1, v, z, by omega, by go_num, rfl, rfl, HST2.out.symm, HSN.out.symm, hb⟩, by simp [intOf]; omega⟩
            | true =>
              rw [hbt] at hbit hst hsn
              simp only [if_true] at hst hsn
              have hh := HCIN.out _ (List.getElem_mem hic)
              have hgp := HGD.out i hic
              rw [hgp] at hst
              obtain ⟨g, off, hA, hg, d1, d2⟩ := RdC.at_ (HRD.out.below hb) hic
              obtain ⟨x, hx⟩ : ∃ x, cs[i].1 = x := ⟨_, rfl⟩
              obtain ⟨y, hy⟩ : ∃ y, cs[i].2 = y := ⟨_, rfl⟩
              rw [show cs[i] = (x, y) from Prod.ext hx hy] at hst hh
              rw [hx] at d1
              rw [hy] at d2
              obtain ⟨p, r, s', j, rfl, rfl, hpm, hsE, hj, hpos, hj36, hjl, hs36⟩ := mc_num H36.out hh (n := n)
              rw [hpos] at hst
              have hj0 : (0 : Int) ≤ (j : Int) := by omega
              have hj64 : (j : Int) ≤ 64 := by omega
              have es : IntKind.i64.wrap (s' : Int) = (s' : Int) := Go.IntWalk.i64_in _ (by omega)
              have ej : IntKind.i64.wrap (j : Int) = (j : Int) := Go.IntWalk.i64_in _ (by omega)
              have h2j : (2 : Nat) ^ j < 2 ^ 36 := Nat.pow_lt_pow_right (by decide) hj36
              obtain ⟨t, ht⟩ : ∃ t : Nat, 2 ^ j = t := ⟨_, rfl⟩
              have htI : (2 : Int) ^ j = (t : Int) := by rw [← ht]; simp
              rw [ht] at hst h2j
              have et : IntKind.i64.wrap (t : Int) = (t : Int) := Go.IntWalk.i64_in _ (by omega)
              obtain ⟨u, hu⟩ : ∃ u, u = v + t := ⟨_, rfl⟩
              have huI : (v : Int) + (t : Int) = (u : Int) := by omega
              have eu : IntKind.i64.wrap (u : Int) = (u : Int) := Go.IntWalk.i64_in _ (by omega)
              rw [← hu] at hst
              obtain ⟨b0, b1, bl⟩ := HB1.out (bel_trans hb14 hb)
              have HST2 := Lib.hid hst
              have HSN := Lib.hid hsn
              have HSP := Lib.hid hsE
              subst hA
              clear hst hsn hbt hx hy hh hgp hpos ht hu b1
              go_wp2_with fail
              (refine wp_region_below (by kernel_rfl) (by kernel_rfl) ?_; (repeat (first | go_big_quiet_skip | (refine quietV (v := ?_) (by rfl) rfl (fun w' hbw => ?_) ?_; rotate_left; ((try dsimp only at hbw); have hbc := (bcell hbw).1; have hbf := (bcell hbw).2; go_simp; first | done | with_reducible rfl | fail); simp only [List.setIfInBounds_toArray, List.set_cons_zero, List.set_cons_succ]))); refine wpQuiet_nil ?_; intro wz hbz)
              go_wp2_with fail
              exact ⟨⟨i + 1, u, z + 1, by omega, by go_num, by first | rfl | (simp <;> omega), by first | go_num | (simp <;> omega), HST2.out.symm, HSN.out.symm, bel_trans hb hbz⟩, by simp [intOf]; omega⟩
          · obtain rfl : i = k := by omega
            have hi1 : ¬ (i : Int) < (i : Int) := by omega
            have hst := HST.out
            rw [← HVE.out, ← HZE.out] at hst
            have hzp : pop v = z := by rw [HVE.out, HZE.out]; exact HCO2.out
            have HZP := Lib.hid hzp
            clear hzp
            by_cases hgt : s < z
            · have hgtI : (z : Int) > (s : Int) := by omega
              rw [decide_eq_true hgt, Bool.true_and] at hst
              cases hsc : scatL L v with
              | true =>
                rw [hsc] at hst
                have HST3 := Lib.hid hst
                have HSC := Lib.hid hsc
                clear hst hsc
                go_wp2_with fail
                refine (l21Apart_s _ q3 c3 L v _ (HRE4.out.below hb) HQ3.out hq4 HLM.out (by omega)).mono ?_
                rw [HSC.out]
                rintro e w7 ⟨rfl, hb7⟩
                go_wp2_with fail
                exact ⟨⟨code + 1, v, z, by omega, by go_num, rfl, rfl, HST3.out.symm, HZP.out.symm, bel_trans hb hb7⟩, by simp [intOf]; omega⟩
              | false =>
                rw [hsc] at hst
                have HST3 := Lib.hid hst
                have HSC := Lib.hid hsc
                clear hst hsc
                go_wp2_with fail
                refine (l21Apart_s _ q3 c3 L v _ (HRE4.out.below hb) HQ3.out hq4 HLM.out (by omega)).mono ?_
                rw [HSC.out]
                rintro e w7 ⟨rfl, hb7⟩
                go_wp2_with fail
                exact ⟨⟨code + 1, b, s, by omega, by go_num, rfl, rfl, HST3.out.symm, HSE.out, bel_trans hb hb7⟩, by simp [intOf]; omega⟩
            · have hgtI : ¬ (z : Int) > (s : Int) := by omega
              rw [decide_eq_false hgt, Bool.false_and] at hst
              have HST3 := Lib.hid hst
              clear hst
              go_wp2_with fail
              exact ⟨⟨code + 1, b, s, by omega, by go_num, rfl, rfl, HST3.out.symm, HSE.out, hb⟩, by simp [intOf]; omega⟩
      · obtain rfl : code = T := by omega
        have hi1 : ¬ (code : Int) < (code : Int) := by omega
        have hfin : lsV (m : Int) rows P = b := by rw [HV.out, HML.out, HBE.out]
        have HF := Lib.hid hfin
        clear hfin
        go_wp2_with fail
        go_ret2
        exact ⟨by rw [HF.out]; rfl, bel_trans hbw0 (bel_trans hb14 hb)⟩
end Go.Proofs.YteelmhmdnljjnaaGreat

/- The laws' own functions on integers and slices of integers: copying, comparing, marking. -/
namespace Go.Proofs.YteelmhmdnljjnaaGreat
open Go.RowKit
set_option linter.unusedVariables false
attribute [local go_sem ↓] Go.wp_at_zero Go.wp_at_succ

theorem toIntS_l (A : Option Addr) (n c : Nat) (xs : List Int) (w : World) (hr : Rd w A (vI xs)) (hl : xs.length = n) (hn : n ≤ 1048576) :
    Calls Tryz.prog 15 #[.slice A n c] w (RetS w 3 1 (vI xs)) := by
  have hmk := mk_I w n hn
  go_enter Tryz.func15, Tryz.ntmps15
  go_wp2
  go_loopw [4] (fun i wr => ∃ k : Nat, k ≤ n ∧ i = .int .i64 k ∧ Blk wr w.heap.size 3 (vI (xs.take k ++ List.replicate (xs.length - k) 0)).toArray ∧ Below w.heap.size w wr) (fun i _ => n - (intOf i).toNat)
  case atStart => exact ⟨0, Nat.zero_le _, rfl, by rw [hl]; exact Blk.new _ _ _, (by (repeat (first | with_reducible exact Below.refl _ _ | with_reducible assumption | with_reducible apply bel_alloc | with_reducible apply bel_drew | with_reducible apply bel_drewN | ((with_reducible refine bel_set ?_ ?_); rotate_left; (simp <;> omega)) | (with_reducible refine bel_trans ?_ (by with_reducible assumption)))))⟩
  case round =>
    obtain ⟨k, hk, rfl, hB, hb⟩ := hrel
    clear hmk
    by_cases hlt : k < n
    · have hkx : k < xs.length := by omega
      obtain ⟨g, off, rfl, hgn, c0⟩ := RdI.at_ hr hkx
      have c1 := keep_below hb c0
      have hgw := Nat.lt_of_lt_of_le hgn hb.size
      clear c0
      obtain ⟨x, hx⟩ : ∃ x, xs[k] = x := ⟨_, rfl⟩
      have hs := blkI_set hB k x
      rw [← hx, fill_step xs 0 k hkx, hx] at hs
      have d1 := blkI_cell hB (k := k) (by rw [fill_len _ _ _ (by omega)]; omega)
      generalize (xs.take k ++ List.replicate (xs.length - k) 0)[k]'(by rw [fill_len _ _ _ (by omega)]; omega) = z at d1
      have f1 := hB.frozen k
      rw [hx] at c1
      have HS := Lib.hid hs
      have hgl := hB.lt
      clear hs hx hB hl
      go_wp2
      exact ⟨⟨k + 1, by omega, by go_num, HS.out, (by (repeat (first | with_reducible exact Below.refl _ _ | with_reducible assumption | with_reducible apply bel_alloc | with_reducible apply bel_drew | with_reducible apply bel_drewN | ((with_reducible refine bel_set ?_ ?_); rotate_left; (simp <;> omega)) | (with_reducible refine bel_trans ?_ (by with_reducible assumption)))))⟩, by simp [intOf]; omega⟩
    · have hkk : k = n := by omega
      subst hkk
      have ho := own_blk hB (size := 1) (n := k) (by simp [vI_length, ← hl]) (Nat.le_refl _) (by unfold maxLen; omega)
      rw [← hl, fill_end] at ho
      have HO := Lib.hid ho
      have HL := Lib.hid hl
      clear ho hB hl
      go_wp2
      go_ret
      exact ⟨_, _, _, rfl, by have h := HO.out; rw [HL.out] at h; simpa using h, hb⟩

theorem eqIntS_l (A A2 : Option Addr) (n c n2 c2 : Nat) (xs ys : List Int) (w : World) (hr : Rd w A (vI xs)) (hr2 : Rd w A2 (vI ys)) (hl : xs.length = n) (hl2 : ys.length = n2) (hn : n ≤ 1099511627776) (hn2 : n2 ≤ 1099511627776) :
    Calls Tryz.prog 19 #[.slice A n c, .slice A2 n2 c2] w (Ret w (.bool (decide (xs = ys)))) := by
  by_cases hne : n = n2
  · subst hne
    have HL := Lib.hid hl
    have HL2 := Lib.hid hl2
    go_enter Tryz.func19, Tryz.ntmps19
    go_wp2
    clear hl hl2
    go_loopw [5] (fun i wr => ∃ k : Nat, k ≤ n ∧ i = .int .i64 k ∧ xs.take k = ys.take k ∧ Below w.heap.size w wr) (fun i _ => n - (intOf i).toNat)
    case atStart => exact ⟨0, Nat.zero_le _, rfl, rfl, Below.refl _ _⟩
    case round =>
      obtain ⟨k, hk, rfl, he, hb⟩ := hrel
      by_cases hlt : k < n
      · have hkx : k < xs.length := by rw [HL.out]; omega
        have hky : k < ys.length := by rw [HL2.out]; omega
        obtain ⟨g, off, rfl, hgw, c1⟩ := RdI.at_ (hr.below hb) hkx
        obtain ⟨g2, off2, rfl, hgw2, c2⟩ := RdI.at_ (hr2.below hb) hky
        have e1 := List.take_succ_eq_append_getElem hkx
        have e2 := List.take_succ_eq_append_getElem hky
        obtain ⟨x, hx⟩ : ∃ x, xs[k] = x := ⟨_, rfl⟩
        obtain ⟨y, hy⟩ : ∃ y, ys[k] = y := ⟨_, rfl⟩
        rw [hx] at c1 e1
        rw [hy] at c2 e2
        have HX := Lib.hid hx
        have HY := Lib.hid hy
        have HE := Lib.hid he
        have E1 := Lib.hid e1
        have E2 := Lib.hid e2
        have hi0 : (0 : Int) ≤ (k : Int) := by omega
        have hi1 : (k : Int) < (n : Int) := by omega
        clear e1 e2 hx hy he
        by_cases hxy : x = y
        · subst hxy
          go_wp2_with fail
          go_quiet (fail)
          go_wp2
          exact ⟨⟨k + 1, by omega, by go_num, by rw [E1.out, E2.out, HE.out], (by (repeat (first | with_reducible exact Below.refl _ _ | with_reducible assumption | with_reducible apply bel_alloc | with_reducible apply bel_drew | with_reducible apply bel_drewN | ((with_reducible refine bel_set ?_ ?_); rotate_left; (simp <;> omega)) | (with_reducible refine bel_trans ?_ (by with_reducible assumption)))))⟩, by simp [intOf]; omega⟩
        · have hd : (x == y) = false := by simpa using hxy
          have hv : decide (xs = ys) = false := by
            simp only [decide_eq_false_iff_not]
            rintro rfl
            exact hxy (HX.out.symm.trans HY.out)
          have HV := Lib.hid hv
          clear hxy hv
          go_wp2_with fail
          go_quiet (fail)
          go_wp2
          go_ret
          exact ⟨by rw [HV.out]; rfl, (by (repeat (first | with_reducible exact Below.refl _ _ | with_reducible assumption | with_reducible apply bel_alloc | with_reducible apply bel_drew | with_reducible apply bel_drewN | ((with_reducible refine bel_set ?_ ?_); rotate_left; (simp <;> omega)) | (with_reducible refine bel_trans ?_ (by with_reducible assumption)))))⟩
      · have hkk : k = n := by omega
        subst hkk
        rw [List.take_of_length_le (by rw [HL.out]; omega), List.take_of_length_le (by rw [HL2.out]; omega)] at he
        have HV : Hid (decide (xs = ys) = true) := by simpa [Hid] using he
        clear he
        go_wp2
        go_ret
        exact ⟨by rw [HV.out]; rfl, (by (repeat (first | with_reducible exact Below.refl _ _ | with_reducible assumption | with_reducible apply bel_alloc | with_reducible apply bel_drew | with_reducible apply bel_drewN | ((with_reducible refine bel_set ?_ ?_); rotate_left; (simp <;> omega)) | (with_reducible refine bel_trans ?_ (by with_reducible assumption)))))⟩
  · have hv : decide (xs = ys) = false := by
      simp only [decide_eq_false_iff_not]
      rintro rfl
      omega
    have HV := Lib.hid hv
    have hd : ((n : Int) == (n2 : Int)) = false := by simp; omega
    clear hv hl hl2
    go_enter Tryz.func19, Tryz.ntmps19
    go_wp2
    go_ret
    exact ⟨by rw [HV.out]; rfl, (by (repeat (first | with_reducible exact Below.refl _ _ | with_reducible assumption | with_reducible apply bel_alloc | with_reducible apply bel_drew | with_reducible apply bel_drewN | ((with_reducible refine bel_set ?_ ?_); rotate_left; (simp <;> omega)) | (with_reducible refine bel_trans ?_ (by with_reducible assumption)))))⟩

theorem eqIntS_t (A A2 : Option Addr) (n c n2 c2 : Nat) (xs : List Int) (w : World) (hr : Rd w A (vI xs)) (hr2 : Rd w A2 (vI xs)) (hl : xs.length = n) (hl2 : xs.length = n2) (hn : n ≤ 1099511627776) :
    Calls Tryz.prog 19 #[.slice A n c, .slice A2 n2 c2] w (Ret w (.bool true)) := by
  have h := eqIntS_l A A2 n c n2 c2 xs xs w hr hr2 hl hl2 hn (by omega)
  simpa using h

/-- What marking does: the numbers from k on, in its own block alone. -/
def MarkP (w : World) (base E sz : Nat) (A : Option Addr) (n c : Nat) (vs : List Value) (r : Int) (e : Ending) (w' : World) : Prop :=
  e = .returned (.int .i64 r) ∧ w'.ownsRow base E sz (.slice A n c) n vs ∧ w.grownBy w' (ob A)

theorem markIntS_l (A : Option Addr) (n c base : Nat) (k : Int) (xs : List Int) (w : World) (ho : w.ownsRow base 3 1 (.slice A n c) n (vI xs)) (hn : n ≤ 1099511627776) (hk0 : 0 ≤ k) (hk1 : k ≤ 1099511627776) :
    Calls Tryz.prog 63 #[.slice A n c, .int .i64 k] w (MarkP w base 3 1 A n c (vI (io k n)) (k + n)) := by
  have hl : xs.length = n := by have := own_len ho; rw [vI_length] at this; omega
  have HL := Lib.hid hl
  clear hl
  go_enter Tryz.func63, Tryz.ntmps63
  go_wp2
  go_loopw [1, 5] (fun t i wr => ∃ j : Nat, j ≤ n ∧ i = .int .i64 j ∧ t = .int .i64 (k + j) ∧ wr.ownsRow base 3 1 (.slice A n c) n (vI (io k j ++ xs.drop j)) ∧ w.grownBy wr (ob A)) (fun _ i _ => n - (intOf i).toNat)
  case atStart => exact ⟨0, Nat.zero_le _, rfl, by simp, by simpa [io] using ho, World.grownBy.refl _ _⟩
  case round =>
    obtain ⟨j, hj, rfl, rfl, hO, hg⟩ := hrel
    by_cases hlt : j < n
    · obtain ⟨g, rfl, hbg, hgw⟩ := own_at hO (by omega)
      have hjl : j < (io k j ++ xs.drop j).length := by rw [List.length_append, io_length, List.length_drop, HL.out]; omega
      have d1 := hO.cellAt j (by omega)
      rw [show (vI (io k j ++ xs.drop j))[j]? = some (.int .i64 (io k j ++ xs.drop j)[j]) from by simp only [vI, List.getElem?_map, List.getElem?_eq_getElem hjl, Option.map_some]] at d1
      generalize (io k j ++ xs.drop j)[j] = z at d1
      have f1 := hO.frozenAt j
      have hst := (hO.stored j (.int .i64 (k + j))).1
      rw [show (vI (io k j ++ xs.drop j)).set j (.int .i64 (k + j)) = vI (io k (j + 1) ++ xs.drop (j + 1)) from by rw [← mark_step k xs j (by rw [HL.out]; omega)]; simp [vI, List.map_set]] at hst
      have HS := Lib.hid hst
      have HO := Lib.hid hO
      clear hst hO
      go_wp2
      exact ⟨⟨j + 1, by omega, by go_num, by rw [show k + (j : Int) + 1 = k + ((j + 1 : Nat) : Int) from by omega], HS.out, grown_set (p := ⟨g, j, none⟩) hg rfl _⟩, by simp [intOf]; omega⟩
    · have hkk : j = n := by omega
      subst hkk
      rw [List.drop_of_length_le (by rw [HL.out]; omega), List.append_nil] at hO
      have HO := Lib.hid hO
      clear hO
      go_wp2
      go_ret
      exact ⟨rfl, HO.out, hg⟩

theorem heldIntS_l (A : Option Addr) (n c : Nat) (k : Int) (w : World) (hr : Rd w A (vI (io k n))) (hn : n ≤ 1099511627776) (hk0 : 0 ≤ k) (hk1 : k ≤ 1099511627776) :
    Calls Tryz.prog 65 #[.slice A n c, .int .i64 k] w (Ret w (.int .i64 (k + n))) := by
  go_enter Tryz.func65, Tryz.ntmps65
  go_wp2
  go_loopw [1, 5] (fun t i wr => ∃ j : Nat, j ≤ n ∧ i = .int .i64 j ∧ t = .int .i64 (k + j) ∧ Below w.heap.size w wr) (fun _ i _ => n - (intOf i).toNat)
  case atStart => exact ⟨0, Nat.zero_le _, rfl, by simp, Below.refl _ _⟩
  case round =>
    obtain ⟨j, hj, rfl, rfl, hb⟩ := hrel
    by_cases hlt : j < n
    · obtain ⟨g, off, rfl, hgw, c1⟩ := RdI.at_ (hr.below hb) (k := j) (by rw [io_length]; omega)
      rw [io_get] at c1
      go_wp2
      exact ⟨⟨j + 1, by omega, by go_num, by rw [show k + (j : Int) + 1 = k + ((j + 1 : Nat) : Int) from by omega], hb⟩, by simp [intOf]; omega⟩
    · have hkk : j = n := by omega
      subst hkk
      go_wp2
      go_ret
      exact ⟨rfl, hb⟩
end Go.Proofs.YteelmhmdnljjnaaGreat

/- The laws' own functions on regions. -/
namespace Go.Proofs.YteelmhmdnljjnaaGreat
open Go.RowKit
set_option linter.unusedVariables false
attribute [local go_sem ↓] Go.wp_at_zero Go.wp_at_succ

theorem own_nI {w : World} {base e n c : Nat} {A : Option Addr} {xs : List Int} (h : w.ownsRow base e 1 (.slice A n c) n (vI xs)) : xs.length = n := by
  have := own_len h
  rw [vI_length] at this
  omega
theorem own_far {w : World} {base e size n c : Nat} {A : Option Addr} {xs : List Value} {p : Addr} (h : w.ownsRow base e size (.slice A n c) n xs) (u : Value) (hp : ∀ g, ob A = some g → g ≠ p.block) : (w.setCell p u).ownsRow base e size (.slice A n c) n xs :=
  h.kept (grown_set (World.grownBy.refl w (some p.block)) rfl u) (by
    rw [ownBlock_slice]
    cases hA : ob A with
    | none => exact .inl rfl
    | some g => right; intro e; injection e with e; exact hp g hA e)
theorem own_kept2 {w w' : World} {base e size n c : Nat} {A : Option Addr} {xs : List Value} {X : Option Addr} (h : w.ownsRow base e size (.slice A n c) n xs) (hg : w.grownBy w' (ob X)) (hn : ∀ g, ob A = some g → ob X ≠ some g) : w'.ownsRow base e size (.slice A n c) n xs :=
  h.kept hg (by
    rw [ownBlock_slice]
    cases hA : ob A with
    | none => exact .inl rfl
    | some g => right; intro e; exact hn g hA e.symm)
theorem grown_alloc0 {w w' : World} {o : Obj} {row : Option Nat} (h : (w.alloc o).grownBy w' row) : w.grownBy w' row :=
  ⟨h.os, h.tape, h.output, by have := h.size; simp at this; omega, fun k hk hne => (h.block k (by simp; omega) hne).trans (Below.heap_alloc w o k hk)⟩
theorem szIntS_l (A : Option Addr) (n c : Nat) (m : Int) (w : World) (hm : n ≤ maxLen) (h0 : 0 ≤ m) (h1 : m ≤ 1048576) :
    Calls Tryz.prog 37 #[.slice A n c, .int .i64 m] w (Ret w (.int .i64 (if m < (n : Int) then -1 else m - n))) := by
  unfold maxLen at hm
  by_cases h : m < (n : Int)
  · have hlt : m - (n : Int) < 0 := by omega
    go_enter Tryz.func37, Tryz.ntmps37
    go_wp2
    go_ret
    exact ⟨rfl, (by (repeat (first | with_reducible exact Below.refl _ _ | with_reducible assumption | with_reducible apply bel_alloc | with_reducible apply bel_drew | with_reducible apply bel_drewN | ((with_reducible refine bel_set ?_ ?_); rotate_left; (simp <;> omega)) | (with_reducible refine bel_trans ?_ (by with_reducible assumption)))))⟩
  · have hlt : ¬ m - (n : Int) < 0 := by omega
    go_enter Tryz.func37, Tryz.ntmps37
    go_wp2
    go_ret
    exact ⟨rfl, (by (repeat (first | with_reducible exact Below.refl _ _ | with_reducible assumption | with_reducible apply bel_alloc | with_reducible apply bel_drew | with_reducible apply bel_drewN | ((with_reducible refine bel_set ?_ ?_); rotate_left; (simp <;> omega)) | (with_reducible refine bel_trans ?_ (by with_reducible assumption)))))⟩
/-- What is left behind a region's rows. -/
def szR (m : Int) (n : Nat) : Int := if m < (n : Int) then -1 else m - n
theorem szRegion_l (W : Int) (A : Option Addr) (n c : Nat) (m : Int) (w : World) (hn : n ≤ maxLen) (h0 : 0 ≤ m) (h1 : m ≤ 1048576) :
    Calls Tryz.prog 10 #[.agg #[.int .i64 W, .slice A n c], .int .i64 m] w (Ret w (.int .i64 (szR m n))) := by
  by_cases hlt : m < (n : Int)
  · have HV : Hid (szR m n = -1) := if_pos hlt
    go_enter Tryz.func10, Tryz.ntmps10
    go_wp2_with fail
    refine (szIntS_l A n c m _ hn h0 h1).mono ?_
    rw [if_pos hlt]
    rintro e w1 ⟨rfl, hb1⟩
    go_wp2_with fail
    go_ret
    exact ⟨by rw [HV.out]; rfl, (by (repeat (first | with_reducible exact Below.refl _ _ | with_reducible assumption | with_reducible apply bel_alloc | with_reducible apply bel_drew | with_reducible apply bel_drewN | ((with_reducible refine bel_set ?_ ?_); rotate_left; (simp <;> omega)) | (with_reducible refine bel_trans ?_ (by with_reducible assumption)))))⟩
  · have HV : Hid (szR m n = m - n) := if_neg hlt
    have hd : ¬ m - (n : Int) < 0 := by omega
    go_enter Tryz.func10, Tryz.ntmps10
    go_wp2_with fail
    refine (szIntS_l A n c m _ hn h0 h1).mono ?_
    rw [if_neg (by omega)]
    rintro e w1 ⟨rfl, hb1⟩
    go_wp2_with fail
    go_ret
    exact ⟨by rw [HV.out]; rfl, (by (repeat (first | with_reducible exact Below.refl _ _ | with_reducible assumption | with_reducible apply bel_alloc | with_reducible apply bel_drew | with_reducible apply bel_drewN | ((with_reducible refine bel_set ?_ ?_); rotate_left; (simp <;> omega)) | (with_reducible refine bel_trans ?_ (by with_reducible assumption)))))⟩
/-- A result that is a region whose rows are the call's own. -/
def RetR (w : World) (W : Int) (rows : List Int) (e : Ending) (w' : World) : Prop :=
  ∃ A n c, e = .returned (.agg #[.int .i64 W, .slice A n c]) ∧ w'.ownsRow w.heap.size 3 1 (.slice A n c) n (vI rows) ∧ Below w.heap.size w w'
theorem toRegion_l (W : Int) (A : Option Addr) (n c : Nat) (rows : List Int) (w : World) (hr : Rd w A (vI rows)) (hl : rows.length = n) (hn : n ≤ 1048576) :
    Calls Tryz.prog 13 #[.agg #[.int .i64 W, .slice A n c]] w (RetR w W rows) := by
  have HL := Lib.hid hl
  clear hl
  go_enter Tryz.func13, Tryz.ntmps13
  go_wp2_with fail
  refine (toIntS_l _ _ _ rows _ (hr.below (by (repeat (first | with_reducible exact Below.refl _ _ | with_reducible assumption | with_reducible apply bel_alloc | with_reducible apply bel_drew | with_reducible apply bel_drewN | ((with_reducible refine bel_set ?_ ?_); rotate_left; (simp <;> omega)) | (with_reducible refine bel_trans ?_ (by with_reducible assumption)))))) HL.out hn).mono ?_
  rintro e w1 ⟨B, q, cq, rfl, ho, hb1⟩
  obtain rfl : q = n := (own_nI ho).symm.trans HL.out
  have hsz := hb1.size
  simp only [World.size_alloc] at hsz
  have hB2 : Blk w1 (w.heap.size + 1 + 1) 29 #[.int .i64 W, .slice none 0 0] := Blk.below (by simpa using Blk.new ((w.alloc (Obj.cells #[Value.int IntKind.i64 W, Value.slice A q c] 24)).alloc (Obj.cells #[Value.int IntKind.i64 0, Value.slice none 0 0] 29)) 29 #[.int .i64 W, .slice none 0 0]) hb1
  have hB1 : Blk w1 (w.heap.size + 1) 29 #[.int .i64 0, .slice none 0 0] := Blk.below (Blk.alloc (by simpa using Blk.new (w.alloc (Obj.cells #[Value.int IntKind.i64 W, Value.slice A q c] 24)) 29 #[.int .i64 0, .slice none 0 0]) _) hb1
  have c20 : w1.cell? ⟨w.heap.size + 1 + 1, 0, none⟩ = some (.int .i64 W) := by simpa using hB2.cell 0
  have c21 : w1.cell? ⟨w.heap.size + 1 + 1, 1, none⟩ = some (.slice none 0 0) := by simpa using hB2.cell 1
  have c10 : w1.cell? ⟨w.heap.size + 1, 0, none⟩ = some (.int .i64 0) := by simpa using hB1.cell 0
  have c11 : w1.cell? ⟨w.heap.size + 1, 1, none⟩ = some (.slice none 0 0) := by simpa using hB1.cell 1
  have z20 := hB2.frozen 0
  have z21 := hB2.frozen 1
  have z10 := hB1.frozen 0
  have z11 := hB1.frozen 1
  have HO := Lib.hid ho
  have hD := (hB1.far (p := ⟨w.heap.size + 1 + 1, 1, none⟩) (by simp) (.slice B q cq)).set_ 0 (.int .i64 W)
  have e0 : ((w1.setCell ⟨w.heap.size + 1 + 1, 1, none⟩ (.slice B q cq)).setCell ⟨w.heap.size + 1, 0, none⟩ (.int .i64 W)).cell? ⟨w.heap.size + 1, 0, none⟩ = some (.int .i64 W) := by simpa using hD.cell 0
  have e1 : (((w1.setCell ⟨w.heap.size + 1 + 1, 1, none⟩ (.slice B q cq)).setCell ⟨w.heap.size + 1, 0, none⟩ (.int .i64 W)).setCell ⟨w.heap.size + 1, 1, none⟩ (.slice B q cq)).cell? ⟨w.heap.size + 1, 1, none⟩ = some (.slice B q cq) := by simpa using (hD.set_ 1 (.slice B q cq)).cell 1
  have E0 := Lib.hid e0
  have E1 := Lib.hid e1
  clear hB1 hB2 ho hD e0 e1
  go_wp2_with fail
  have e0 := E0.out
  have e1 := E1.out
  have ne : ∀ g, ob B = some g → g ≠ w.heap.size + 1 + 1 ∧ g ≠ w.heap.size + 1 := fun g e => by have := (own_lt HO.out g e).1; simp at this; omega
  exact bodyPost_ret (v := .agg #[.int .i64 W, .slice B q cq]) (by simp [results, Tryz.results13, go_sem, e0, e1]) rfl
    ⟨_, _, _, rfl, own_far (own_far (own_far (own_base HO.out (by simp; omega)) _ fun g e => (ne g e).1) _ fun g e => (ne g e).2) _ fun g e => (ne g e).2, (by (repeat (first | with_reducible exact Below.refl _ _ | with_reducible assumption | with_reducible apply bel_alloc | with_reducible apply bel_drew | with_reducible apply bel_drewN | ((with_reducible refine bel_set ?_ ?_); rotate_left; (simp <;> omega)) | (with_reducible refine bel_trans ?_ (by with_reducible assumption)))))⟩
theorem eqRegion_t (W : Int) (A A2 : Option Addr) (n c n2 c2 : Nat) (rows : List Int) (w : World) (hr : Rd w A (vI rows)) (hr2 : Rd w A2 (vI rows)) (hl : rows.length = n) (hl2 : rows.length = n2) (hn : n ≤ 1048576) :
    Calls Tryz.prog 17 #[.agg #[.int .i64 W, .slice A n c], .agg #[.int .i64 W, .slice A2 n2 c2]] w (Ret w (.bool true)) := by
  have HL := Lib.hid hl
  have HL2 := Lib.hid hl2
  clear hl hl2
  go_enter Tryz.func17, Tryz.ntmps17
  go_wp2_with fail
  refine (eqIntS_t _ _ _ _ _ _ rows _ (hr.below (by (repeat (first | with_reducible exact Below.refl _ _ | with_reducible assumption | with_reducible apply bel_alloc | with_reducible apply bel_drew | with_reducible apply bel_drewN | ((with_reducible refine bel_set ?_ ?_); rotate_left; (simp <;> omega)) | (with_reducible refine bel_trans ?_ (by with_reducible assumption)))))) (hr2.below (by (repeat (first | with_reducible exact Below.refl _ _ | with_reducible assumption | with_reducible apply bel_alloc | with_reducible apply bel_drew | with_reducible apply bel_drewN | ((with_reducible refine bel_set ?_ ?_); rotate_left; (simp <;> omega)) | (with_reducible refine bel_trans ?_ (by with_reducible assumption)))))) HL.out HL2.out (by omega)).mono ?_
  rintro e w1 ⟨rfl, hb1⟩
  go_wp2_with fail
  go_ret
  exact ⟨rfl, (by (repeat (first | with_reducible exact Below.refl _ _ | with_reducible assumption | with_reducible apply bel_alloc | with_reducible apply bel_drew | with_reducible apply bel_drewN | ((with_reducible refine bel_set ?_ ?_); rotate_left; (simp <;> omega)) | (with_reducible refine bel_trans ?_ (by with_reducible assumption)))))⟩
theorem markRegion_l (W : Int) (A : Option Addr) (n c base : Nat) (k : Int) (rows : List Int) (w : World) (ho : w.ownsRow base 3 1 (.slice A n c) n (vI rows)) (hn : n ≤ 1048576) (hk0 : 0 ≤ k) (hk1 : k ≤ 1099511627776) :
    Calls Tryz.prog 33 #[.agg #[.int .i64 W, .slice A n c], .int .i64 k] w (MarkP w base 3 1 A n c (vI (io k n)) (k + n)) := by
  go_enter Tryz.func33, Tryz.ntmps33
  go_wp2_with fail
  refine (markIntS_l _ _ _ base k rows _ (ho.alloc _) (by omega) hk0 hk1).mono ?_
  rintro e w1 ⟨rfl, ho2, hg2⟩
  have HO := Lib.hid ho2
  have HG := Lib.hid hg2
  clear ho2 hg2
  go_wp2_with fail
  go_ret
  exact ⟨rfl, HO.out, grown_alloc0 HG.out⟩
end Go.Proofs.YteelmhmdnljjnaaGreat

/- The law on most scattered cells. -/
namespace Go.Proofs.YteelmhmdnljjnaaGreat
open Go.RowKit
set_option linter.unusedVariables false
attribute [local go_sem ↓] Go.wp_at_zero Go.wp_at_succ

set_option maxRecDepth 100000 in
set_option maxHeartbeats 3200000 in
theorem law_FnExactLargestScattered (W : Int) (A : Option Addr) (n c : Nat) (rows : List Int) (B : Option Addr) (q cb : Nat) (P : List (List C)) (w : World) (hr : Rd w A (vI rows)) (hl : rows.length = n) (hm : n ≤ maxLen) (hrP : ∃ hs, RdP w B q hs P ∧ ∀ x ∈ hs, x.2.1 ≤ maxLen) (hlP : P.length = q) (hmP : q ≤ maxLen) :
    Calls Tryz.prog 6 #[.agg #[.int .i64 W, .slice A n c], .slice B q cb] w (Ret w (.bool true)) := by
  obtain ⟨hs, hP, hxl⟩ := hrP
  have HL := Lib.hid hl
  have HX := Lib.hid hxl
  have HP := Lib.hid hP
  have HMP := Lib.hid hmP
  have HA0 := Lib.hid (Blk.new w 24 #[.int .i64 W, .slice A n c])
  obtain ⟨v, hv⟩ : ∃ v, ((lsV W rows P : Nat) : Int) = v := ⟨_, rfl⟩
  obtain ⟨bb, hbb⟩ : ∃ bb, smallV W rows P = bb := ⟨_, rfl⟩
  have HV : Hid (Value.tuple #[.int .i64 (((lsV W rows P : Nat) : Int)), .bool (smallV W rows P)] = .tuple #[.int .i64 v, .bool bb]) := by show _ = _; rw [hv, hbb]
  have hne1 : (v != v) = false := by simp
  have hne2 : (bb != bb) = false := by simp
  clear hv hbb
  clear hl hxl hP hlP hmP
  by_cases hbig : (1048576 : Int) < (n : Int)
  · have HS : Hid (szR 1048576 n = -1) := if_pos hbig
    clear hbig
    go_enter Tryz.func6, Tryz.ntmps6
    go_wp2_with fail
    refine (szRegion_l W A n c 1048576 _ hm (by omega) (by omega)).mono ?_
    rw [HS.out]
    rintro e w1 ⟨rfl, hb1⟩
    go_wp2_with fail
    go_ret
    exact ⟨rfl, (by (repeat (first | with_reducible exact Below.refl _ _ | with_reducible assumption | with_reducible apply bel_alloc | with_reducible apply bel_drew | with_reducible apply bel_drewN | ((with_reducible refine bel_set ?_ ?_); rotate_left; (simp <;> omega)) | (with_reducible refine bel_trans ?_ (by with_reducible assumption)))))⟩
  · have hn : n ≤ 1048576 := by omega
    have HS : Hid (szR 1048576 n = 1048576 - n) := if_neg hbig
    have hsz : ¬ (1048576 - (n : Int)) < 0 := by omega
    clear hbig
    obtain ⟨z, hz⟩ : ∃ z, szP (1048576 - (n : Int)) q P = z := ⟨_, rfl⟩
    have HZ := Lib.hid hz
    by_cases hz0 : z < 0
    · clear hz
      go_enter Tryz.func6, Tryz.ntmps6
      go_wp2_with fail
      refine (szRegion_l W A n c 1048576 _ hm (by omega) (by omega)).mono ?_
      rw [HS.out]
      rintro e w1 ⟨rfl, hb1⟩
      go_wp2_with fail
      refine (szCellSS_l B q cb (1048576 - (n : Int)) hs P _ (HP.out.below (by (repeat (first | with_reducible exact Below.refl _ _ | with_reducible assumption | with_reducible apply bel_alloc | with_reducible apply bel_drew | with_reducible apply bel_drewN | ((with_reducible refine bel_set ?_ ?_); rotate_left; (simp <;> omega)) | (with_reducible refine bel_trans ?_ (by with_reducible assumption)))))) HX.out HMP.out (by omega) (by omega)).mono ?_
      rw [HZ.out]
      rintro e w2 ⟨rfl, hb2⟩
      go_wp2_with fail
      go_ret
      exact ⟨rfl, (by (repeat (first | with_reducible exact Below.refl _ _ | with_reducible assumption | with_reducible apply bel_alloc | with_reducible apply bel_drew | with_reducible apply bel_drewN | ((with_reducible refine bel_set ?_ ?_); rotate_left; (simp <;> omega)) | (with_reducible refine bel_trans ?_ (by with_reducible assumption)))))⟩
    · have hqt : q ≤ 1048576 ∧ totC P ≤ 1048576 := by
        unfold szP at hz
        split at hz
        · omega
        · have := szRows_ok _ P (by rw [hz]; omega : 0 ≤ szRows (1048576 - (n : Int) - (q : Int)) P)
          omega
      obtain ⟨hq, ht⟩ := hqt
      have HT := Lib.hid ht
      clear hz ht
      go_enter Tryz.func6, Tryz.ntmps6
      go_wp2_with fail
      refine (szRegion_l W A n c 1048576 _ hm (by omega) (by omega)).mono ?_
      rw [HS.out]
      rintro e w1 ⟨rfl, hb1⟩
      have HA1 := Lib.hid (HA0.out.below hb1); (try clear a0 a1 al); have a0 : w1.cell? ⟨w.heap.size, 0, none⟩ = some (.int .i64 W) := (by simpa using HA1.out.cell 0); have a1 : w1.cell? ⟨w.heap.size, 1, none⟩ = some (.slice A n c) := (by simpa using HA1.out.cell 1); have al : w.heap.size < w1.heap.size := HA1.out.lt
      have g1 : Below w.heap.size w w1 := (by (repeat (first | with_reducible exact Below.refl _ _ | with_reducible assumption | with_reducible apply bel_alloc | with_reducible apply bel_drew | with_reducible apply bel_drewN | ((with_reducible refine bel_set ?_ ?_); rotate_left; (simp <;> omega)) | (with_reducible refine bel_trans ?_ (by with_reducible assumption)))))
      go_wp2_with fail
      refine (szCellSS_l B q cb (1048576 - (n : Int)) hs P _ (HP.out.below g1) HX.out HMP.out (by omega) (by omega)).mono ?_
      rw [HZ.out]
      rintro e w2 ⟨rfl, hb2⟩
      have HA2 := Lib.hid (HA1.out.below hb2); (try clear a0 a1 al); have a0 : w2.cell? ⟨w.heap.size, 0, none⟩ = some (.int .i64 W) := (by simpa using HA2.out.cell 0); have a1 : w2.cell? ⟨w.heap.size, 1, none⟩ = some (.slice A n c) := (by simpa using HA2.out.cell 1); have al : w.heap.size < w2.heap.size := HA2.out.lt
      have g2 := bel_trans g1 hb2
      go_wp2_with fail
      refine (toRegion_l W A n c rows _ (hr.below g2) HL.out hn).mono ?_
      rintro e w3 ⟨Y, ny, cy, rfl, oY, hb3⟩
      obtain rfl : n = ny := HL.out.symm.trans (own_nI oY)
      have HY := Lib.hid (Rd.of_own oY)
      clear oY
      have HA3 := Lib.hid (HA2.out.below hb3); (try clear a0 a1 al); have a0 : w3.cell? ⟨w.heap.size, 0, none⟩ = some (.int .i64 W) := (by simpa using HA3.out.cell 0); have a1 : w3.cell? ⟨w.heap.size, 1, none⟩ = some (.slice A n c) := (by simpa using HA3.out.cell 1); have al : w.heap.size < w3.heap.size := HA3.out.lt
      have g3 := bel_trans g2 hb3
      go_wp2_with fail
      refine (toCellSS_l B q cb hs P _ (HP.out.below g3) hq HT.out).mono ?_
      rintro e w4 ⟨YP, cyp, hsY, rfl, oYP, hb4⟩
      have HYP := Lib.hid oYP
      clear oYP
      have HA4 := Lib.hid (HA3.out.below hb4); (try clear a0 a1 al); have a0 : w4.cell? ⟨w.heap.size, 0, none⟩ = some (.int .i64 W) := (by simpa using HA4.out.cell 0); have a1 : w4.cell? ⟨w.heap.size, 1, none⟩ = some (.slice A n c) := (by simpa using HA4.out.cell 1); have al : w.heap.size < w4.heap.size := HA4.out.lt
      have g4 := bel_trans g3 hb4
      go_wp2_with fail
      refine (LargestScattered_s W Y YP n cy q cyp rows hsY P _ (HY.out.below hb4) HL.out HYP.out hq HT.out).mono ?_
      rw [HV.out]
      rintro e w6 ⟨rfl, hb6⟩
      have HA6 := Lib.hid (HA4.out.below hb6); (try clear a0 a1 al); have a0 : w6.cell? ⟨w.heap.size, 0, none⟩ = some (.int .i64 W) := (by simpa using HA6.out.cell 0); have a1 : w6.cell? ⟨w.heap.size, 1, none⟩ = some (.slice A n c) := (by simpa using HA6.out.cell 1); have al : w.heap.size < w6.heap.size := HA6.out.lt
      have g6 := bel_trans g4 hb6
      go_wp2_with fail
      refine (toRegion_l W A n c rows _ (hr.below g6) HL.out hn).mono ?_
      rintro e w7 ⟨X, nx, cx, rfl, ox, hb7⟩
      obtain rfl : n = nx := HL.out.symm.trans (own_nI ox)
      have HOX := Lib.hid ox
      clear ox
      have HA7 := Lib.hid (HA6.out.below hb7); (try clear a0 a1 al); have a0 : w7.cell? ⟨w.heap.size, 0, none⟩ = some (.int .i64 W) := (by simpa using HA7.out.cell 0); have a1 : w7.cell? ⟨w.heap.size, 1, none⟩ = some (.slice A n c) := (by simpa using HA7.out.cell 1); have al : w.heap.size < w7.heap.size := HA7.out.lt
      have g7 := bel_trans g6 hb7
      have HX7 := Lib.hid (Blk.new w7 29 #[.int .i64 W, .slice X n cx])
      have b78 : Below w7.heap.size w7 (w7.alloc (.cells #[.int .i64 W, .slice X n cx] 29)) := bel_alloc (Below.refl _ _) _
      go_wp2_with fail
      refine (toCellSS_l B q cb hs P _ ((HP.out.below g7).below b78) hq HT.out).mono ?_
      rintro e w8 ⟨XP, cxp, hsX, rfl, oXP, hb8⟩
      have HXP := Lib.hid oXP
      clear oXP
      have b8 := bel_trans b78 hb8
      have HA8 := Lib.hid (HA7.out.below b8); (try clear a0 a1 al); have a0 : w8.cell? ⟨w.heap.size, 0, none⟩ = some (.int .i64 W) := (by simpa using HA8.out.cell 0); have a1 : w8.cell? ⟨w.heap.size, 1, none⟩ = some (.slice A n c) := (by simpa using HA8.out.cell 1); have al : w.heap.size < w8.heap.size := HA8.out.lt
      have HX8 := Lib.hid (HX7.out.below hb8); (try clear x0 x1 xl); have x0 : w8.cell? ⟨w7.heap.size, 0, none⟩ = some (.int .i64 W) := (by simpa using HX8.out.cell 0); have x1 : w8.cell? ⟨w7.heap.size, 1, none⟩ = some (.slice X n cx) := (by simpa using HX8.out.cell 1); have xl : w7.heap.size < w8.heap.size := HX8.out.lt
      have g8 := bel_trans g7 b8
      go_wp2_with fail
      refine (LargestScattered_i W X XP n cx q cxp rows hsX P _ ((Rd.of_own HOX.out).below b8) HL.out HXP.out hq HT.out).mono ?_
      rw [HV.out]
      rintro e w10 ⟨rfl, hb10⟩
      have HA10 := Lib.hid (HA8.out.below hb10); (try clear a0 a1 al); have a0 : w10.cell? ⟨w.heap.size, 0, none⟩ = some (.int .i64 W) := (by simpa using HA10.out.cell 0); have a1 : w10.cell? ⟨w.heap.size, 1, none⟩ = some (.slice A n c) := (by simpa using HA10.out.cell 1); have al : w.heap.size < w10.heap.size := HA10.out.lt
      have HX10 := Lib.hid (HX8.out.below hb10); (try clear x0 x1 xl); have x0 : w10.cell? ⟨w7.heap.size, 0, none⟩ = some (.int .i64 W) := (by simpa using HX10.out.cell 0); have x1 : w10.cell? ⟨w7.heap.size, 1, none⟩ = some (.slice X n cx) := (by simpa using HX10.out.cell 1); have xl : w7.heap.size < w10.heap.size := HX10.out.lt
      have b06 := bel_trans g8 hb10
      have b710 := bel_trans b8 hb10
      go_wp2_with fail; (refine wp_region_tailN (C := ExC w10) 2 (by kernel_rfl) (by kernel_rfl) (ExC.drawn _) (fun _ _ h k => ExC.ext h k) ?_; simp only [List.take_succ_cons, List.take_zero, List.drop_succ_cons, List.drop_zero]; (repeat (first | (refine headSkip (by rfl) rfl ?_; simp only [List.setIfInBounds_toArray, List.set_cons_zero, List.set_cons_succ]) | (refine headV (v := ?_) (by rfl) rfl (fun w' hcw => ?_) ?_; rotate_left; ((try dsimp only at hcw); have hbc := hcw.cells; go_simp; first | done | with_reducible rfl | fail); simp only [List.setIfInBounds_toArray, List.set_cons_zero, List.set_cons_succ]))); unfold wpHead); refine tailK (by rfl) (fun u7 hc7 he7 K hK => ?_); go_simp; refine (toRegion_l W A n c rows _ (hr.below (bel_trans b06 hc7)) HL.out hn).mono ?_; rintro e u8 ⟨Z, q3, cz, rfl, oz, hz8⟩; obtain rfl : n = q3 := (HL.out).symm.trans (own_nI oz); have hu8 := bel_trans hc7 hz8; have HOZ := Lib.hid oz; clear oz; refine hK _ _ hu8 ?_; clear hK K; refine tailK (by rfl) (fun u9 hc9 he9 K hK => ?_); go_simp; refine (eqRegion_t W X Z n cx n cz rows _ ((Rd.of_own (own_keep HOX.out b710)).below ((by (repeat (first | with_reducible exact Below.refl _ _ | with_reducible assumption | with_reducible apply bel_alloc | with_reducible apply bel_drew | with_reducible apply bel_drewN | ((with_reducible refine bel_set ?_ ?_); rotate_left; (simp <;> omega)) | (with_reducible refine bel_trans ?_ (by with_reducible assumption))))))) ((Rd.of_own HOZ.out).below he9) HL.out HL.out hn).mono ?_; rintro e u10 ⟨rfl, hz10⟩; have hu10 := bel_trans hc9 hz10; refine hK _ _ hu10 ?_; clear hK K; (refine tailK (by rfl) (fun u11 hc11 he11 K hK => ?_); go_simp; refine hK _ _ (hc11) ?_; clear hK K); (refine fun w11 hu heu => NoPanic.normal ?_)
      clear hc7 he7 hz8 hu8 HOZ hc9 he9 hz10 hu10 hc11 he11 heu
      have hb11 : Below w10.heap.size w10 w11 := hu
      clear hu
      have g11 := bel_trans b06 hb11
      go_wp2_with fail
      refine (toCellSS_l B q cb hs P _ (HP.out.below g11) hq HT.out).mono ?_
      rintro e w12 ⟨ZP, czp, hsZ, rfl, oZP, hb12⟩
      have HZP := Lib.hid oZP
      clear oZP
      go_wp2_with fail
      refine (eqCellSS_t XP ZP q cxp q czp hsX hsZ P _ ((((HXP.out).below hb10).below hb11).below hb12) HZP.out (by omega) (by have := HT.out; omega)).mono ?_
      rintro e w13 ⟨rfl, hb13⟩
      have g13 := bel_trans g11 (bel_trans hb12 hb13)
      go_wp2_with fail
      go_ret
      exact ⟨rfl, g13⟩
end Go.Proofs.YteelmhmdnljjnaaGreat

/- An argument that is a region, opened. -/
namespace Go.Proofs.YteelmhmdnljjnaaGreat
open Go.RowKit Go.ChangeShapes Go.WideShapes Go.Deep Go.Joins
set_option linter.unusedVariables false
section
variable {H : Type} {enc : TypeId × Value → H}
set_option maxRecDepth 100000 in
theorem openI_core {W : World} {t : TypeId} (ht : Tryz.prog.underlying t = some (.slice 3)) {base : Nat} {spare : Nat → Bool} {held : Bool} {fuel : Nat} {v : Value} {x : DataW H × List MemPlace} (hf : DataW.trod enc Tryz.prog W base spare held fuel t [v] = some x) :
    ∃ A n c xs, v = .slice A n c ∧ Rd W A (vI xs) ∧ xs.length = n ∧ n ≤ maxLen := by
  rcases open_ints ht Tryz.underlying3 cellsI hf with ⟨hcs, hx⟩ | ⟨a, len', cap', zs, hcs, _, hl, hm, hz, hx, hcell, hwz⟩
  · injection hcs with hcs
    exact ⟨none, 0, 0, [], hcs, .inl rfl, rfl, Nat.zero_le _⟩
  · injection hcs with hcs
    subst hcs
    have hzl : len' ≤ zs.length := by rw [hz]; split <;> omega
    refine ⟨_, _, _, zs.take len', rfl, ?_, by rw [List.length_take]; omega, by omega⟩
    by_cases h0 : 0 < zs.length
    · obtain ⟨b, off, rfl, hc⟩ := ints_at hcell h0
      refine .inr ⟨b, off, rfl, fun j u hu => ?_⟩
      simp only [vI, List.getElem?_map, Option.map_eq_some_iff] at hu
      obtain ⟨x, hx, rfl⟩ := hu
      have hjl : j < len' := by
        rcases Nat.lt_or_ge j len' with h | h
        · exact h
        · rw [List.getElem?_eq_none (by rw [List.length_take]; omega)] at hx; cases hx
      rw [List.getElem?_take_of_lt hjl] at hx
      rw [hc j (by omega), List.getD_eq_getElem?_getD, hx]
      rfl
    · left
      rw [List.eq_nil_of_length_eq_zero (by omega : zs.length = 0)]
      simp [vI]
theorem cellsLR : Tryz.prog.cellsOf 24 = 2 := by kernel_rfl
set_option maxRecDepth 100000 in
theorem openR {W : World} {r : Reach} {b0 : Nat} {base : Nat} {spare : Nat → Bool} {held : Bool} {v : Value} {d : DataW H} {p : List MemPlace} (hv : Value.okWide Tryz.prog W r b0 24 v) (h : DataW.Trod enc Tryz.prog W base spare held 24 v d p) :
    ∃ x A n c xs, v = .agg #[.int .i64 x, .slice A n c] ∧ Rd W A (vI xs) ∧ xs.length = n ∧ n ≤ maxLen := by
  obtain ⟨v0, v1, y0, y1, m, rfl, _, _, h0, h1⟩ := open_agg2 Tryz.underlying24 (by kernel_rfl) cellsLR hv h
  obtain ⟨x, e0, _, _⟩ := DataW.trod_int Tryz.underlying3 h0
  injection e0 with e0
  subst e0
  obtain ⟨A, n, c, xs, rfl, hr, hl, hm⟩ := openI_core Tryz.underlying22 h1
  exact ⟨x, A, n, c, xs, rfl, hr, hl, hm⟩
end
end Go.Proofs.YteelmhmdnljjnaaGreat
