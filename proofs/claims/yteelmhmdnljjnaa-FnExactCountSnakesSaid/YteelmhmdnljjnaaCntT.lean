/- Shapes with holes, snakes, counted among all shapes: both sides, and the laws. -/
import Derived.Test.YteelmhmdnljjnaaTabW
import Derived.Test.YteelmhmdnljjnaaFixS
import Derived.Test.YteelmhmdnljjnaaHolesI
import Derived.Test.YteelmhmdnljjnaaHolesS
import Derived.Test.YteelmhmdnljjnaaSnake
import Derived.Outline
import Derived.WalkLawsBesides
import Derived.WalkSpells
import Derived.BigQuiet
import Derived.Deep.QuietTactic
import Derived.Deep.RegionHeld3
import Derived.Deep.RegionWith
import Derived.Deep.DeepCutAuto
import Derived.Deep.CutBlock
import Derived.Deep.DrawnRows
namespace Go.Proofs.Yteelmhmdnljjnaa
open Go.RowKit
set_option linter.unusedVariables false
attribute [local go_sem ↓] Go.wp_at_zero Go.wp_at_succ

theorem fixA_okI (n : Int) : ∀ x ∈ fixA n, FullI x := by
  intro x hx
  unfold fixA at hx
  split at hx
  · exact okI_full (okI_fix _ (by omega) x hx)
  · simp at hx
theorem fixA_okS (n : Int) : ∀ x ∈ fixA n, ∃ T R, FullS x T R ∧ T ≤ 1000 := by
  intro x hx
  unfold fixA at hx
  split at hx
  · exact okS_full (okS_fix _ (by omega) x hx)
  · simp at hx
def holeV (n : Int) : Int := if fixA n = [] then -1 else 0
set_option maxRecDepth 100000 in
set_option maxHeartbeats 3200000 in
theorem HoleTable_i (n : Int) (w : World) : Calls Try.prog 12 #[.int .i64 n] w (Ret w (.int .i64 (holeV n))) := by
  have hsh := fixA_shape2 n
  have hfl := fixA_len2 n
  have hok := fixA_okI n
  obtain ⟨F, hF⟩ : ∃ F, fixA n = F := ⟨_, rfl⟩
  have hV : holeV n = if F = [] then -1 else 0 := by unfold holeV; rw [hF]
  rw [hF] at hsh hfl hok
  have HSH := Lib.hid hsh
  have HF := Lib.hid hF
  have HV := Lib.hid hV
  have HOK := Lib.hid hok
  clear hsh hF hV hok
  go_enter Try.func12, Try.ntmps12
  go_wp2_with fail
  refine (FixedShapes_i n _).mono ?_
  rw [HF.out]
  rintro e w1 ⟨A0, m, c, hs, rfl, hO, hb1⟩
  have hml : F.length = m := hO.flen
  by_cases h0 : m = 0
  · subst h0
    have hF0 : F = [] := List.length_eq_zero_iff.1 hml
    have HW : Hid (holeV n = -1) := by show _ = _; rw [HV.out, if_pos hF0]
    clear hO hml hF0
    go_wp2_with fail
    go_ret
    exact ⟨by rw [HW.out]; rfl, hb1⟩
  · have hm0 : ((m : Int) == 0) = false := by rw [beq_eq_false_iff_ne]; omega
    have HW : Hid (holeV n = 0) := by show _ = _; rw [HV.out, if_neg (fun e => h0 (by rw [← hml, e]; rfl))]
    have HRF := Lib.hid hO.rd
    have HFL := Lib.hid hml
    have hmb : m ≤ 1048576 := by omega
    clear hO hml hfl
    go_wp2_with fail
    go_loopw [14, 4] (fun e5 e3 wr => ∃ (i : Nat), i ≤ m ∧ e5 = .int .i64 i ∧ e3 = .int .i64 (0) ∧ Below w1.heap.size w1 wr) (fun e5 _ _ => m - (intOf e5).toNat)
    case atStart => exact ⟨0, Nat.zero_le _, rfl, rfl, Below.refl _ _⟩
    case round =>
      obtain ⟨i, hi, rfl, rfl, hb⟩ := hrel
      by_cases hlt : i < m
      · have hi0 : (0 : Int) ≤ (i : Int) := by omega
        have hi1 : (i : Int) < (m : Int) := by omega
        obtain ⟨x, t, gA, off, hsx, hfx, hAe, hg, d1, hrow⟩ := (HRF.out.below hb).at_ hlt
        have htF := List.mem_of_getElem? hfx
        have htsh := HSH.out t htF
        have HOKT := Lib.hid (HOK.out t htF)
        obtain ⟨C1, m1, k1⟩ := x
        have hl1 : t.length = m1 := hrow.1
        have ht8 := (shape_len htsh).2
        rw [hl1] at ht8
        have HL1 := Lib.hid hl1
        have HT := Lib.hid htsh
        have HROW := Lib.hid hrow
        dsimp only at d1
        cases hAe
        (try simp only [Nat.zero_add] at d1)
        clear hsx hfx htF hrow hl1 htsh
        go_wp2_with fail
        refine (HolesOf_i C1 m1 k1 t _ HROW.out.2.1 HL1.out HT.out HOKT.out).mono ?_
        rintro e w2 ⟨rfl, hb2⟩
        clear d1
        go_wp2_with fail
        exact ⟨⟨i + 1, by omega, by go_num, rfl, bel_trans hb hb2⟩, by simp [intOf]; omega⟩
      · obtain rfl : i = m := by omega
        have hi1 : ¬ (i : Int) < (i : Int) := by omega
        go_wp2_with fail
        go_ret
        exact ⟨by rw [HW.out]; rfl, bel_trans hb1 hb⟩

set_option maxRecDepth 100000 in
set_option maxHeartbeats 3200000 in
theorem HoleTable_s (n : Int) (w : World) : Calls Try.prog 11 #[.int .i64 n] w (Ret w (.int .i64 (holeV n))) := by
  have hsh := fixA_shape2 n
  have hfl := fixA_len2 n
  have hok := fixA_okS n
  obtain ⟨F, hF⟩ : ∃ F, fixA n = F := ⟨_, rfl⟩
  have hV : holeV n = if F = [] then -1 else 0 := by unfold holeV; rw [hF]
  rw [hF] at hsh hfl hok
  have HSH := Lib.hid hsh
  have HF := Lib.hid hF
  have HV := Lib.hid hV
  have HOK := Lib.hid hok
  clear hsh hF hV hok
  go_enter Try.func11, Try.ntmps11
  go_wp2_with fail
  refine (FixedShapes_s n _).mono ?_
  rw [HF.out]
  rintro e w1 ⟨gA0, m, c, hs, rfl, hO, hb1⟩
  have hml : F.length = m := hO.flen
  by_cases h0 : m = 0
  · subst h0
    have hF0 : F = [] := List.length_eq_zero_iff.1 hml
    have HW : Hid (holeV n = -1) := by show _ = _; rw [HV.out, if_pos hF0]
    clear hO hml hF0
    go_wp2_with fail
    go_ret
    exact ⟨by rw [HW.out]; rfl, hb1⟩
  · have hm0 : ((m : Int) == 0) = false := by rw [beq_eq_false_iff_ne]; omega
    have HW : Hid (holeV n = 0) := by show _ = _; rw [HV.out, if_neg (fun e => h0 (by rw [← hml, e]; rfl))]
    have HRF := Lib.hid hO.rd
    have HFL := Lib.hid hml
    have hmb : m ≤ 1048576 := by omega
    clear hO hml hfl
    go_wp2_with fail
    go_loopw [5, 4] (fun e5 e3 wr => ∃ (i : Nat), i ≤ m ∧ e5 = .int .i64 i ∧ e3 = .int .i64 (0) ∧ Below w1.heap.size w1 wr) (fun e5 _ _ => m - (intOf e5).toNat)
    case atStart => exact ⟨0, Nat.zero_le _, rfl, rfl, Below.refl _ _⟩
    case round =>
      obtain ⟨i, hi, rfl, rfl, hb⟩ := hrel
      by_cases hlt : i < m
      · have hi0 : (0 : Int) ≤ (i : Int) := by omega
        have hi1 : (i : Int) < (m : Int) := by omega
        obtain ⟨x, t, gA, off, hsx, hfx, hAe, hg, d1, hrow⟩ := (HRF.out.below hb).at_ hlt
        have htF := List.mem_of_getElem? hfx
        have htsh := HSH.out t htF
        have HOKT := Lib.hid (HOK.out t htF)
        obtain ⟨C1, m1, k1⟩ := x
        have hl1 : t.length = m1 := hrow.1
        have ht8 := (shape_len htsh).2
        rw [hl1] at ht8
        have HL1 := Lib.hid hl1
        have HT := Lib.hid htsh
        have HROW := Lib.hid hrow
        dsimp only at d1
        cases hAe
        (try simp only [Nat.zero_add] at d1)
        clear hsx hfx htF hrow hl1 htsh
        go_wp2_with fail
        refine (HolesOf_s C1 m1 k1 t _ HROW.out.2.1 HL1.out HT.out HOKT.out).mono ?_
        rintro e w2 ⟨rfl, hb2⟩
        clear d1
        go_wp2_with fail
        exact ⟨⟨i + 1, by omega, by go_num, rfl, bel_trans hb hb2⟩, by simp [intOf]; omega⟩
      · obtain rfl : i = m := by omega
        have hi1 : ¬ (i : Int) < (i : Int) := by omega
        go_wp2_with fail
        go_ret
        exact ⟨by rw [HW.out]; rfl, bel_trans hb1 hb⟩

noncomputable def snkTo (F : List (List C)) (i : Nat) : Nat := (F.take i).countP isSnake
theorem snkTo_succ (F : List (List C)) {i : Nat} (h : i < F.length) : snkTo F (i + 1) = snkTo F i + (if isSnake F[i] then 1 else 0) := by
  unfold snkTo
  rw [List.take_succ_eq_append_getElem h, List.countP_append]
  simp [List.countP_singleton]
theorem snkTo_le (F : List (List C)) (i : Nat) : snkTo F i ≤ i := by
  unfold snkTo
  have h := List.countP_le_length (p := isSnake) (l := F.take i)
  rw [List.length_take] at h
  omega
noncomputable def snkV (n : Int) : Int := if fixA n = [] then -1 else ((snkTo (fixA n) (fixA n).length : Nat) : Int)
set_option maxRecDepth 100000 in
set_option maxHeartbeats 3200000 in
theorem CountSnakes_i (n : Int) (w : World) : Calls Try.prog 14 #[.int .i64 n] w (Ret w (.int .i64 (snkV n))) := by
  have hsh := fixA_shape2 n
  have hfl := fixA_len2 n
  obtain ⟨F, hF⟩ : ∃ F, fixA n = F := ⟨_, rfl⟩
  have hV : snkV n = if F = [] then -1 else ((snkTo F F.length : Nat) : Int) := by unfold snkV; rw [hF]
  rw [hF] at hsh hfl
  have HSH := Lib.hid hsh
  have HF := Lib.hid hF
  have HV := Lib.hid hV
  clear hsh hF hV
  go_enter Try.func14, Try.ntmps14
  go_wp2_with fail
  refine (FixedShapes_i n _).mono ?_
  rw [HF.out]
  rintro e w1 ⟨A0, m, c, hs, rfl, hO, hb1⟩
  have hml : F.length = m := hO.flen
  by_cases h0 : m = 0
  · subst h0
    have hF0 : F = [] := List.length_eq_zero_iff.1 hml
    have HW : Hid (snkV n = -1) := by show _ = _; rw [HV.out, if_pos hF0]
    clear hO hml hF0
    go_wp2_with fail
    go_ret
    exact ⟨by rw [HW.out]; rfl, hb1⟩
  · have hm0 : ((m : Int) == 0) = false := by rw [beq_eq_false_iff_ne]; omega
    have HW : Hid (snkV n = ((snkTo F F.length : Nat) : Int)) := by show _ = _; rw [HV.out, if_neg (fun e => h0 (by rw [← hml, e]; rfl))]
    have HRF := Lib.hid hO.rd
    have HFL := Lib.hid hml
    have hmb : m ≤ 1048576 := by omega
    clear hO hml hfl
    go_wp2_with fail
    go_loopw [14, 4] (fun e5 e3 wr => ∃ (i : Nat), i ≤ m ∧ e5 = .int .i64 i ∧ e3 = .int .i64 ((snkTo F i : Nat)) ∧ Below w1.heap.size w1 wr) (fun e5 _ _ => m - (intOf e5).toNat)
    case atStart => exact ⟨0, Nat.zero_le _, rfl, rfl, Below.refl _ _⟩
    case round =>
      obtain ⟨i, hi, rfl, rfl, hb⟩ := hrel
      by_cases hlt : i < m
      · have hi0 : (0 : Int) ≤ (i : Int) := by omega
        have hi1 : (i : Int) < (m : Int) := by omega
        obtain ⟨x, t, gA, off, hsx, hfx, hAe, hg, d1, hrow⟩ := (HRF.out.below hb).at_ hlt
        have htF := List.mem_of_getElem? hfx
        have htsh := HSH.out t htF
        have hiF : i < F.length := by rw [HFL.out]; exact hlt
        have hst : snkTo F (i + 1) = snkTo F i + (if isSnake t then 1 else 0) := by rw [snkTo_succ F hiF, show F[i] = t from by rw [List.getElem?_eq_getElem hiF] at hfx; injection hfx]
        have hsl := snkTo_le F i
        obtain ⟨q, hq⟩ : ∃ q, snkTo F i = q := ⟨_, rfl⟩
        rw [hq] at hst hsl ⊢
        clear hq
        obtain ⟨C1, m1, k1⟩ := x
        have hl1 : t.length = m1 := hrow.1
        have ht8 := (shape_len htsh).2
        rw [hl1] at ht8
        have HL1 := Lib.hid hl1
        have HT := Lib.hid htsh
        have HROW := Lib.hid hrow
        dsimp only at d1
        cases hAe
        (try simp only [Nat.zero_add] at d1)
        clear hsx hfx htF hrow hl1 htsh
        cases hsn : isSnake t with
        | true =>
          rw [hsn] at hst
          have HST := Lib.hid hst
          have HSN := Lib.hid hsn
          clear hst hsn
          go_wp2_with fail
          refine (IsSnake_i C1 m1 k1 t _ HROW.out.2.1 HL1.out (by omega)).mono ?_
          rw [HSN.out]
          rintro e w2 ⟨rfl, hb2⟩
          clear d1
          go_wp2_with fail
          exact ⟨⟨i + 1, by omega, by go_num, by rw [HST.out]; go_num, bel_trans hb hb2⟩, by simp [intOf]; omega⟩
        | false =>
          rw [hsn] at hst
          have HST := Lib.hid hst
          have HSN := Lib.hid hsn
          clear hst hsn
          go_wp2_with fail
          refine (IsSnake_i C1 m1 k1 t _ HROW.out.2.1 HL1.out (by omega)).mono ?_
          rw [HSN.out]
          rintro e w2 ⟨rfl, hb2⟩
          clear d1
          go_wp2_with fail
          exact ⟨⟨i + 1, by omega, by go_num, by rw [HST.out]; rfl, bel_trans hb hb2⟩, by simp [intOf]; omega⟩
      · obtain rfl : i = m := by omega
        have hi1 : ¬ (i : Int) < (i : Int) := by omega
        have HE : Hid (((snkTo F F.length : Nat) : Int) = ((snkTo F i : Nat) : Int)) := by show _ = _; rw [HFL.out]
        go_wp2_with fail
        go_ret
        exact ⟨by rw [HW.out, HE.out]; rfl, bel_trans hb1 hb⟩

set_option maxRecDepth 100000 in
set_option maxHeartbeats 3200000 in
theorem CountSnakes_s (n : Int) (w : World) : Calls Try.prog 13 #[.int .i64 n] w (Ret w (.int .i64 (snkV n))) := by
  have hsh := fixA_shape2 n
  have hfl := fixA_len2 n
  obtain ⟨F, hF⟩ : ∃ F, fixA n = F := ⟨_, rfl⟩
  have hV : snkV n = if F = [] then -1 else ((snkTo F F.length : Nat) : Int) := by unfold snkV; rw [hF]
  rw [hF] at hsh hfl
  have HSH := Lib.hid hsh
  have HF := Lib.hid hF
  have HV := Lib.hid hV
  clear hsh hF hV
  go_enter Try.func13, Try.ntmps13
  go_wp2_with fail
  refine (FixedShapes_s n _).mono ?_
  rw [HF.out]
  rintro e w1 ⟨gA0, m, c, hs, rfl, hO, hb1⟩
  have hml : F.length = m := hO.flen
  by_cases h0 : m = 0
  · subst h0
    have hF0 : F = [] := List.length_eq_zero_iff.1 hml
    have HW : Hid (snkV n = -1) := by show _ = _; rw [HV.out, if_pos hF0]
    clear hO hml hF0
    go_wp2_with fail
    go_ret
    exact ⟨by rw [HW.out]; rfl, hb1⟩
  · have hm0 : ((m : Int) == 0) = false := by rw [beq_eq_false_iff_ne]; omega
    have HW : Hid (snkV n = ((snkTo F F.length : Nat) : Int)) := by show _ = _; rw [HV.out, if_neg (fun e => h0 (by rw [← hml, e]; rfl))]
    have HRF := Lib.hid hO.rd
    have HFL := Lib.hid hml
    have hmb : m ≤ 1048576 := by omega
    clear hO hml hfl
    go_wp2_with fail
    go_loopw [5, 4] (fun e5 e3 wr => ∃ (i : Nat), i ≤ m ∧ e5 = .int .i64 i ∧ e3 = .int .i64 ((snkTo F i : Nat)) ∧ Below w1.heap.size w1 wr) (fun e5 _ _ => m - (intOf e5).toNat)
    case atStart => exact ⟨0, Nat.zero_le _, rfl, rfl, Below.refl _ _⟩
    case round =>
      obtain ⟨i, hi, rfl, rfl, hb⟩ := hrel
      by_cases hlt : i < m
      · have hi0 : (0 : Int) ≤ (i : Int) := by omega
        have hi1 : (i : Int) < (m : Int) := by omega
        obtain ⟨x, t, gA, off, hsx, hfx, hAe, hg, d1, hrow⟩ := (HRF.out.below hb).at_ hlt
        have htF := List.mem_of_getElem? hfx
        have htsh := HSH.out t htF
        have hiF : i < F.length := by rw [HFL.out]; exact hlt
        have hst : snkTo F (i + 1) = snkTo F i + (if isSnake t then 1 else 0) := by rw [snkTo_succ F hiF, show F[i] = t from by rw [List.getElem?_eq_getElem hiF] at hfx; injection hfx]
        have hsl := snkTo_le F i
        obtain ⟨q, hq⟩ : ∃ q, snkTo F i = q := ⟨_, rfl⟩
        rw [hq] at hst hsl ⊢
        clear hq
        obtain ⟨C1, m1, k1⟩ := x
        have hl1 : t.length = m1 := hrow.1
        have ht8 := (shape_len htsh).2
        rw [hl1] at ht8
        have HL1 := Lib.hid hl1
        have HT := Lib.hid htsh
        have HROW := Lib.hid hrow
        dsimp only at d1
        cases hAe
        (try simp only [Nat.zero_add] at d1)
        clear hsx hfx htF hrow hl1 htsh
        cases hsn : isSnake t with
        | true =>
          rw [hsn] at hst
          have HST := Lib.hid hst
          have HSN := Lib.hid hsn
          clear hst hsn
          go_wp2_with fail
          refine (IsSnake_s C1 m1 k1 t _ HROW.out.2.1 HL1.out (by omega)).mono ?_
          rw [HSN.out]
          rintro e w2 ⟨rfl, hb2⟩
          clear d1
          go_wp2_with fail
          exact ⟨⟨i + 1, by omega, by go_num, by rw [HST.out]; go_num, bel_trans hb hb2⟩, by simp [intOf]; omega⟩
        | false =>
          rw [hsn] at hst
          have HST := Lib.hid hst
          have HSN := Lib.hid hsn
          clear hst hsn
          go_wp2_with fail
          refine (IsSnake_s C1 m1 k1 t _ HROW.out.2.1 HL1.out (by omega)).mono ?_
          rw [HSN.out]
          rintro e w2 ⟨rfl, hb2⟩
          clear d1
          go_wp2_with fail
          exact ⟨⟨i + 1, by omega, by go_num, by rw [HST.out]; rfl, bel_trans hb hb2⟩, by simp [intOf]; omega⟩
      · obtain rfl : i = m := by omega
        have hi1 : ¬ (i : Int) < (i : Int) := by omega
        have HE : Hid (((snkTo F F.length : Nat) : Int) = ((snkTo F i : Nat) : Int)) := by show _ = _; rw [HFL.out]
        go_wp2_with fail
        go_ret
        exact ⟨by rw [HW.out, HE.out]; rfl, bel_trans hb1 hb⟩

theorem law_FnExactHoleTable (n : Int) (w : World) (_h : (Lit.int .i64 n).wf = true) : Calls Try.prog 4 #[.int .i64 n] w (Ret w (.bool true)) := by
  obtain ⟨v, hv⟩ : ∃ v, holeV n = v := ⟨_, rfl⟩
  have HV := Lib.hid hv
  have hne : (v != v) = false := by simp
  clear hv _h
  go_enter Try.func4, Try.ntmps4
  go_wp2_with fail
  refine (HoleTable_s n _).mono ?_
  rw [HV.out]
  rintro e w1 ⟨rfl, hb1⟩
  go_wp2_with fail
  refine (HoleTable_i n _).mono ?_
  rw [HV.out]
  rintro e w2 ⟨rfl, hb2⟩
  go_wp2_with fail
  go_ret
  exact ⟨rfl, bel_trans hb1 hb2⟩
theorem law_FnExactCountSnakes (n : Int) (w : World) (_h : (Lit.int .i64 n).wf = true) : Calls Try.prog 5 #[.int .i64 n] w (Ret w (.bool true)) := by
  obtain ⟨v, hv⟩ : ∃ v, snkV n = v := ⟨_, rfl⟩
  have HV := Lib.hid hv
  have hne : (v != v) = false := by simp
  clear hv _h
  go_enter Try.func5, Try.ntmps5
  go_wp2_with fail
  refine (CountSnakes_s n _).mono ?_
  rw [HV.out]
  rintro e w1 ⟨rfl, hb1⟩
  go_wp2_with fail
  refine (CountSnakes_i n _).mono ?_
  rw [HV.out]
  rintro e w2 ⟨rfl, hb2⟩
  go_wp2_with fail
  go_ret
  exact ⟨rfl, bel_trans hb1 hb2⟩
end Go.Proofs.Yteelmhmdnljjnaa
