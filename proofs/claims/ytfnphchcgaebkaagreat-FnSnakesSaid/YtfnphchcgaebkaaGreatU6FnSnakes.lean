/- Texts of this claim, one behind the other: part 6. -/
import Derived.Test.YtfnphchcgaebkaaGreatU5FnSnakes
import Derived.Outline
import Derived.WalkLawsBesides
import Derived.WalkSpells
import Derived.BigQuiet
import Derived.Deep.QuietTactic
import Derived.Deep.RegionHeld3
import Derived.Deep.RegionWith
import Derived.Deep.DeepCutAuto
import Derived.Deep.CutBlock
import Derived.Deep.DrawnRows
/- The law on snakes. -/
namespace Go.Proofs.YtfnphchcgaebkaaGreat
open Go.RowKit
set_option linter.unusedVariables false
attribute [local go_sem ↓] Go.wp_at_zero Go.wp_at_succ
theorem bs_data (l : List UInt8) : (bs l).data.toList = l := by unfold bs; simp
theorem bs_size (l : List UInt8) : (bs l).size = l.length := by
  have h := data_len (bs l)
  rw [bs_data] at h
  exact h.symm
theorem sow_len (w : List UInt8) : (sowV w).1.length ≤ w.length + 1 := by
  unfold sowV
  split
  · simp
  · next l hl =>
    have h1 := wayW_len hl
    split
    · have := cornI_len l; simp only; omega
    · simp
set_option maxHeartbeats 800000 in
theorem CornerShape_sn (A : Option Addr) (n c : Nat) (xs : List C) (w : World) (hr : Rd w A (vC xs)) (hl : xs.length = n) (hs : isShape xs = true) :
    Calls Tryz.prog 13 #[.slice A n c] w (RetS w 40 2 (vC (cornS xs))) := by
  have hn8 := (shape_len hs).2
  have hsm := shape_small hs
  have HL := Lib.hid hl
  have HR := Lib.hid hr
  have HS := Lib.hid hs
  have HSM := Lib.hid hsm
  rw [hl] at hn8
  have hnn : n ≤ 1099511627776 := by omega
  clear hl hr hs hsm
  go_enter Tryz.func13, Tryz.ntmps13
  go_wp2_with fail
  refine (IsShape_s A n c xs _ HR.out HL.out hnn).mono ?_
  rw [HS.out]
  rintro e w1 ⟨rfl, hb1⟩
  go_wp2_with fail
  refine (l2Corner_s A n c xs _ (HR.out.below hb1) HL.out (by omega) HSM.out).mono ?_
  rintro e w2 ⟨D, m, cd, rfl, hO, hb2⟩
  have HO := Lib.hid hO
  have hbz := hb1.size
  clear hO
  go_wp2_with fail
  go_ret
  exact ⟨D, m, cd, rfl, own_base HO.out hbz, bel_trans hb1 hb2⟩
set_option maxRecDepth 100000 in
set_option maxHeartbeats 6400000 in
theorem law_FnSnakes (A : Option Addr) (n c : Nat) (bs0 : List UInt8) (w : World) (hr : Rd w A (vB bs0)) (hl : bs0.length = n) (hm : n ≤ maxLen) :
    Calls Tryz.prog 3 #[.slice A n c] w (Ret w (.bool true)) := by
  have HR := Lib.hid hr
  have HL := Lib.hid hl
  clear hr hl
  by_cases hbig : (n : Int) > 1048576
  · have hd : decide ((n : Int) > 1048576) = true := decide_eq_true hbig
    go_enter Tryz.func3, Tryz.ntmps3
    go_wp2_with fail
    refine (big_l A n c w).mono ?_
    rw [hd]
    rintro e w1 ⟨rfl, hb1⟩
    clear hd
    go_wp2_with fail
    go_ret
    exact ⟨rfl, hb1⟩
  · have hd : decide ((n : Int) > 1048576) = false := decide_eq_false hbig
    have hn : n ≤ 1048576 := by omega
    clear hbig hm
    go_enter Tryz.func3, Tryz.ntmps3
    go_wp2_with fail
    refine (big_l A n c w).mono ?_
    rw [hd]
    rintro e w1 ⟨rfl, hb1⟩
    have HB1 := Lib.hid hb1
    clear hd hb1
    go_wp2_with fail
    refine (DrawSnakeWord_s A n c bs0 w1 (HR.out.below HB1.out) HL.out hn).mono ?_
    rintro e w2 ⟨D, k, cD, xs, rfl, hr2, hl2, hk, hkc, hb2⟩
    have HR2 := Lib.hid hr2
    have HL2 := Lib.hid hl2
    have HB2 := Lib.hid (bel_trans HB1.out hb2)
    obtain ⟨wd, hwd⟩ : ∃ wd, snakeWord xs = wd := ⟨_, rfl⟩
    obtain ⟨sn, hsn⟩ : ∃ sn, isSnake xs = sn := ⟨_, rfl⟩
    have hval : snakeWordV xs = .tuple #[.string (bs wd), .bool sn] := by unfold snakeWordV; rw [hwd, hsn]
    have HVAL := Lib.hid hval
    have hsne : (sn != sn) = false := by simp
    have HWD := Lib.hid hwd
    have HSNK := Lib.hid hsn
    clear hr2 hl2 hb2 hwd hsn hval
    go_wp2_with fail
    refine (SnakeWord_i D k cD xs w2 HR2.out HL2.out (by omega)).mono ?_
    rw [HVAL.out]
    rintro e w3 ⟨rfl, hb3⟩
    have HB3 := Lib.hid (bel_trans HB2.out hb3)
    have HD3 := Lib.hid hb3
    clear hb3
    go_wp2_with fail
    refine (SnakeWord_s D k cD xs w3 (HR2.out.below HD3.out) HL2.out (by omega)).mono ?_
    rw [HVAL.out]
    rintro e w4 ⟨rfl, hb4⟩
    have HB4 := Lib.hid (bel_trans HB3.out hb4)
    have HD4 := Lib.hid (bel_trans HD3.out hb4)
    clear hb4
    go_wp2_with fail
    refine (IsSnake_i D k cD xs w4 (HR2.out.below HD4.out) HL2.out (by omega)).mono ?_
    rw [HSNK.out]
    rintro e w5 ⟨rfl, hb5⟩
    have HB5 := Lib.hid (bel_trans HB4.out hb5)
    have HD5 := Lib.hid (bel_trans HD4.out hb5)
    clear hb5
    cases sn with
    | false =>
      go_wp2_with fail
      refine (DrawShapeOfWord_s A n c bs0 w5 (HR.out.below HB5.out) HL.out hn).mono ?_
      rintro e v1 ⟨ta, rfl, hta, hv1⟩
      have HV1 := Lib.hid (bel_trans HB5.out hv1)
      obtain ⟨xa, hxa⟩ : ∃ xa, (sowV ta.data.toList).1 = xa := ⟨_, rfl⟩
      obtain ⟨ba, hba⟩ : ∃ ba, (sowV ta.data.toList).2 = ba := ⟨_, rfl⟩
      have hxl := sow_len ta.data.toList
      rw [data_len, hxa] at hxl
      have hxl2 : xa.length ≤ 9 := by omega
      have HXA := Lib.hid hxa
      have HBA := Lib.hid hba
      have hbae : (ba == ba) = true := by simp
      clear hxl hxa hba hv1
      go_wp2_with fail
      refine (ShapeOfWord_i ta v1 (by omega)).mono ?_
      rw [HXA.out, HBA.out]
      rintro e v2 ⟨E1, m1, c1, rfl, ho1, hv2⟩
      have HM1 := Lib.hid (by have h1 := own_len ho1; rw [vC_length] at h1; omega : xa.length = m1)
      have HO1 := Lib.hid (Rd.of_own ho1)
      have HV2 := Lib.hid (bel_trans HV1.out hv2)
      have hm1 : m1 ≤ 9 := by have := HM1.out; omega
      clear ho1 hv2
      go_wp2_with fail
      refine (ShapeOfWord_s ta v2 (by omega)).mono ?_
      rw [HXA.out, HBA.out]
      rintro e v3 ⟨E2, m2, c2, rfl, ho2, hv3⟩
      have HM2 := Lib.hid (by have h1 := own_len ho2; rw [vC_length] at h1; omega : xa.length = m2)
      have HO2 := Lib.hid (Rd.of_own ho2)
      have HO13 := Lib.hid (HO1.out.below hv3)
      have HV3 := Lib.hid (bel_trans HV2.out hv3)
      have hm2 : m2 ≤ 9 := by have := HM2.out; omega
      clear ho2 hv3 HO1
      go_wp2_with fail
      refine (DrawReverseWord_s A n c bs0 v3 (HR.out.below HV3.out) HL.out hn).mono ?_
      rintro e v4 ⟨td, rfl, htd, hv4⟩
      have HK4 := Lib.hid hv4
      have HV4 := Lib.hid (bel_trans HV3.out hv4)
      obtain ⟨qd, bd, hrv⟩ := revV_form td
      have HRV := Lib.hid hrv
      have hbde : (bd == bd) = true := by simp
      clear hv4 hrv
      go_wp2_with fail
      refine (ReverseWord_i td v4 (by unfold maxLen; omega)).mono ?_
      rw [HRV.out]
      rintro e v5 ⟨rfl, hv5⟩
      have HK5 := Lib.hid (bel_trans HK4.out hv5)
      have HV5 := Lib.hid (bel_trans HV4.out hv5)
      clear hv5
      go_wp2_with fail
      refine (ReverseWord_s td v5 (by unfold maxLen; omega)).mono ?_
      rw [HRV.out]
      rintro e v6 ⟨rfl, hv6⟩
      have HK6 := Lib.hid (bel_trans HK5.out hv6)
      have HV6 := Lib.hid (bel_trans HV5.out hv6)
      clear hv6
      go_wp2_with fail
      refine (DrawEndsOf_s A n c bs0 v6 (HR.out.below HV6.out) HL.out hn).mono ?_
      rintro e v7 ⟨G, kg, cg, gs, rfl, hrg, hlg, hkg, hkcg, hv7⟩
      have HRG := Lib.hid hrg
      have HLG := Lib.hid hlg
      have HK7 := Lib.hid (bel_trans HK6.out hv7)
      have HV7 := Lib.hid (bel_trans HV6.out hv7)
      clear hrg hlg hv7
      go_wp2_with fail
      refine (DrawSnakeOrder_s A n c bs0 v7 (HR.out.below HV7.out) HL.out hn).mono ?_
      rintro e v8 ⟨Hh, kh, ch, hs, rfl, hrh, hlh, hkh, hkch, hv8⟩
      have HRH := Lib.hid hrh
      have HLH := Lib.hid hlh
      have HRG8 := Lib.hid (HRG.out.below hv8)
      have HK8 := Lib.hid (bel_trans HK7.out hv8)
      have HV8 := Lib.hid (bel_trans HV7.out hv8)
      obtain ⟨so, hso⟩ : ∃ so, snakeOrder hs = so := ⟨_, rfl⟩
      obtain ⟨si, hsi⟩ : ∃ si, isSnake hs = si := ⟨_, rfl⟩
      have hsol := snakeOrder_le hs
      rw [hso] at hsol
      have HSO := Lib.hid hso
      have HSI := Lib.hid hsi
      have hsie : (si == si) = true := by simp
      clear hrh hlh hv8 hso hsi HRG
      go_wp2_with fail
      refine (SnakeOrder_i Hh kh ch hs v8 HRH.out HLH.out (by omega)).mono ?_
      rw [HSO.out, HSI.out]
      rintro e v9 ⟨E3, m3, c3, rfl, ho3, hv9⟩
      have HM3 := Lib.hid (by have h1 := own_len ho3; rw [vC_length] at h1; omega : so.length = m3)
      have HO3 := Lib.hid (Rd.of_own ho3)
      have hm3 : m3 ≤ 1048576 := by have := HM3.out; omega
      have HK9 := Lib.hid (bel_trans HK8.out hv9)
      have HV9 := Lib.hid (bel_trans HV8.out hv9)
      have HRG9 := Lib.hid (HRG8.out.below hv9)
      have HRH9 := Lib.hid (HRH.out.below hv9)
      clear ho3 hv9 HRG8 HRH
      go_wp2_with fail
      refine (SnakeOrder_s Hh kh ch hs v9 HRH9.out HLH.out (by omega)).mono ?_
      rw [HSO.out, HSI.out]
      rintro e y1 ⟨E4, m4, c4, rfl, ho4, hy1⟩
      have HM4 := Lib.hid (by have h1 := own_len ho4; rw [vC_length] at h1; omega : so.length = m4)
      have HO4 := Lib.hid (Rd.of_own ho4)
      have hm4 : m4 ≤ 1048576 := by have := HM4.out; omega
      have HK10 := Lib.hid (bel_trans HK9.out hy1)
      have HV10 := Lib.hid (bel_trans HV9.out hy1)
      have HRG10 := Lib.hid (HRG9.out.below hy1)
      have HO310 := Lib.hid (HO3.out.below hy1)
      clear ho4 hy1 HRG9 HRH9 HO3
      go_wp2_with fail
      refine (DrawCountSnakes_s A n c bs0 y1 (HR.out.below HV10.out) HL.out hn).mono ?_
      rintro e y2 ⟨qc, rfl, hqc, hy2⟩
      obtain ⟨nn, hnn⟩ : ∃ nn : Int, (qc : Int) - 1 = nn := ⟨_, rfl⟩
      rw [hnn]
      obtain ⟨cs, hcs⟩ : ∃ cs, snkV nn = cs := ⟨_, rfl⟩
      have HCS := Lib.hid hcs
      have hcse : (cs == cs) = true := by simp
      have HK11 := Lib.hid (bel_trans HK10.out hy2)
      have HV11 := Lib.hid (bel_trans HV10.out hy2)
      have HY2 := Lib.hid hy2
      clear hy2 hnn hcs hqc
      go_wp2_with fail
      refine (EqualShapes_s E1 E2 m1 c1 m2 c2 xa xa y2 (HO13.out.below HK11.out) (HO2.out.below HK11.out) HM1.out HM2.out (by omega) (by omega)).mono ?_
      rw [show decide (xa = xa) = true from by simp]
      rintro e y3 ⟨rfl, hy3⟩
      have HL3 := Lib.hid (bel_trans HY2.out hy3)
      have HV12 := Lib.hid (bel_trans HV11.out hy3)
      clear hy3
      go_wp2_with fail
      refine (EndsOf_i G kg cg gs y3 (HRG10.out.below HL3.out) HLG.out (by omega)).mono ?_
      have hel := ends_len gs
      obtain ⟨en, hen⟩ : ∃ en, ends gs = en := ⟨_, rfl⟩
      rw [hen] at hel
      have HEN := Lib.hid hen
      rw [HEN.out]
      clear hen
      rintro e y4 ⟨E5, m5, c5, rfl, ho5, hy4⟩
      have HM5 := Lib.hid (by have h1 := own_len ho5; rw [vC_length] at h1; omega : en.length = m5)
      have HO5 := Lib.hid (Rd.of_own ho5)
      have hm5 : m5 ≤ 1048576 := by have := HM5.out; omega
      have HL4 := Lib.hid (bel_trans HL3.out hy4)
      have HV13 := Lib.hid (bel_trans HV12.out hy4)
      clear ho5 hy4
      go_wp2_with fail
      refine (EndsOf_s G kg cg gs y4 (HRG10.out.below HL4.out) HLG.out (by omega)).mono ?_
      rw [HEN.out]
      rintro e y5 ⟨E6, m6, c6, rfl, ho6, hy5⟩
      have HM6 := Lib.hid (by have h1 := own_len ho6; rw [vC_length] at h1; omega : en.length = m6)
      have HO6 := Lib.hid (Rd.of_own ho6)
      have hm6 : m6 ≤ 1048576 := by have := HM6.out; omega
      have HO55 := Lib.hid (HO5.out.below hy5)
      have HL5 := Lib.hid (bel_trans HL4.out hy5)
      have HV14 := Lib.hid (bel_trans HV13.out hy5)
      clear ho6 hy5 HO5
      go_wp2_with fail
      refine (EqualShapes_s E5 E6 m5 c5 m6 c6 en en y5 HO55.out HO6.out HM5.out HM6.out (by omega) (by omega)).mono ?_
      rw [show decide (en = en) = true from by simp]
      rintro e y6 ⟨rfl, hy6⟩
      have HL6 := Lib.hid (bel_trans HL5.out hy6)
      have HV15 := Lib.hid (bel_trans HV14.out hy6)
      clear hy6
      go_wp2_with fail
      refine (EqualShapes_s E3 E4 m3 c3 m4 c4 so so y6 (HO310.out.below HL6.out) (HO4.out.below HL6.out) HM3.out HM4.out (by omega) (by omega)).mono ?_
      rw [show decide (so = so) = true from by simp]
      rintro e y7 ⟨rfl, hy7⟩
      have HV16 := Lib.hid (bel_trans HV15.out hy7)
      clear hy7
      go_wp2_with fail
      refine (CountSnakes_i nn y7).mono ?_
      rw [HCS.out]
      rintro e y8 ⟨rfl, hy8⟩
      have HV17 := Lib.hid (bel_trans HV16.out hy8)
      clear hy8
      go_wp2_with fail
      refine (CountSnakes_s nn y8).mono ?_
      rw [HCS.out]
      rintro e y9 ⟨rfl, hy9⟩
      go_wp2_with fail
      go_ret
      exact ⟨rfl, bel_trans HV17.out hy9⟩
    | true =>
      have hsn := HSNK.out
      have e0 := HWD.out
      have hsnw : sowV wd = (cornS xs, true) ∧ sowV (revW wd) = (cornS xs, true) ∧ wd.all isS = true ∧ wd.length = xs.length - 1 := by rw [← e0]; exact snake_word hsn
      obtain ⟨p1, p2, p3, p4⟩ := hsnw
      have hsh := conn_shape (tree_conn (snake_tree hsn))
      have hsl := shape_len hsh
      have hol := snakeOrder_len hsn
      have hcl : (cornS xs).length = xs.length := mv_len _ _ _
      have hend : 2 ≤ xs.length → (ends xs).length = 2 := fun h => ends_two hsn h
      have hwl : (bs wd).size + 1 = k := by rw [bs_size, p4, HL2.out]; have := HL2.out; omega
      have hrl : (revW wd).length = wd.length := by unfold revW; simp
      have hyl : (bs (revW wd)).size ≤ 8 := by rw [bs_size, hrl, p4]; omega
      have hgood := revV_good (bs wd) (by have := HL2.out; omega) (by rw [bs_data]; exact p3)
      rw [bs_data] at hgood
      rw [HL2.out] at hsl hol hcl hend
      have HSW := Lib.hid p1
      have HSR := Lib.hid p2
      have HSH := Lib.hid hsh
      have HOL := Lib.hid hol
      have HCL := Lib.hid hcl
      have HEND := Lib.hid hend
      have HGD := Lib.hid hgood
      have HSN := Lib.hid hsn
      have hk8 : 1 ≤ k ∧ k ≤ 8 := hsl
      have hw8 : (bs wd).size ≤ 8 := by omega
      have HWL := Lib.hid hwl
      obtain ⟨yr, hyr⟩ : ∃ yr, bs (revW wd) = yr := ⟨_, rfl⟩
      obtain ⟨vv, hvv⟩ : ∃ vv, bs wd = vv := ⟨_, rfl⟩
      have hvd : vv.data.toList = wd := by rw [← hvv, bs_data]
      have hyd : yr.data.toList = revW wd := by rw [← hyr, bs_data]
      rw [hyr] at hyl HGD
      rw [hvv] at hw8 HWL HGD ⊢
      have HVD := Lib.hid hvd
      have HYD := Lib.hid hyd
      clear p1 p2 p3 p4 hsh hsl hol hcl hend hwl hrl hgood hsn e0 hyr hvv hvd hyd
      go_wp2_with fail
      refine (ShapeOfWord_i vv w5 (by omega)).mono ?_
      rw [HVD.out, HSW.out]
      rintro e w6 ⟨X1, z1, cx1, rfl, ho1, hb6⟩
      obtain rfl : z1 = k := by have h1 := own_len ho1; rw [vC_length, HCL.out] at h1; omega
      have HX1 := Lib.hid (Rd.of_own ho1)
      have HB6 := Lib.hid (bel_trans HB5.out hb6)
      have HD6 := Lib.hid (bel_trans HD5.out hb6)
      clear ho1 hb6
      go_wp2_with fail
      refine (ReverseWord_i vv w6 (by unfold maxLen; omega)).mono ?_
      rw [HGD.out]
      rintro e w7 ⟨rfl, hb7⟩
      have HB7 := Lib.hid (bel_trans HB6.out hb7)
      have HD7 := Lib.hid (bel_trans HD6.out hb7)
      have HX17 := Lib.hid (HX1.out.below hb7)
      clear hb7 HX1
      go_wp2_with fail
      refine (ShapeOfWord_i yr w7 (by omega)).mono ?_
      rw [HYD.out, HSR.out]
      rintro e w8 ⟨X2, z2, cx2, rfl, ho2, hb8⟩
      obtain rfl : z2 = z1 := by have h1 := own_len ho2; rw [vC_length, HCL.out] at h1; omega
      have HX2 := Lib.hid (Rd.of_own ho2)
      have HX18 := Lib.hid (HX17.out.below hb8)
      have HB8 := Lib.hid (bel_trans HB7.out hb8)
      have HD8 := Lib.hid (bel_trans HD7.out hb8)
      clear ho2 hb8 HX17
      go_wp2_with fail
      refine (SnakeOrder_i D z2 cD xs w8 (HR2.out.below HD8.out) HL2.out (by omega)).mono ?_
      rw [HSN.out]
      rintro e w9 ⟨X3, z3, cx3, rfl, ho3, hb9⟩
      obtain rfl : z3 = z2 := by have h1 := own_len ho3; rw [vC_length, HOL.out] at h1; omega
      have HX19 := Lib.hid (HX18.out.below hb9)
      have HX29 := Lib.hid (HX2.out.below hb9)
      have HB9 := Lib.hid (bel_trans HB8.out hb9)
      have HD9 := Lib.hid (bel_trans HD8.out hb9)
      clear ho3 hb9 HX18 HX2
      go_wp2_with fail
      refine (CornerShape_sn D z3 cD xs w9 (HR2.out.below HD9.out) HL2.out HSH.out).mono ?_
      rintro e x1 ⟨X4, z4, cx4, rfl, ho4, hx1⟩
      obtain rfl : z4 = z3 := by have h1 := own_len ho4; rw [vC_length, HCL.out] at h1; omega
      have HX4 := Lib.hid (Rd.of_own ho4)
      have HX110 := Lib.hid (HX19.out.below hx1)
      have HX210 := Lib.hid (HX29.out.below hx1)
      have HB10 := Lib.hid (bel_trans HB9.out hx1)
      have HD10 := Lib.hid (bel_trans HD9.out hx1)
      clear ho4 hx1 HX19 HX29
      go_wp2_with fail
      refine (EqualShapes_s X1 X4 z4 cx1 z4 cx4 (cornS xs) (cornS xs) x1 HX110.out HX4.out HCL.out HCL.out (by omega) (by omega)).mono ?_
      rw [show decide (cornS xs = cornS xs) = true from by simp]
      rintro e x2 ⟨rfl, hx2⟩
      have HX111 := Lib.hid (HX110.out.below hx2)
      have HX211 := Lib.hid (HX210.out.below hx2)
      have HB11 := Lib.hid (bel_trans HB10.out hx2)
      have HD11 := Lib.hid (bel_trans HD10.out hx2)
      clear hx2
      go_wp2_with fail
      refine (EqualShapes_s X2 X1 z4 cx2 z4 cx1 (cornS xs) (cornS xs) x2 HX211.out HX111.out HCL.out HCL.out (by omega) (by omega)).mono ?_
      rw [show decide (cornS xs = cornS xs) = true from by simp]
      rintro e x3 ⟨rfl, hx3⟩
      have HB12 := Lib.hid (bel_trans HB11.out hx3)
      have HD12 := Lib.hid (bel_trans HD11.out hx3)
      have hkk : ((z4 : Int) != (z4 : Int)) = false := by simp
      have hkw : IntKind.i64.wrap ((z4 : Int) - 1) = (z4 : Int) - 1 := Go.IntWalk.i64_in _ (by omega)
      have hkv : ((vv.size : Int) != (z4 : Int) - 1) = false := by
        have h := HWL.out
        have e1 : (vv.size : Int) = (z4 : Int) - 1 := by omega
        rw [e1]; simp
      clear hx3
      by_cases hk1 : (z4 : Int) > 1
      · have hendl := HEND.out (by omega)
        have HE2 := Lib.hid hendl
        clear hendl
        go_wp2_with fail
        refine (EndsOf_i D z4 cD xs x3 (HR2.out.below HD12.out) HL2.out (by omega)).mono ?_
        rintro e x4 ⟨X5, z5, cx5, rfl, ho5, hx4⟩
        obtain rfl : z5 = 2 := by have h1 := own_len ho5; rw [vC_length, HE2.out] at h1; omega
        have HB13 := Lib.hid (bel_trans HB12.out hx4)
        clear ho5 hx4
        go_wp2_with fail
        refine (DrawShapeOfWord_s A n c bs0 x4 (HR.out.below HB13.out) HL.out hn).mono ?_
        rintro e v1 ⟨ta, rfl, hta, hv1⟩
        have HV1 := Lib.hid (bel_trans HB13.out hv1)
        obtain ⟨xa, hxa⟩ : ∃ xa, (sowV ta.data.toList).1 = xa := ⟨_, rfl⟩
        obtain ⟨ba, hba⟩ : ∃ ba, (sowV ta.data.toList).2 = ba := ⟨_, rfl⟩
        have hxl := sow_len ta.data.toList
        rw [data_len, hxa] at hxl
        have hxl2 : xa.length ≤ 9 := by omega
        have HXA := Lib.hid hxa
        have HBA := Lib.hid hba
        have hbae : (ba == ba) = true := by simp
        clear hxl hxa hba hv1
        go_wp2_with fail
        refine (ShapeOfWord_i ta v1 (by omega)).mono ?_
        rw [HXA.out, HBA.out]
        rintro e v2 ⟨E1, m1, c1, rfl, ho1, hv2⟩
        have HM1 := Lib.hid (by have h1 := own_len ho1; rw [vC_length] at h1; omega : xa.length = m1)
        have HO1 := Lib.hid (Rd.of_own ho1)
        have HV2 := Lib.hid (bel_trans HV1.out hv2)
        have hm1 : m1 ≤ 9 := by have := HM1.out; omega
        clear ho1 hv2
        go_wp2_with fail
        refine (ShapeOfWord_s ta v2 (by omega)).mono ?_
        rw [HXA.out, HBA.out]
        rintro e v3 ⟨E2, m2, c2, rfl, ho2, hv3⟩
        have HM2 := Lib.hid (by have h1 := own_len ho2; rw [vC_length] at h1; omega : xa.length = m2)
        have HO2 := Lib.hid (Rd.of_own ho2)
        have HO13 := Lib.hid (HO1.out.below hv3)
        have HV3 := Lib.hid (bel_trans HV2.out hv3)
        have hm2 : m2 ≤ 9 := by have := HM2.out; omega
        clear ho2 hv3 HO1
        go_wp2_with fail
        refine (DrawReverseWord_s A n c bs0 v3 (HR.out.below HV3.out) HL.out hn).mono ?_
        rintro e v4 ⟨td, rfl, htd, hv4⟩
        have HK4 := Lib.hid hv4
        have HV4 := Lib.hid (bel_trans HV3.out hv4)
        obtain ⟨qd, bd, hrv⟩ := revV_form td
        have HRV := Lib.hid hrv
        have hbde : (bd == bd) = true := by simp
        clear hv4 hrv
        go_wp2_with fail
        refine (ReverseWord_i td v4 (by unfold maxLen; omega)).mono ?_
        rw [HRV.out]
        rintro e v5 ⟨rfl, hv5⟩
        have HK5 := Lib.hid (bel_trans HK4.out hv5)
        have HV5 := Lib.hid (bel_trans HV4.out hv5)
        clear hv5
        go_wp2_with fail
        refine (ReverseWord_s td v5 (by unfold maxLen; omega)).mono ?_
        rw [HRV.out]
        rintro e v6 ⟨rfl, hv6⟩
        have HK6 := Lib.hid (bel_trans HK5.out hv6)
        have HV6 := Lib.hid (bel_trans HV5.out hv6)
        clear hv6
        go_wp2_with fail
        refine (DrawEndsOf_s A n c bs0 v6 (HR.out.below HV6.out) HL.out hn).mono ?_
        rintro e v7 ⟨G, kg, cg, gs, rfl, hrg, hlg, hkg, hkcg, hv7⟩
        have HRG := Lib.hid hrg
        have HLG := Lib.hid hlg
        have HK7 := Lib.hid (bel_trans HK6.out hv7)
        have HV7 := Lib.hid (bel_trans HV6.out hv7)
        clear hrg hlg hv7
        go_wp2_with fail
        refine (DrawSnakeOrder_s A n c bs0 v7 (HR.out.below HV7.out) HL.out hn).mono ?_
        rintro e v8 ⟨Hh, kh, ch, hs, rfl, hrh, hlh, hkh, hkch, hv8⟩
        have HRH := Lib.hid hrh
        have HLH := Lib.hid hlh
        have HRG8 := Lib.hid (HRG.out.below hv8)
        have HK8 := Lib.hid (bel_trans HK7.out hv8)
        have HV8 := Lib.hid (bel_trans HV7.out hv8)
        obtain ⟨so, hso⟩ : ∃ so, snakeOrder hs = so := ⟨_, rfl⟩
        obtain ⟨si, hsi⟩ : ∃ si, isSnake hs = si := ⟨_, rfl⟩
        have hsol := snakeOrder_le hs
        rw [hso] at hsol
        have HSO := Lib.hid hso
        have HSI := Lib.hid hsi
        have hsie : (si == si) = true := by simp
        clear hrh hlh hv8 hso hsi HRG
        go_wp2_with fail
        refine (SnakeOrder_i Hh kh ch hs v8 HRH.out HLH.out (by omega)).mono ?_
        rw [HSO.out, HSI.out]
        rintro e v9 ⟨E3, m3, c3, rfl, ho3, hv9⟩
        have HM3 := Lib.hid (by have h1 := own_len ho3; rw [vC_length] at h1; omega : so.length = m3)
        have HO3 := Lib.hid (Rd.of_own ho3)
        have hm3 : m3 ≤ 1048576 := by have := HM3.out; omega
        have HK9 := Lib.hid (bel_trans HK8.out hv9)
        have HV9 := Lib.hid (bel_trans HV8.out hv9)
        have HRG9 := Lib.hid (HRG8.out.below hv9)
        have HRH9 := Lib.hid (HRH.out.below hv9)
        clear ho3 hv9 HRG8 HRH
        go_wp2_with fail
        refine (SnakeOrder_s Hh kh ch hs v9 HRH9.out HLH.out (by omega)).mono ?_
        rw [HSO.out, HSI.out]
        rintro e y1 ⟨E4, m4, c4, rfl, ho4, hy1⟩
        have HM4 := Lib.hid (by have h1 := own_len ho4; rw [vC_length] at h1; omega : so.length = m4)
        have HO4 := Lib.hid (Rd.of_own ho4)
        have hm4 : m4 ≤ 1048576 := by have := HM4.out; omega
        have HK10 := Lib.hid (bel_trans HK9.out hy1)
        have HV10 := Lib.hid (bel_trans HV9.out hy1)
        have HRG10 := Lib.hid (HRG9.out.below hy1)
        have HO310 := Lib.hid (HO3.out.below hy1)
        clear ho4 hy1 HRG9 HRH9 HO3
        go_wp2_with fail
        refine (DrawCountSnakes_s A n c bs0 y1 (HR.out.below HV10.out) HL.out hn).mono ?_
        rintro e y2 ⟨qc, rfl, hqc, hy2⟩
        obtain ⟨nn, hnn⟩ : ∃ nn : Int, (qc : Int) - 1 = nn := ⟨_, rfl⟩
        rw [hnn]
        obtain ⟨cs, hcs⟩ : ∃ cs, snkV nn = cs := ⟨_, rfl⟩
        have HCS := Lib.hid hcs
        have hcse : (cs == cs) = true := by simp
        have HK11 := Lib.hid (bel_trans HK10.out hy2)
        have HV11 := Lib.hid (bel_trans HV10.out hy2)
        have HY2 := Lib.hid hy2
        clear hy2 hnn hcs hqc
        go_wp2_with fail
        refine (EqualShapes_s E1 E2 m1 c1 m2 c2 xa xa y2 (HO13.out.below HK11.out) (HO2.out.below HK11.out) HM1.out HM2.out (by omega) (by omega)).mono ?_
        rw [show decide (xa = xa) = true from by simp]
        rintro e y3 ⟨rfl, hy3⟩
        have HL3 := Lib.hid (bel_trans HY2.out hy3)
        have HV12 := Lib.hid (bel_trans HV11.out hy3)
        clear hy3
        go_wp2_with fail
        refine (EndsOf_i G kg cg gs y3 (HRG10.out.below HL3.out) HLG.out (by omega)).mono ?_
        have hel := ends_len gs
        obtain ⟨en, hen⟩ : ∃ en, ends gs = en := ⟨_, rfl⟩
        rw [hen] at hel
        have HEN := Lib.hid hen
        rw [HEN.out]
        clear hen
        rintro e y4 ⟨E5, m5, c5, rfl, ho5, hy4⟩
        have HM5 := Lib.hid (by have h1 := own_len ho5; rw [vC_length] at h1; omega : en.length = m5)
        have HO5 := Lib.hid (Rd.of_own ho5)
        have hm5 : m5 ≤ 1048576 := by have := HM5.out; omega
        have HL4 := Lib.hid (bel_trans HL3.out hy4)
        have HV13 := Lib.hid (bel_trans HV12.out hy4)
        clear ho5 hy4
        go_wp2_with fail
        refine (EndsOf_s G kg cg gs y4 (HRG10.out.below HL4.out) HLG.out (by omega)).mono ?_
        rw [HEN.out]
        rintro e y5 ⟨E6, m6, c6, rfl, ho6, hy5⟩
        have HM6 := Lib.hid (by have h1 := own_len ho6; rw [vC_length] at h1; omega : en.length = m6)
        have HO6 := Lib.hid (Rd.of_own ho6)
        have hm6 : m6 ≤ 1048576 := by have := HM6.out; omega
        have HO55 := Lib.hid (HO5.out.below hy5)
        have HL5 := Lib.hid (bel_trans HL4.out hy5)
        have HV14 := Lib.hid (bel_trans HV13.out hy5)
        clear ho6 hy5 HO5
        go_wp2_with fail
        refine (EqualShapes_s E5 E6 m5 c5 m6 c6 en en y5 HO55.out HO6.out HM5.out HM6.out (by omega) (by omega)).mono ?_
        rw [show decide (en = en) = true from by simp]
        rintro e y6 ⟨rfl, hy6⟩
        have HL6 := Lib.hid (bel_trans HL5.out hy6)
        have HV15 := Lib.hid (bel_trans HV14.out hy6)
        clear hy6
        go_wp2_with fail
        refine (EqualShapes_s E3 E4 m3 c3 m4 c4 so so y6 (HO310.out.below HL6.out) (HO4.out.below HL6.out) HM3.out HM4.out (by omega) (by omega)).mono ?_
        rw [show decide (so = so) = true from by simp]
        rintro e y7 ⟨rfl, hy7⟩
        have HV16 := Lib.hid (bel_trans HV15.out hy7)
        clear hy7
        go_wp2_with fail
        refine (CountSnakes_i nn y7).mono ?_
        rw [HCS.out]
        rintro e y8 ⟨rfl, hy8⟩
        have HV17 := Lib.hid (bel_trans HV16.out hy8)
        clear hy8
        go_wp2_with fail
        refine (CountSnakes_s nn y8).mono ?_
        rw [HCS.out]
        rintro e y9 ⟨rfl, hy9⟩
        go_wp2_with fail
        go_ret
        exact ⟨rfl, bel_trans HV17.out hy9⟩
      · go_wp2_with fail
        refine (DrawShapeOfWord_s A n c bs0 x3 (HR.out.below HB12.out) HL.out hn).mono ?_
        rintro e v1 ⟨ta, rfl, hta, hv1⟩
        have HV1 := Lib.hid (bel_trans HB12.out hv1)
        obtain ⟨xa, hxa⟩ : ∃ xa, (sowV ta.data.toList).1 = xa := ⟨_, rfl⟩
        obtain ⟨ba, hba⟩ : ∃ ba, (sowV ta.data.toList).2 = ba := ⟨_, rfl⟩
        have hxl := sow_len ta.data.toList
        rw [data_len, hxa] at hxl
        have hxl2 : xa.length ≤ 9 := by omega
        have HXA := Lib.hid hxa
        have HBA := Lib.hid hba
        have hbae : (ba == ba) = true := by simp
        clear hxl hxa hba hv1
        go_wp2_with fail
        refine (ShapeOfWord_i ta v1 (by omega)).mono ?_
        rw [HXA.out, HBA.out]
        rintro e v2 ⟨E1, m1, c1, rfl, ho1, hv2⟩
        have HM1 := Lib.hid (by have h1 := own_len ho1; rw [vC_length] at h1; omega : xa.length = m1)
        have HO1 := Lib.hid (Rd.of_own ho1)
        have HV2 := Lib.hid (bel_trans HV1.out hv2)
        have hm1 : m1 ≤ 9 := by have := HM1.out; omega
        clear ho1 hv2
        go_wp2_with fail
        refine (ShapeOfWord_s ta v2 (by omega)).mono ?_
        rw [HXA.out, HBA.out]
        rintro e v3 ⟨E2, m2, c2, rfl, ho2, hv3⟩
        have HM2 := Lib.hid (by have h1 := own_len ho2; rw [vC_length] at h1; omega : xa.length = m2)
        have HO2 := Lib.hid (Rd.of_own ho2)
        have HO13 := Lib.hid (HO1.out.below hv3)
        have HV3 := Lib.hid (bel_trans HV2.out hv3)
        have hm2 : m2 ≤ 9 := by have := HM2.out; omega
        clear ho2 hv3 HO1
        go_wp2_with fail
        refine (DrawReverseWord_s A n c bs0 v3 (HR.out.below HV3.out) HL.out hn).mono ?_
        rintro e v4 ⟨td, rfl, htd, hv4⟩
        have HK4 := Lib.hid hv4
        have HV4 := Lib.hid (bel_trans HV3.out hv4)
        obtain ⟨qd, bd, hrv⟩ := revV_form td
        have HRV := Lib.hid hrv
        have hbde : (bd == bd) = true := by simp
        clear hv4 hrv
        go_wp2_with fail
        refine (ReverseWord_i td v4 (by unfold maxLen; omega)).mono ?_
        rw [HRV.out]
        rintro e v5 ⟨rfl, hv5⟩
        have HK5 := Lib.hid (bel_trans HK4.out hv5)
        have HV5 := Lib.hid (bel_trans HV4.out hv5)
        clear hv5
        go_wp2_with fail
        refine (ReverseWord_s td v5 (by unfold maxLen; omega)).mono ?_
        rw [HRV.out]
        rintro e v6 ⟨rfl, hv6⟩
        have HK6 := Lib.hid (bel_trans HK5.out hv6)
        have HV6 := Lib.hid (bel_trans HV5.out hv6)
        clear hv6
        go_wp2_with fail
        refine (DrawEndsOf_s A n c bs0 v6 (HR.out.below HV6.out) HL.out hn).mono ?_
        rintro e v7 ⟨G, kg, cg, gs, rfl, hrg, hlg, hkg, hkcg, hv7⟩
        have HRG := Lib.hid hrg
        have HLG := Lib.hid hlg
        have HK7 := Lib.hid (bel_trans HK6.out hv7)
        have HV7 := Lib.hid (bel_trans HV6.out hv7)
        clear hrg hlg hv7
        go_wp2_with fail
        refine (DrawSnakeOrder_s A n c bs0 v7 (HR.out.below HV7.out) HL.out hn).mono ?_
        rintro e v8 ⟨Hh, kh, ch, hs, rfl, hrh, hlh, hkh, hkch, hv8⟩
        have HRH := Lib.hid hrh
        have HLH := Lib.hid hlh
        have HRG8 := Lib.hid (HRG.out.below hv8)
        have HK8 := Lib.hid (bel_trans HK7.out hv8)
        have HV8 := Lib.hid (bel_trans HV7.out hv8)
        obtain ⟨so, hso⟩ : ∃ so, snakeOrder hs = so := ⟨_, rfl⟩
        obtain ⟨si, hsi⟩ : ∃ si, isSnake hs = si := ⟨_, rfl⟩
        have hsol := snakeOrder_le hs
        rw [hso] at hsol
        have HSO := Lib.hid hso
        have HSI := Lib.hid hsi
        have hsie : (si == si) = true := by simp
        clear hrh hlh hv8 hso hsi HRG
        go_wp2_with fail
        refine (SnakeOrder_i Hh kh ch hs v8 HRH.out HLH.out (by omega)).mono ?_
        rw [HSO.out, HSI.out]
        rintro e v9 ⟨E3, m3, c3, rfl, ho3, hv9⟩
        have HM3 := Lib.hid (by have h1 := own_len ho3; rw [vC_length] at h1; omega : so.length = m3)
        have HO3 := Lib.hid (Rd.of_own ho3)
        have hm3 : m3 ≤ 1048576 := by have := HM3.out; omega
        have HK9 := Lib.hid (bel_trans HK8.out hv9)
        have HV9 := Lib.hid (bel_trans HV8.out hv9)
        have HRG9 := Lib.hid (HRG8.out.below hv9)
        have HRH9 := Lib.hid (HRH.out.below hv9)
        clear ho3 hv9 HRG8 HRH
        go_wp2_with fail
        refine (SnakeOrder_s Hh kh ch hs v9 HRH9.out HLH.out (by omega)).mono ?_
        rw [HSO.out, HSI.out]
        rintro e y1 ⟨E4, m4, c4, rfl, ho4, hy1⟩
        have HM4 := Lib.hid (by have h1 := own_len ho4; rw [vC_length] at h1; omega : so.length = m4)
        have HO4 := Lib.hid (Rd.of_own ho4)
        have hm4 : m4 ≤ 1048576 := by have := HM4.out; omega
        have HK10 := Lib.hid (bel_trans HK9.out hy1)
        have HV10 := Lib.hid (bel_trans HV9.out hy1)
        have HRG10 := Lib.hid (HRG9.out.below hy1)
        have HO310 := Lib.hid (HO3.out.below hy1)
        clear ho4 hy1 HRG9 HRH9 HO3
        go_wp2_with fail
        refine (DrawCountSnakes_s A n c bs0 y1 (HR.out.below HV10.out) HL.out hn).mono ?_
        rintro e y2 ⟨qc, rfl, hqc, hy2⟩
        obtain ⟨nn, hnn⟩ : ∃ nn : Int, (qc : Int) - 1 = nn := ⟨_, rfl⟩
        rw [hnn]
        obtain ⟨cs, hcs⟩ : ∃ cs, snkV nn = cs := ⟨_, rfl⟩
        have HCS := Lib.hid hcs
        have hcse : (cs == cs) = true := by simp
        have HK11 := Lib.hid (bel_trans HK10.out hy2)
        have HV11 := Lib.hid (bel_trans HV10.out hy2)
        have HY2 := Lib.hid hy2
        clear hy2 hnn hcs hqc
        go_wp2_with fail
        refine (EqualShapes_s E1 E2 m1 c1 m2 c2 xa xa y2 (HO13.out.below HK11.out) (HO2.out.below HK11.out) HM1.out HM2.out (by omega) (by omega)).mono ?_
        rw [show decide (xa = xa) = true from by simp]
        rintro e y3 ⟨rfl, hy3⟩
        have HL3 := Lib.hid (bel_trans HY2.out hy3)
        have HV12 := Lib.hid (bel_trans HV11.out hy3)
        clear hy3
        go_wp2_with fail
        refine (EndsOf_i G kg cg gs y3 (HRG10.out.below HL3.out) HLG.out (by omega)).mono ?_
        have hel := ends_len gs
        obtain ⟨en, hen⟩ : ∃ en, ends gs = en := ⟨_, rfl⟩
        rw [hen] at hel
        have HEN := Lib.hid hen
        rw [HEN.out]
        clear hen
        rintro e y4 ⟨E5, m5, c5, rfl, ho5, hy4⟩
        have HM5 := Lib.hid (by have h1 := own_len ho5; rw [vC_length] at h1; omega : en.length = m5)
        have HO5 := Lib.hid (Rd.of_own ho5)
        have hm5 : m5 ≤ 1048576 := by have := HM5.out; omega
        have HL4 := Lib.hid (bel_trans HL3.out hy4)
        have HV13 := Lib.hid (bel_trans HV12.out hy4)
        clear ho5 hy4
        go_wp2_with fail
        refine (EndsOf_s G kg cg gs y4 (HRG10.out.below HL4.out) HLG.out (by omega)).mono ?_
        rw [HEN.out]
        rintro e y5 ⟨E6, m6, c6, rfl, ho6, hy5⟩
        have HM6 := Lib.hid (by have h1 := own_len ho6; rw [vC_length] at h1; omega : en.length = m6)
        have HO6 := Lib.hid (Rd.of_own ho6)
        have hm6 : m6 ≤ 1048576 := by have := HM6.out; omega
        have HO55 := Lib.hid (HO5.out.below hy5)
        have HL5 := Lib.hid (bel_trans HL4.out hy5)
        have HV14 := Lib.hid (bel_trans HV13.out hy5)
        clear ho6 hy5 HO5
        go_wp2_with fail
        refine (EqualShapes_s E5 E6 m5 c5 m6 c6 en en y5 HO55.out HO6.out HM5.out HM6.out (by omega) (by omega)).mono ?_
        rw [show decide (en = en) = true from by simp]
        rintro e y6 ⟨rfl, hy6⟩
        have HL6 := Lib.hid (bel_trans HL5.out hy6)
        have HV15 := Lib.hid (bel_trans HV14.out hy6)
        clear hy6
        go_wp2_with fail
        refine (EqualShapes_s E3 E4 m3 c3 m4 c4 so so y6 (HO310.out.below HL6.out) (HO4.out.below HL6.out) HM3.out HM4.out (by omega) (by omega)).mono ?_
        rw [show decide (so = so) = true from by simp]
        rintro e y7 ⟨rfl, hy7⟩
        have HV16 := Lib.hid (bel_trans HV15.out hy7)
        clear hy7
        go_wp2_with fail
        refine (CountSnakes_i nn y7).mono ?_
        rw [HCS.out]
        rintro e y8 ⟨rfl, hy8⟩
        have HV17 := Lib.hid (bel_trans HV16.out hy8)
        clear hy8
        go_wp2_with fail
        refine (CountSnakes_s nn y8).mono ?_
        rw [HCS.out]
        rintro e y9 ⟨rfl, hy9⟩
        go_wp2_with fail
        go_ret
        exact ⟨rfl, bel_trans HV17.out hy9⟩

end Go.Proofs.YtfnphchcgaebkaaGreat
