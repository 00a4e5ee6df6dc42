/- Texts of this claim, one behind the other: part 6. -/
import Derived.Test.YtagkopemcabkpaaU5FnNets
import Derived.Outline
import Derived.WalkLawsBesides
import Derived.WalkSpells
import Derived.BigQuiet
import Derived.Deep.QuietTactic
import Derived.Deep.RegionHeld3
import Derived.Deep.RegionWith
import Derived.Deep.DeepCutAuto
import Derived.Deep.CutBlock
import Derived.Deep.DrawnRows
/- The law on nets. -/
namespace Go.Proofs.Ytagkopemcabkpaa
open Go.RowKit
set_option linter.unusedVariables false
attribute [local go_sem ↓] Go.wp_at_zero Go.wp_at_succ
theorem roll_back {xs : List Int} {d : Int} (h : xs = [0, 1, 2, 3, 4, 5] ∨ xs = [1, 2, 3, 4, 5]) (ho : rollOk xs d = true) :
    rollOk (rollV xs d) ((d + 2).tmod 4) = true ∧ rollV (rollV xs d) ((d + 2).tmod 4) = xs ∧ (0 ≤ d ∧ d ≤ 3) := by
  rcases h with rfl | rfl
  · simp only [rollOk, Bool.and_eq_true, decide_eq_true_eq] at ho
    obtain rfl | rfl | rfl | rfl : d = 0 ∨ d = 1 ∨ d = 2 ∨ d = 3 := by omega
    all_goals exact ⟨by decide, by decide, by decide, by decide⟩
  · simp [rollOk] at ho
theorem oppRow_two (l : List Int) (i : Nat) : ∀ j, (oppRow l i j).length ≤ j ∧ ∀ f ∈ oppRow l i j, f.length = 2
  | 0 => by simp [oppRow]
  | j + 1 => by
    obtain ⟨h1, h2⟩ := oppRow_two l i j
    show (oppRow l i j ++ _).length ≤ _ ∧ ∀ f ∈ oppRow l i j ++ _, _
    rw [List.length_append]
    refine ⟨by split <;> simp <;> omega, fun f hf => ?_⟩
    rcases List.mem_append.1 hf with hf | hf
    · exact h2 f hf
    · split at hf
      · simp only [List.mem_singleton] at hf; rw [hf]; rfl
      · simp at hf
theorem oppAll_two (l : List Int) : ∀ i, (oppAll l i).length ≤ l.length * i ∧ ∀ f ∈ oppAll l i, f.length = 2
  | 0 => by simp [oppAll]
  | i + 1 => by
    obtain ⟨h1, h2⟩ := oppAll_two l i
    obtain ⟨h3, h4⟩ := oppRow_two l i l.length
    show (oppAll l i ++ _).length ≤ _ ∧ ∀ f ∈ oppAll l i ++ _, _
    rw [List.length_append, Nat.mul_succ]
    refine ⟨by omega, fun f hf => ?_⟩
    rcases List.mem_append.1 hf with hf | hf
    · exact h2 f hf
    · exact h4 f hf
theorem opp_len (ys : List C) : (oppV ys).length ≤ 1048576 ∧ ∀ f ∈ oppV ys, f.length ≤ 1048576 := by
  unfold oppV
  split
  · next h =>
    have hc : isConn ys = true := (net_six h).1
    have h8 := faces_len8 hc
    obtain ⟨h1, h2⟩ := oppAll_two (faces ys) (faces ys).length
    have h3 : (faces ys).length * (faces ys).length ≤ 8 * 8 := Nat.mul_le_mul h8 h8
    exact ⟨by omega, fun f hf => by rw [h2 f hf]; omega⟩
  · simp
set_option maxRecDepth 100000 in
set_option maxHeartbeats 3200000 in
theorem law_FnNets (A : Option Addr) (n c : Nat) (bs : List UInt8) (w : World) (hr : Rd w A (vB bs)) (hl : bs.length = n) (hm : n ≤ maxLen) :
    Calls Try.prog 3 #[.slice A n c] w (Ret w (.bool true)) := by
  have HR := Lib.hid hr
  have HL := Lib.hid hl
  clear hr hl
  by_cases hbig : (n : Int) > 1048576
  · have hd : decide ((n : Int) > 1048576) = true := decide_eq_true hbig
    go_enter Try.func3, Try.ntmps3
    go_wp2_with fail
    refine (big_l A n c w).mono ?_
    rw [hd]
    rintro e w1 ⟨rfl, hb1⟩
    clear hd
    go_wp2_with fail
    go_ret
    exact ⟨rfl, hb1⟩
  · have hd : decide ((n : Int) > 1048576) = false := decide_eq_false hbig
    have hn : n ≤ 1048576 := by omega
    clear hbig hm
    go_enter Try.func3, Try.ntmps3
    go_wp2_with fail
    refine (big_l A n c w).mono ?_
    rw [hd]
    rintro e w1 ⟨rfl, hb1⟩
    have HB1 := Lib.hid hb1
    clear hd hb1
    go_wp2_with fail
    refine (DrawRollFaces_s A n c bs w1 (HR.out.below HB1.out) HL.out hn).mono ?_
    rintro e w2 ⟨F0, k0, c0, xs, d, rfl, hr2, hl2, hxs, hdd, hb2⟩
    have HR2 := Lib.hid hr2
    have HL2 := Lib.hid hl2
    have HB2 := Lib.hid (bel_trans HB1.out hb2)
    have hk0 : k0 ≤ 6 := by rw [← hl2]; rcases hxs with h | h <;> rw [h] <;> decide
    have hback := fun h => roll_back (d := d) hxs h
    obtain ⟨ok, hok⟩ : ∃ ok, rollOk xs d = ok := ⟨_, rfl⟩
    obtain ⟨ro, hro⟩ : ∃ ro, rollV xs d = ro := ⟨_, rfl⟩
    have hrl : ro.length ≤ 6 := by
      rw [← hro]
      unfold rollV
      split
      · rw [rollL_len]; omega
      · simp
    rw [hok, hro] at hback
    have HOK := Lib.hid hok
    have HRO := Lib.hid hro
    have HBACK := Lib.hid hback
    have hoo : (ok != ok) = false := by simp
    clear hr2 hl2 hb2 hxs hok hro hback
    go_wp2_with fail
    refine (RollFaces_i F0 k0 c0 xs d w2 HR2.out HL2.out (by omega)).mono ?_
    rw [HRO.out, HOK.out]
    rintro e w3 ⟨G, m3, c3, rfl, ho3, hb3⟩
    have hm3 : ro.length = m3 := by have h1 := own_len ho3; rw [vI_length] at h1; omega
    have HM3 := Lib.hid hm3
    have HO3 := Lib.hid (Rd.of_own ho3)
    have HB3 := Lib.hid (bel_trans HB2.out hb3)
    have HR3 := Lib.hid (HR2.out.below hb3)
    clear ho3 hb3
    go_wp2_with fail
    refine (RollFaces_s F0 k0 c0 xs d w3 HR3.out HL2.out (by omega)).mono ?_
    rw [HRO.out, HOK.out]
    rintro e w4 ⟨Hh, m4, c4, rfl, ho4, hb4⟩
    have hm4 : ro.length = m4 := by have h1 := own_len ho4; rw [vI_length] at h1; omega
    have HM4 := Lib.hid hm4
    have HO4 := Lib.hid (Rd.of_own ho4)
    have HO34 := Lib.hid (HO3.out.below hb4)
    have HB4 := Lib.hid (bel_trans HB3.out hb4)
    have HR4 := Lib.hid (HR3.out.below hb4)
    have hmb3 : m3 ≤ 1099511627776 := by omega
    have hmb4 : m4 ≤ 1099511627776 := by omega
    clear ho4 hb4 HO3 HR2 HR3 hm3 hm4
    go_wp2_with fail
    refine (sameInts_t G Hh m3 c3 m4 c4 ro w4 HO34.out HO4.out HM3.out HM4.out hmb3).mono ?_
    rintro e w5 ⟨rfl, hb5⟩
    have HX5 := Lib.hid hb5
    have HB5 := Lib.hid (bel_trans HB4.out hb5)
    clear hb5
    cases ok with
    | true =>
      obtain ⟨k1, k2, k3⟩ := HBACK.out rfl
      obtain ⟨d2, hd2⟩ : ∃ d2, (d + 2).tmod 4 = d2 := ⟨_, rfl⟩
      rw [hd2] at k1 k2
      have hw1 : IntKind.i64.wrap (d + 2) = d + 2 := Go.IntWalk.i64_in _ (by omega)
      have hd4 : 0 ≤ d2 ∧ d2 ≤ 3 := by rw [← hd2, Int.tmod_eq_emod_of_nonneg (by omega)]; omega
      have hw2 : IntKind.i64.wrap d2 = d2 := Go.IntWalk.i64_in _ (by omega)
      have K1 := Lib.hid k1
      have K2 := Lib.hid k2
      clear k1 k2 k3 HBACK
      go_wp2_with fail
      refine (RollFaces_i Hh m4 c4 ro d2 w5 (HO4.out.below HX5.out) HM4.out hmb4).mono ?_
      rw [K1.out, K2.out]
      rintro e w6 ⟨Q, m6, c6, rfl, ho6, hb6⟩
      have hm6 : xs.length = m6 := by have h1 := own_len ho6; rw [vI_length] at h1; omega
      have HM6 := Lib.hid hm6
      have HO6 := Lib.hid (Rd.of_own ho6)
      have HX6 := Lib.hid (bel_trans HX5.out hb6)
      have HB6 := Lib.hid (bel_trans HB5.out hb6)
      have hmb6 : m6 ≤ 1099511627776 := by have := HL2.out; omega
      clear ho6 hb6 hm6 hd2
      go_wp2_with fail
      refine (sameInts_t Q F0 m6 c6 k0 c0 xs w6 HO6.out (HR4.out.below HX6.out) HM6.out HL2.out hmb6).mono ?_
      rintro e w7 ⟨rfl, hb7⟩
      have HB7 := Lib.hid (bel_trans HB6.out hb7)
      clear hb7 hw1 hw2 hd4
      go_wp2_with fail
      refine (DrawIsCubeNet_s A n c bs w7 (HR.out.below HB7.out) HL.out hn).mono ?_
      rintro e v1 ⟨D, k, cD, ys, rfl, hr1, hl1, hk, hkc, hv1⟩
      have HY := Lib.hid hr1
      have HK := Lib.hid hl1
      have HV1 := Lib.hid (bel_trans HB7.out hv1)
      obtain ⟨b, hb⟩ : ∃ b, netV ys = b := ⟨_, rfl⟩
      obtain ⟨cc, hcc⟩ : ∃ cc, isConn ys = cc := ⟨_, rfl⟩
      obtain ⟨fl, hfl⟩ : ∃ fl, faces ys = fl := ⟨_, rfl⟩
      obtain ⟨op, hop⟩ : ∃ op, oppV ys = op := ⟨_, rfl⟩
      obtain ⟨fo, hfo⟩ : ∃ fo, foldV ys = fo := ⟨_, rfl⟩
      obtain ⟨fa, hfa⟩ : ∃ fa, facV ys = fa := ⟨_, rfl⟩
      obtain ⟨sq, hsq⟩ : ∃ sq : Int, (if isShape ys then ((sqV ys : Nat) : Int) else 0) = sq := ⟨_, rfl⟩
      have hgood : b = true → op.length = 3 ∧ fo = 0 ∧ sq = 0 := fun h => by
        obtain ⟨g1, g2, g3⟩ := net_good (hb.trans h)
        exact ⟨by rw [← hop]; exact g1, by rw [← hfo]; exact g2, by rw [← hsq, g3]; simp⟩
      have hturn : ∀ m, m < 8 → isShape ys = true → netV (turnV ys m) = b := fun m hm hs => by rw [turn_net hs m hm, hb]
      have hopl := opp_len ys
      have hfll := faces_len ys
      rw [hop] at hopl
      rw [hfl] at hfll
      have HNB := Lib.hid hb
      have HCC := Lib.hid hcc
      have HFL := Lib.hid hfl
      have HOP := Lib.hid hop
      have HFO := Lib.hid hfo
      have HFA := Lib.hid hfa
      have HSQ := Lib.hid hsq
      have HGOOD := Lib.hid hgood
      have HTURN := Lib.hid hturn
      have HOPL := Lib.hid hopl
      have hbb : (b != b) = false := by simp
      have hbe : (b == b) = true := by simp
      have hcne : (cc != cc) = false := by simp
      have hfne : (fo != fo) = false := by simp
      have hane : (fa != fa) = false := by simp
      clear hr1 hl1 hv1 hb hcc hfl hop hfo hfa hsq hgood hturn hopl
      go_wp2_with fail
      refine (IsCubeNet_i D k cD ys v1 HY.out HK.out (by omega)).mono ?_
      rw [HNB.out]
      rintro e v2 ⟨rfl, hv2⟩
      have HU2 := Lib.hid hv2
      clear hv2
      go_wp2_with fail
      refine (FacesOf_i D k cD ys v2 (HY.out.below HU2.out) HK.out (by omega)).mono ?_
      rw [HFL.out, HCC.out]
      rintro e v3 ⟨E1, m1, c1, rfl, ho1, hv3⟩
      have HU3 := Lib.hid (bel_trans HU2.out hv3)
      have hm1 : fl.length = m1 := by have h1 := own_len ho1; rw [vI_length] at h1; omega
      have HM1 := Lib.hid hm1
      have HO1 := Lib.hid (Rd.of_own ho1)
      clear ho1 hv3
      go_wp2_with fail
      refine (FacesOf_s D k cD ys v3 (HY.out.below HU3.out) HK.out (by omega)).mono ?_
      rw [HFL.out, HCC.out]
      rintro e v4 ⟨E2, m2, c2, rfl, ho2, hv4⟩
      have HU4 := Lib.hid (bel_trans HU3.out hv4)
      have hm2 : fl.length = m2 := by have h1 := own_len ho2; rw [vI_length] at h1; omega
      have HM2 := Lib.hid hm2
      have HO2 := Lib.hid (Rd.of_own ho2)
      have HO14 := Lib.hid (HO1.out.below hv4)
      have hmb1 : m1 ≤ 1099511627776 := by omega
      clear ho2 hv4 HO1 hm1 hm2
      go_wp2_with fail
      refine (OppositeFaces_i D k cD ys v4 (HY.out.below HU4.out) HK.out (by omega)).mono ?_
      rw [HOP.out]
      rintro e v5 ⟨P1, q1, d1, hs1, rfl, hp1, hv5⟩
      have HP1 := Lib.hid hp1
      have HV5 := Lib.hid hv5
      have HU5 := Lib.hid (bel_trans HU4.out hv5)
      have hq1 : op.length = q1 := hp1.flen
      have HQ1 := Lib.hid hq1
      clear hp1 hv5 hq1
      go_wp2_with fail
      refine (IsCubeNet_s D k cD ys v5 (HY.out.below HU5.out) HK.out (by omega)).mono ?_
      rw [HNB.out]
      rintro e v6 ⟨rfl, hv6⟩
      have HV6 := Lib.hid (bel_trans HV5.out hv6)
      have HX6 := Lib.hid hv6
      have HU6 := Lib.hid (bel_trans HU5.out hv6)
      clear hv6
      go_wp2_with fail
      refine (sameInts_t E1 E2 m1 c1 m2 c2 fl v6 (HO14.out.below HV6.out) (HO2.out.below HV6.out) HM1.out HM2.out hmb1).mono ?_
      rintro e v7 ⟨rfl, hv7⟩
      have HX7 := Lib.hid (bel_trans HX6.out hv7)
      have HU7 := Lib.hid (bel_trans HU6.out hv7)
      clear hv7
      go_wp2_with fail
      refine (FoldsFlat_i D k cD ys v7 (HY.out.below HU7.out) HK.out (by omega)).mono ?_
      rw [HFO.out]
      rintro e v8 ⟨rfl, hv8⟩
      have HX8 := Lib.hid (bel_trans HX7.out hv8)
      have HU8 := Lib.hid (bel_trans HU7.out hv8)
      clear hv8
      go_wp2_with fail
      refine (FoldsFlat_s D k cD ys v8 (HY.out.below HU8.out) HK.out (by omega)).mono ?_
      rw [HFO.out]
      rintro e v9 ⟨rfl, hv9⟩
      have HX9 := Lib.hid (bel_trans HX8.out hv9)
      have HU9 := Lib.hid (bel_trans HU8.out hv9)
      clear hv9
      go_wp2_with fail
      refine (FacesCovered_i D k cD ys v9 (HY.out.below HU9.out) HK.out (by omega)).mono ?_
      rw [HFA.out]
      rintro e x1 ⟨rfl, hx1⟩
      have HX10 := Lib.hid (bel_trans HX9.out hx1)
      have HU10 := Lib.hid (bel_trans HU9.out hx1)
      clear hx1
      go_wp2_with fail
      refine (FacesCovered_s D k cD ys x1 (HY.out.below HU10.out) HK.out (by omega)).mono ?_
      rw [HFA.out]
      rintro e x2 ⟨rfl, hx2⟩
      have HX11 := Lib.hid (bel_trans HX10.out hx2)
      have HU11 := Lib.hid (bel_trans HU10.out hx2)
      clear hx2
      go_wp2_with fail
      refine (OppositeFaces_s D k cD ys x2 (HY.out.below HU11.out) HK.out (by omega)).mono ?_
      rw [HOP.out]
      rintro e x3 ⟨P2, q2, d2, hs2, rfl, hp2, hx3⟩
      have HP2 := Lib.hid hp2
      have HX12 := Lib.hid (bel_trans HX11.out hx3)
      have HU12 := Lib.hid (bel_trans HU11.out hx3)
      clear hp2 hx3
      go_wp2_with fail
      refine (sameLists_t P1 P2 q1 d1 q2 d2 _ _ hs1 hs2 op x3 (HP1.out.below HX12.out) HP2.out (by have := HOPL.out.1; have := HQ1.out; omega) HOPL.out.2).mono ?_
      rintro e x4 ⟨rfl, hx4⟩
      have HU13 := Lib.hid (bel_trans HU12.out hx4)
      clear hx4
      cases b with
      | false =>
        go_wp2_with fail
        refine (at_l A n c bs x4 (HR.out.below (bel_trans HV1.out HU13.out)) HL.out hn).mono ?_
        rintro e y1 ⟨q, rfl, hq, hy1⟩
        have HW1 := Lib.hid (bel_trans HU13.out hy1)
        obtain ⟨m, hm⟩ : ∃ m, q % 8 = m := ⟨_, rfl⟩
        have hm8 : m < 8 := by omega
        have hmt : (q : Int).tmod 8 = (m : Int) := by rw [Int.tmod_eq_emod_of_nonneg (by omega)]; omega
        have hmw : IntKind.i64.wrap (m : Int) = (m : Int) := Go.IntWalk.i64_in _ (by omega)
        clear hm hq hy1
        go_wp2_with fail
        refine (TurnShape_s D k cD ys m y1 (HY.out.below HW1.out) HK.out (by omega) hm8).mono ?_
        cases hs : isShape ys with
        | false =>
          rintro e y2 ⟨T, z, cT, rfl, hT, hy2⟩
          have HW2 := Lib.hid (bel_trans HW1.out hy2)
          clear hT hy2
          go_wp2_with fail
          go_ret
          exact ⟨rfl, bel_trans HV1.out HW2.out⟩
        | true =>
          have HTN := Lib.hid (HTURN.out m hm8 hs)
          have htl : (turnV ys m).length ≤ 8 := (turn_len hs m).2
          rintro e y2 ⟨T, z, cT, rfl, hT, hy2⟩
          rw [if_pos rfl] at hT
          have HT := Lib.hid (Rd.of_own hT)
          have hz : (turnV ys m).length = z := by have h1 := own_len hT; rw [vC_length] at h1; omega
          have HZ := Lib.hid hz
          have HW2 := Lib.hid (bel_trans HW1.out hy2)
          have hzb : z ≤ 1099511627776 := by omega
          clear hT hy2 hz hs htl
          go_wp2_with fail
          refine (IsCubeNet_i T z cT (turnV ys m) y2 HT.out HZ.out hzb).mono ?_
          rw [HTN.out]
          rintro e y3 ⟨rfl, hy3⟩
          go_wp2_with fail
          go_ret
          exact ⟨rfl, bel_trans HV1.out (bel_trans HW2.out hy3)⟩
      | true =>
        obtain ⟨g1, g2, g3⟩ := HGOOD.out rfl
        have hq3 : ((q1 : Int) != 3) = false := by have := HQ1.out; rw [show (q1 : Int) = 3 by omega]; rfl
        have HFO0 : Hid (foldV ys = 0) := by show _ = _; rw [HFO.out, g2]
        have HSQ0 := Lib.hid (HSQ.out.trans g3)
        clear g1 g2 g3
        go_wp2_with fail
        refine (FoldsFlat_i D k cD ys x4 (HY.out.below HU13.out) HK.out (by omega)).mono ?_
        rw [HFO0.out]
        rintro e x5 ⟨rfl, hx5⟩
        have HU14 := Lib.hid (bel_trans HU13.out hx5)
        clear hx5
        go_wp2_with fail
        refine (SquaresIn_i D k cD ys x5 (HY.out.below HU14.out) HK.out (by omega)).mono ?_
        rw [HSQ0.out]
        rintro e x6 ⟨rfl, hx6⟩
        have HU15 := Lib.hid (bel_trans HU14.out hx6)
        clear hx6
        go_wp2_with fail
        refine (at_l A n c bs x6 (HR.out.below (bel_trans HV1.out HU15.out)) HL.out hn).mono ?_
        rintro e y1 ⟨q, rfl, hq, hy1⟩
        have HW1 := Lib.hid (bel_trans HU15.out hy1)
        obtain ⟨m, hm⟩ : ∃ m, q % 8 = m := ⟨_, rfl⟩
        have hm8 : m < 8 := by omega
        have hmt : (q : Int).tmod 8 = (m : Int) := by rw [Int.tmod_eq_emod_of_nonneg (by omega)]; omega
        have hmw : IntKind.i64.wrap (m : Int) = (m : Int) := Go.IntWalk.i64_in _ (by omega)
        clear hm hq hy1
        go_wp2_with fail
        refine (TurnShape_s D k cD ys m y1 (HY.out.below HW1.out) HK.out (by omega) hm8).mono ?_
        cases hs : isShape ys with
        | false =>
          rintro e y2 ⟨T, z, cT, rfl, hT, hy2⟩
          have HW2 := Lib.hid (bel_trans HW1.out hy2)
          clear hT hy2
          go_wp2_with fail
          go_ret
          exact ⟨rfl, bel_trans HV1.out HW2.out⟩
        | true =>
          have HTN := Lib.hid (HTURN.out m hm8 hs)
          have htl : (turnV ys m).length ≤ 8 := (turn_len hs m).2
          rintro e y2 ⟨T, z, cT, rfl, hT, hy2⟩
          rw [if_pos rfl] at hT
          have HT := Lib.hid (Rd.of_own hT)
          have hz : (turnV ys m).length = z := by have h1 := own_len hT; rw [vC_length] at h1; omega
          have HZ := Lib.hid hz
          have HW2 := Lib.hid (bel_trans HW1.out hy2)
          have hzb : z ≤ 1099511627776 := by omega
          clear hT hy2 hz hs htl
          go_wp2_with fail
          refine (IsCubeNet_i T z cT (turnV ys m) y2 HT.out HZ.out hzb).mono ?_
          rw [HTN.out]
          rintro e y3 ⟨rfl, hy3⟩
          go_wp2_with fail
          go_ret
          exact ⟨rfl, bel_trans HV1.out (bel_trans HW2.out hy3)⟩
    | false =>
      clear HBACK
      go_wp2_with fail
      refine (DrawIsCubeNet_s A n c bs w5 (HR.out.below HB5.out) HL.out hn).mono ?_
      rintro e v1 ⟨D, k, cD, ys, rfl, hr1, hl1, hk, hkc, hv1⟩
      have HY := Lib.hid hr1
      have HK := Lib.hid hl1
      have HV1 := Lib.hid (bel_trans HB5.out hv1)
      obtain ⟨b, hb⟩ : ∃ b, netV ys = b := ⟨_, rfl⟩
      obtain ⟨cc, hcc⟩ : ∃ cc, isConn ys = cc := ⟨_, rfl⟩
      obtain ⟨fl, hfl⟩ : ∃ fl, faces ys = fl := ⟨_, rfl⟩
      obtain ⟨op, hop⟩ : ∃ op, oppV ys = op := ⟨_, rfl⟩
      obtain ⟨fo, hfo⟩ : ∃ fo, foldV ys = fo := ⟨_, rfl⟩
      obtain ⟨fa, hfa⟩ : ∃ fa, facV ys = fa := ⟨_, rfl⟩
      obtain ⟨sq, hsq⟩ : ∃ sq : Int, (if isShape ys then ((sqV ys : Nat) : Int) else 0) = sq := ⟨_, rfl⟩
      have hgood : b = true → op.length = 3 ∧ fo = 0 ∧ sq = 0 := fun h => by
        obtain ⟨g1, g2, g3⟩ := net_good (hb.trans h)
        exact ⟨by rw [← hop]; exact g1, by rw [← hfo]; exact g2, by rw [← hsq, g3]; simp⟩
      have hturn : ∀ m, m < 8 → isShape ys = true → netV (turnV ys m) = b := fun m hm hs => by rw [turn_net hs m hm, hb]
      have hopl := opp_len ys
      have hfll := faces_len ys
      rw [hop] at hopl
      rw [hfl] at hfll
      have HNB := Lib.hid hb
      have HCC := Lib.hid hcc
      have HFL := Lib.hid hfl
      have HOP := Lib.hid hop
      have HFO := Lib.hid hfo
      have HFA := Lib.hid hfa
      have HSQ := Lib.hid hsq
      have HGOOD := Lib.hid hgood
      have HTURN := Lib.hid hturn
      have HOPL := Lib.hid hopl
      have hbb : (b != b) = false := by simp
      have hbe : (b == b) = true := by simp
      have hcne : (cc != cc) = false := by simp
      have hfne : (fo != fo) = false := by simp
      have hane : (fa != fa) = false := by simp
      clear hr1 hl1 hv1 hb hcc hfl hop hfo hfa hsq hgood hturn hopl
      go_wp2_with fail
      refine (IsCubeNet_i D k cD ys v1 HY.out HK.out (by omega)).mono ?_
      rw [HNB.out]
      rintro e v2 ⟨rfl, hv2⟩
      have HU2 := Lib.hid hv2
      clear hv2
      go_wp2_with fail
      refine (FacesOf_i D k cD ys v2 (HY.out.below HU2.out) HK.out (by omega)).mono ?_
      rw [HFL.out, HCC.out]
      rintro e v3 ⟨E1, m1, c1, rfl, ho1, hv3⟩
      have HU3 := Lib.hid (bel_trans HU2.out hv3)
      have hm1 : fl.length = m1 := by have h1 := own_len ho1; rw [vI_length] at h1; omega
      have HM1 := Lib.hid hm1
      have HO1 := Lib.hid (Rd.of_own ho1)
      clear ho1 hv3
      go_wp2_with fail
      refine (FacesOf_s D k cD ys v3 (HY.out.below HU3.out) HK.out (by omega)).mono ?_
      rw [HFL.out, HCC.out]
      rintro e v4 ⟨E2, m2, c2, rfl, ho2, hv4⟩
      have HU4 := Lib.hid (bel_trans HU3.out hv4)
      have hm2 : fl.length = m2 := by have h1 := own_len ho2; rw [vI_length] at h1; omega
      have HM2 := Lib.hid hm2
      have HO2 := Lib.hid (Rd.of_own ho2)
      have HO14 := Lib.hid (HO1.out.below hv4)
      have hmb1 : m1 ≤ 1099511627776 := by omega
      clear ho2 hv4 HO1 hm1 hm2
      go_wp2_with fail
      refine (OppositeFaces_i D k cD ys v4 (HY.out.below HU4.out) HK.out (by omega)).mono ?_
      rw [HOP.out]
      rintro e v5 ⟨P1, q1, d1, hs1, rfl, hp1, hv5⟩
      have HP1 := Lib.hid hp1
      have HV5 := Lib.hid hv5
      have HU5 := Lib.hid (bel_trans HU4.out hv5)
      have hq1 : op.length = q1 := hp1.flen
      have HQ1 := Lib.hid hq1
      clear hp1 hv5 hq1
      go_wp2_with fail
      refine (IsCubeNet_s D k cD ys v5 (HY.out.below HU5.out) HK.out (by omega)).mono ?_
      rw [HNB.out]
      rintro e v6 ⟨rfl, hv6⟩
      have HV6 := Lib.hid (bel_trans HV5.out hv6)
      have HX6 := Lib.hid hv6
      have HU6 := Lib.hid (bel_trans HU5.out hv6)
      clear hv6
      go_wp2_with fail
      refine (sameInts_t E1 E2 m1 c1 m2 c2 fl v6 (HO14.out.below HV6.out) (HO2.out.below HV6.out) HM1.out HM2.out hmb1).mono ?_
      rintro e v7 ⟨rfl, hv7⟩
      have HX7 := Lib.hid (bel_trans HX6.out hv7)
      have HU7 := Lib.hid (bel_trans HU6.out hv7)
      clear hv7
      go_wp2_with fail
      refine (FoldsFlat_i D k cD ys v7 (HY.out.below HU7.out) HK.out (by omega)).mono ?_
      rw [HFO.out]
      rintro e v8 ⟨rfl, hv8⟩
      have HX8 := Lib.hid (bel_trans HX7.out hv8)
      have HU8 := Lib.hid (bel_trans HU7.out hv8)
      clear hv8
      go_wp2_with fail
      refine (FoldsFlat_s D k cD ys v8 (HY.out.below HU8.out) HK.out (by omega)).mono ?_
      rw [HFO.out]
      rintro e v9 ⟨rfl, hv9⟩
      have HX9 := Lib.hid (bel_trans HX8.out hv9)
      have HU9 := Lib.hid (bel_trans HU8.out hv9)
      clear hv9
      go_wp2_with fail
      refine (FacesCovered_i D k cD ys v9 (HY.out.below HU9.out) HK.out (by omega)).mono ?_
      rw [HFA.out]
      rintro e x1 ⟨rfl, hx1⟩
      have HX10 := Lib.hid (bel_trans HX9.out hx1)
      have HU10 := Lib.hid (bel_trans HU9.out hx1)
      clear hx1
      go_wp2_with fail
      refine (FacesCovered_s D k cD ys x1 (HY.out.below HU10.out) HK.out (by omega)).mono ?_
      rw [HFA.out]
      rintro e x2 ⟨rfl, hx2⟩
      have HX11 := Lib.hid (bel_trans HX10.out hx2)
      have HU11 := Lib.hid (bel_trans HU10.out hx2)
      clear hx2
      go_wp2_with fail
      refine (OppositeFaces_s D k cD ys x2 (HY.out.below HU11.out) HK.out (by omega)).mono ?_
      rw [HOP.out]
      rintro e x3 ⟨P2, q2, d2, hs2, rfl, hp2, hx3⟩
      have HP2 := Lib.hid hp2
      have HX12 := Lib.hid (bel_trans HX11.out hx3)
      have HU12 := Lib.hid (bel_trans HU11.out hx3)
      clear hp2 hx3
      go_wp2_with fail
      refine (sameLists_t P1 P2 q1 d1 q2 d2 _ _ hs1 hs2 op x3 (HP1.out.below HX12.out) HP2.out (by have := HOPL.out.1; have := HQ1.out; omega) HOPL.out.2).mono ?_
      rintro e x4 ⟨rfl, hx4⟩
      have HU13 := Lib.hid (bel_trans HU12.out hx4)
      clear hx4
      cases b with
      | false =>
        go_wp2_with fail
        refine (at_l A n c bs x4 (HR.out.below (bel_trans HV1.out HU13.out)) HL.out hn).mono ?_
        rintro e y1 ⟨q, rfl, hq, hy1⟩
        have HW1 := Lib.hid (bel_trans HU13.out hy1)
        obtain ⟨m, hm⟩ : ∃ m, q % 8 = m := ⟨_, rfl⟩
        have hm8 : m < 8 := by omega
        have hmt : (q : Int).tmod 8 = (m : Int) := by rw [Int.tmod_eq_emod_of_nonneg (by omega)]; omega
        have hmw : IntKind.i64.wrap (m : Int) = (m : Int) := Go.IntWalk.i64_in _ (by omega)
        clear hm hq hy1
        go_wp2_with fail
        refine (TurnShape_s D k cD ys m y1 (HY.out.below HW1.out) HK.out (by omega) hm8).mono ?_
        cases hs : isShape ys with
        | false =>
          rintro e y2 ⟨T, z, cT, rfl, hT, hy2⟩
          have HW2 := Lib.hid (bel_trans HW1.out hy2)
          clear hT hy2
          go_wp2_with fail
          go_ret
          exact ⟨rfl, bel_trans HV1.out HW2.out⟩
        | true =>
          have HTN := Lib.hid (HTURN.out m hm8 hs)
          have htl : (turnV ys m).length ≤ 8 := (turn_len hs m).2
          rintro e y2 ⟨T, z, cT, rfl, hT, hy2⟩
          rw [if_pos rfl] at hT
          have HT := Lib.hid (Rd.of_own hT)
          have hz : (turnV ys m).length = z := by have h1 := own_len hT; rw [vC_length] at h1; omega
          have HZ := Lib.hid hz
          have HW2 := Lib.hid (bel_trans HW1.out hy2)
          have hzb : z ≤ 1099511627776 := by omega
          clear hT hy2 hz hs htl
          go_wp2_with fail
          refine (IsCubeNet_i T z cT (turnV ys m) y2 HT.out HZ.out hzb).mono ?_
          rw [HTN.out]
          rintro e y3 ⟨rfl, hy3⟩
          go_wp2_with fail
          go_ret
          exact ⟨rfl, bel_trans HV1.out (bel_trans HW2.out hy3)⟩
      | true =>
        obtain ⟨g1, g2, g3⟩ := HGOOD.out rfl
        have hq3 : ((q1 : Int) != 3) = false := by have := HQ1.out; rw [show (q1 : Int) = 3 by omega]; rfl
        have HFO0 : Hid (foldV ys = 0) := by show _ = _; rw [HFO.out, g2]
        have HSQ0 := Lib.hid (HSQ.out.trans g3)
        clear g1 g2 g3
        go_wp2_with fail
        refine (FoldsFlat_i D k cD ys x4 (HY.out.below HU13.out) HK.out (by omega)).mono ?_
        rw [HFO0.out]
        rintro e x5 ⟨rfl, hx5⟩
        have HU14 := Lib.hid (bel_trans HU13.out hx5)
        clear hx5
        go_wp2_with fail
        refine (SquaresIn_i D k cD ys x5 (HY.out.below HU14.out) HK.out (by omega)).mono ?_
        rw [HSQ0.out]
        rintro e x6 ⟨rfl, hx6⟩
        have HU15 := Lib.hid (bel_trans HU14.out hx6)
        clear hx6
        go_wp2_with fail
        refine (at_l A n c bs x6 (HR.out.below (bel_trans HV1.out HU15.out)) HL.out hn).mono ?_
        rintro e y1 ⟨q, rfl, hq, hy1⟩
        have HW1 := Lib.hid (bel_trans HU15.out hy1)
        obtain ⟨m, hm⟩ : ∃ m, q % 8 = m := ⟨_, rfl⟩
        have hm8 : m < 8 := by omega
        have hmt : (q : Int).tmod 8 = (m : Int) := by rw [Int.tmod_eq_emod_of_nonneg (by omega)]; omega
        have hmw : IntKind.i64.wrap (m : Int) = (m : Int) := Go.IntWalk.i64_in _ (by omega)
        clear hm hq hy1
        go_wp2_with fail
        refine (TurnShape_s D k cD ys m y1 (HY.out.below HW1.out) HK.out (by omega) hm8).mono ?_
        cases hs : isShape ys with
        | false =>
          rintro e y2 ⟨T, z, cT, rfl, hT, hy2⟩
          have HW2 := Lib.hid (bel_trans HW1.out hy2)
          clear hT hy2
          go_wp2_with fail
          go_ret
          exact ⟨rfl, bel_trans HV1.out HW2.out⟩
        | true =>
          have HTN := Lib.hid (HTURN.out m hm8 hs)
          have htl : (turnV ys m).length ≤ 8 := (turn_len hs m).2
          rintro e y2 ⟨T, z, cT, rfl, hT, hy2⟩
          rw [if_pos rfl] at hT
          have HT := Lib.hid (Rd.of_own hT)
          have hz : (turnV ys m).length = z := by have h1 := own_len hT; rw [vC_length] at h1; omega
          have HZ := Lib.hid hz
          have HW2 := Lib.hid (bel_trans HW1.out hy2)
          have hzb : z ≤ 1099511627776 := by omega
          clear hT hy2 hz hs htl
          go_wp2_with fail
          refine (IsCubeNet_i T z cT (turnV ys m) y2 HT.out HZ.out hzb).mono ?_
          rw [HTN.out]
          rintro e y3 ⟨rfl, hy3⟩
          go_wp2_with fail
          go_ret
          exact ⟨rfl, bel_trans HV1.out (bel_trans HW2.out hy3)⟩

end Go.Proofs.Ytagkopemcabkpaa
