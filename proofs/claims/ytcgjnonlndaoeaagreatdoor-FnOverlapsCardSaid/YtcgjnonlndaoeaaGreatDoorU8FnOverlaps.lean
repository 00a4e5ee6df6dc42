/- Texts of this claim, one behind the other: part 8. -/
import Derived.Test.YtcgjnonlndaoeaaGreatDoorU7FnOverlaps
import Derived.Outline
import Derived.WalkLawsBesides
import Derived.WalkSpells
import Derived.BigQuiet
import Derived.Deep.QuietTactic
import Derived.Deep.RegionHeld3
import Derived.Deep.RegionWith
import Derived.Deep.DeepCutAuto
import Derived.Deep.CutBlock
import Derived.Deep.DrawnRows
/- The law on overlaps. -/
namespace Go.Proofs.YtcgjnonlndaoeaaGreatDoor
open Go.RowKit
set_option linter.unusedVariables false
attribute [local go_sem ↓] Go.wp_at_zero Go.wp_at_succ

set_option maxRecDepth 100000 in
set_option maxHeartbeats 6400000 in
theorem law_FnOverlaps (A : Option Addr) (n c : Nat) (bs0 : List UInt8) (w : World) (hr : Rd w A (vB bs0)) (hl : bs0.length = n) (hm : n ≤ maxLen) (hTb : Tb w) :
    Calls Tryz.prog 5 #[.slice A n c] w (Ret w (.bool true)) := by
  have HR := Lib.hid hr
  have HL := Lib.hid hl
  have HTB := Lib.hid hTb
  clear hr hl hTb
  by_cases hbig : (n : Int) > 1048576
  · have hd : decide ((n : Int) > 1048576) = true := decide_eq_true hbig
    go_enter Tryz.func5, Tryz.ntmps5
    go_wp2_with fail
    refine (big_l A n c w).mono ?_
    rw [hd]
    rintro e w1 ⟨rfl, hb1⟩
    clear hd
    go_wp2_with fail
    go_ret
    exact ⟨rfl, hb1⟩
  · have hd : decide ((n : Int) > 1048576) = false := decide_eq_false hbig
    have hn : n ≤ 1048576 := by omega
    clear hbig hm
    go_enter Tryz.func5, Tryz.ntmps5
    go_wp2_with fail
    refine (big_l A n c w).mono ?_
    rw [hd]
    rintro e w1 ⟨rfl, hb1⟩
    have HB1 := Lib.hid hb1
    clear hd hb1
    go_wp2_with fail
    refine (DrawFewestCovering_s A n c bs0 w1 (HR.out.below HB1.out) HL.out hn).mono ?_
    rintro e w2 ⟨W, k, D, cD, rows, B, q, cB, hs, P, rfl, hr2, hl2, hk9, hD2, hP2, hq, hb2⟩
    have ht2 := totC_le70O hP2 hq
    have htm : totC P ≤ 1048576 := by omega
    have hqm : q ≤ 1048576 := by omega
    have ba := bel_alloc (Below.refl w2.heap.size w2) (.cells #[.int .i64 W, .slice D k cD] 29)
    have HN := Lib.hid (Blk.new w2 29 #[.int .i64 W, .slice D k cD])
    have HD := Lib.hid (hr2.below ba)
    have HP := Lib.hid (hP2.rdp.below ba)
    have HLR := Lib.hid hl2
    have HB3 := Lib.hid (bel_trans (bel_trans HB1.out hb2) ba)
    obtain ⟨w3, hw3⟩ : ∃ w3, w2.alloc (.cells #[.int .i64 W, .slice D k cD] 29) = w3 := ⟨_, rfl⟩
    rw [hw3] at HN HD HP HB3
    have HW3 := Lib.hid hw3
    clear ba hw3 hr2 hl2 hD2 hP2 hb2 ht2
    go_upto_region 4 with fail
    rw [HW3.out]
    clear HW3
    have c0 : w3.cell? ⟨w2.heap.size, 0, none⟩ = some (.int .i64 W) := by simpa using HN.out.cell 0
    have c1 : w3.cell? ⟨w2.heap.size, 1, none⟩ = some (.slice D k cD) := by simpa using HN.out.cell 1
    have cl := HN.out.lt
    obtain ⟨gr, hgr⟩ : ∃ gr, w2.heap.size = gr := ⟨_, rfl⟩
    rw [hgr] at HN c0 c1 cl ⊢
    clear hgr
    have HT := Lib.hid (Below.refl w3.heap.size w3)
    have HT3 := Lib.hid (HTB.out.below HB3.out)
    obtain ⟨fl, hfl⟩ : ∃ fl, fewL W rows P = fl := ⟨_, rfl⟩
    obtain ⟨isb, hisb⟩ : ∃ b, (fewcV W rows P).isSome = b := ⟨_, rfl⟩
    obtain ⟨sm, hsm⟩ : ∃ b, smallV W rows P = b := ⟨_, rfl⟩
    obtain ⟨ls, hls⟩ : ∃ l, lsV W rows P = l := ⟨_, rfl⟩
    have hls62 : ls < 2 ^ 62 := by
      have h1 := and_in (lsV_spec (W := W) (rows := rows) (P := P)).2
      have h2 := mask62C W rows
      have h3 : lsV W rows P ≤ maskV W rows := Nat.le_trans (Nat.le_of_eq h1.symm) Nat.and_le_left
      omega
    have hfll : fl.length ≤ 1000 := by rw [← hfl]; exact fewL_len W rows P
    have HFL := Lib.hid hfl
    have HIS := Lib.hid hisb
    have HSM := Lib.hid hsm
    have HLS := Lib.hid hls
    clear hfl hisb hsm hls
    go_wp2_with fail
    refine (FewestCovering_i W D B k cD q cB rows hs P w3 (HD.out.below HT.out) HLR.out (HP.out.below HT.out) hqm htm HT3.out).mono ?_
    rw [HFL.out, HIS.out]
    rintro e w4 ⟨E1, e1n, e1c, rfl, ho1, hb4⟩
    have HE1 := Lib.hid (Rd.of_own ho1)
    have HEL1 := Lib.hid (by have h := own_len ho1; rw [vI_length] at h; omega : fl.length = e1n)
    have HX4 := Lib.hid hb4
    clear ho1
    have HU := Lib.hid (bel_trans HT.out hb4)
    clear HT
    have HT := HU
    clear HU c0 c1 cl hb4
    have hN := HN.out.below HT.out
    have c0 : w4.cell? ⟨gr, 0, none⟩ = some (.int .i64 W) := by simpa using hN.cell 0
    have c1 : w4.cell? ⟨gr, 1, none⟩ = some (.slice D k cD) := by simpa using hN.cell 1
    have cl := hN.lt
    clear hN
    go_wp2_with fail
    refine (FewestCovering_s W D B k cD q cB rows hs P w4 (HD.out.below HT.out) HLR.out (HP.out.below HT.out) hqm htm).mono ?_
    rw [HFL.out, HIS.out]
    rintro e w5 ⟨E2, e2n, e2c, rfl, ho2, hb5⟩
    have HE2 := Lib.hid (Rd.of_own ho2)
    have HEL2 := Lib.hid (by have h := own_len ho2; rw [vI_length] at h; omega : fl.length = e2n)
    have HE15 := Lib.hid (HE1.out.below hb5)
    have he2n : e2n ≤ 1000 := by have := HEL2.out; omega
    clear ho2 HE1
    have HU := Lib.hid (bel_trans HT.out hb5)
    clear HT
    have HT := HU
    clear HU c0 c1 cl hb5
    have hN := HN.out.below HT.out
    have c0 : w5.cell? ⟨gr, 0, none⟩ = some (.int .i64 W) := by simpa using hN.cell 0
    have c1 : w5.cell? ⟨gr, 1, none⟩ = some (.slice D k cD) := by simpa using hN.cell 1
    have cl := hN.lt
    clear hN
    go_wp2_with fail
    refine (LargestScattered_i W D B k cD q cB rows hs P w5 (HD.out.below HT.out) HLR.out (HP.out.below HT.out) hqm htm).mono ?_
    rw [HSM.out, HLS.out]
    rintro e w6 ⟨rfl, hb6⟩
    have HE16 := Lib.hid (HE15.out.below hb6)
    have HE26 := Lib.hid (HE2.out.below hb6)
    clear HE15 HE2
    have HU := Lib.hid (bel_trans HT.out hb6)
    clear HT
    have HT := HU
    clear HU c0 c1 cl hb6
    have hN := HN.out.below HT.out
    have c0 : w6.cell? ⟨gr, 0, none⟩ = some (.int .i64 W) := by simpa using hN.cell 0
    have c1 : w6.cell? ⟨gr, 1, none⟩ = some (.slice D k cD) := by simpa using hN.cell 1
    have cl := hN.lt
    clear hN
    go_wp2_with fail
    refine (LargestScattered_s W D B k cD q cB rows hs P w6 (HD.out.below HT.out) HLR.out (HP.out.below HT.out) hqm htm).mono ?_
    rw [HSM.out, HLS.out]
    rintro e w7 ⟨rfl, hb7⟩
    have HE17 := Lib.hid (HE16.out.below hb7)
    have HE27 := Lib.hid (HE26.out.below hb7)
    clear HE16 HE26
    have HU := Lib.hid (bel_trans HT.out hb7)
    clear HT
    have HT := HU
    clear HU c0 c1 cl hb7
    have hN := HN.out.below HT.out
    have c0 : w7.cell? ⟨gr, 0, none⟩ = some (.int .i64 W) := by simpa using hN.cell 0
    have c1 : w7.cell? ⟨gr, 1, none⟩ = some (.slice D k cD) := by simpa using hN.cell 1
    have cl := hN.lt
    clear hN
    obtain ⟨cc, hcc⟩ : ∃ cc, cntcV W rows P = cc := ⟨_, rfl⟩
    have HCC := Lib.hid hcc
    have n1 : (isb != isb) = false := by simp
    have n2 : (sm != sm) = false := by simp
    have n3 : ((ls : Int) != (ls : Int)) = false := by simp
    have n4 : (cc != cc) = false := by simp
    have HSI : Hid (∀ w', Below w7.heap.size w7 w' → Calls Tryz.prog 25 #[.slice E1 e1n e1c, .slice E2 e2n e2c] w' (Ret w' (.bool true))) := fun w' hb => sameInts_t E1 E2 e1n e1c e2n e2c fl w' (HE17.out.below hb) (HE27.out.below hb) HEL1.out HEL2.out (by have := HEL1.out; omega)
    have HCI : Hid (∀ w', Below w7.heap.size w7 w' → Calls Tryz.prog 11 #[.agg #[.int .i64 W, .slice D k cD], .slice B q cB] w' (Ret w' (.int .i64 cc))) := fun w' hb => HCC.out ▸ CountCovering_i W D B k cD q cB rows hs P w' (HD.out.below (bel_trans HT.out hb)) HLR.out (HP.out.below (bel_trans HT.out hb)) hqm htm (HT3.out.below (bel_trans HT.out hb))
    have HCS : Hid (∀ w', Below w7.heap.size w7 w' → Calls Tryz.prog 8 #[.agg #[.int .i64 W, .slice D k cD], .slice B q cB] w' (Ret w' (.int .i64 cc))) := fun w' hb => HCC.out ▸ CountCovering_s W D B k cD q cB rows hs P w' (HD.out.below (bel_trans HT.out hb)) HLR.out (HP.out.below (bel_trans HT.out hb)) hqm htm
    clear hcc
    go_wp2_with fail
    (refine wp_region_below (by kernel_rfl) (by kernel_rfl) ?_; (repeat (first | go_big_quiet_skip | (refine quietV (v := ?_) (by rfl) rfl (fun w' hbw => ?_) ?_; rotate_left; ((try dsimp only at hbw); have hbc := (bcell hbw).1; have hbf := (bcell hbw).2; go_simp; first | done | with_reducible rfl | first | (with_reducible exact callsB (v := .bool true) (HSI.out _ (by with_reducible assumption)) hbw) | (with_reducible exact callsB (v := .int .i64 cc) (HCI.out _ (by with_reducible assumption)) hbw) | (with_reducible exact callsB (v := .int .i64 cc) (HCS.out _ (by with_reducible assumption)) hbw)); simp only [List.setIfInBounds_toArray, List.set_cons_zero, List.set_cons_succ]))); refine wpQuiet_nil ?_; intro w8 hb8)
    have HE28 := Lib.hid (HE27.out.below hb8)
    clear HSI HCI HCS HE17 HE27 n1 n2 n3 n4
    have HU := Lib.hid (bel_trans HT.out hb8)
    clear HT
    have HT := HU
    clear HU c0 c1 cl hb8
    have hN := HN.out.below HT.out
    have c0 : w8.cell? ⟨gr, 0, none⟩ = some (.int .i64 W) := by simpa using hN.cell 0
    have c1 : w8.cell? ⟨gr, 1, none⟩ = some (.slice D k cD) := by simpa using hN.cell 1
    have cl := hN.lt
    clear hN
    have HTL := Lib.hid (fun (h : isb = true) => (by
      rw [← HIS.out] at h
      obtain ⟨l, hl⟩ := Option.isSome_iff_exists.1 h
      have h1 := (fewL_of hl).1
      rw [HFL.out] at h1
      exact ⟨l, hl, h1⟩ : ∃ l, fewcV W rows P = some l ∧ fl = ord l))
    go_upto_region 10 with fail
    go_cut [103] (fun s wx => s = .bool false ∧ Below w8.heap.size w8 wx)
    case first =>
      cases sm with
      | false =>
        have hisf : isb = false := by
          cases isb with
          | false => rfl
          | true =>
            obtain ⟨l, hl, _⟩ := HTL.out rfl
            have h := (fewc_parts hl).1
            rw [HSM.out] at h
            cases h
        subst hisf
        go_wp2
        go_meet
        exact ⟨rfl, Below.refl _ _⟩
      | true =>
        have HSC := Lib.hid (by have h := lsV_scatV HSM.out; rw [HLS.out] at h; exact h : scatV W rows P (ls : Int) = true)
        go_wp2_with fail
        refine (IsScattered_i W D B k cD q cB rows (ls : Int) hs P w8 (HD.out.below HT.out) HLR.out (HP.out.below HT.out) hqm htm (by omega)).mono ?_
        rw [HSC.out]
        rintro e v1 ⟨rfl, hv1⟩
        cases isb with
        | false =>
          go_wp2
          go_meet
          exact ⟨rfl, hv1⟩
        | true =>
          obtain ⟨l, hl, hfo⟩ := HTL.out rfl
          have HCV := Lib.hid (by rw [hfo]; exact few_cov hl : covV W rows P fl = true)
          have hpl : pop ls ≤ fl.length := by rw [hfo, ← HLS.out]; exact ls_cov hl
          obtain ⟨pl, hpe⟩ : ∃ p, pop ls = p := ⟨_, rfl⟩
          have HPE := Lib.hid hpe
          have hlt : ¬ (e2n : Int) < (pl : Int) := by have := HEL2.out; omega
          have HV1 := Lib.hid hv1
          clear hl hfo hpl hpe
          have HU := Lib.hid (bel_trans HT.out hv1)
          clear HT
          have HT := HU
          clear HU c0 c1 cl hv1
          have hN := HN.out.below HT.out
          have c0 : v1.cell? ⟨gr, 0, none⟩ = some (.int .i64 W) := by simpa using hN.cell 0
          have c1 : v1.cell? ⟨gr, 1, none⟩ = some (.slice D k cD) := by simpa using hN.cell 1
          have cl := hN.lt
          clear hN
          go_wp2_with fail
          refine (IsCovering_i W D B E2 k cD q cB e2n e2c rows fl hs P v1 (HD.out.below HT.out) HLR.out (HP.out.below HT.out) hqm htm (HE28.out.below HV1.out) HEL2.out (by omega)).mono ?_
          rw [HCV.out]
          rintro e v2 ⟨rfl, hv2⟩
          have HV2 := Lib.hid (bel_trans HV1.out hv2)
          clear hv2
          go_wp2_with fail
          refine (bits_l ls v2 hls62).mono ?_
          rw [HPE.out]
          rintro e v3 ⟨rfl, hv3⟩
          have HV3 := Lib.hid (bel_trans HV2.out hv3)
          clear hv3
          go_wp2
          go_meet
          exact ⟨by rw [decide_eq_false (by omega : ¬ e2n < pl)], HV3.out⟩
    case rest =>
      obtain ⟨rfl, hcb⟩ := hcut
      obtain ⟨v, hv⟩ : ∃ v, v = wc := ⟨_, rfl⟩
      subst hv
      have HE29 := Lib.hid (HE28.out.below hcb)
      clear HE28
      have HU := Lib.hid (bel_trans HT.out hcb)
      clear HT
      have HT := HU
      clear HU c0 c1 cl hcb
      have hN := HN.out.below HT.out
      have c0 : v.cell? ⟨gr, 0, none⟩ = some (.int .i64 W) := by simpa using hN.cell 0
      have c1 : v.cell? ⟨gr, 1, none⟩ = some (.slice D k cD) := by simpa using hN.cell 1
      have cl := hN.lt
      clear hN
      by_cases hq1 : isb = true ∧ q = 1
      · obtain ⟨hi, hq1⟩ := hq1
        have hqI : ((q : Int) == 1) = true := by simp [hq1]
        obtain ⟨l, hl, hfo⟩ := HTL.out hi
        have hsmt : smallV W rows P = true := (fewc_parts hl).1
        have hPl := HP.out.flen
        rw [hq1] at hPl
        obtain ⟨g1, hg1⟩ := List.length_eq_one_iff.1 hPl
        have hpc := (smallV_parts hsmt).2.1
        have hgl : 1 ≤ g1.length := (shape_len ((pcs_shp hpc) g1 (by rw [hg1]; exact List.mem_singleton.2 rfl))).1
        have hov := ov_one (W := W) (rows := rows) (g := g1) (l := l) hgl (by rw [← hg1]; exact hl)
        rw [← hg1, ← hfo] at hov
        obtain ⟨kk, hkk⟩ : ∃ kk, mostL (allV W rows P) 0 = kk := ⟨_, rfl⟩
        obtain ⟨hb, hhb⟩ : ∃ b, hasV W rows P = b := ⟨_, rfl⟩
        have hcpk : cpkV W rows P = (kk : Int) := by unfold cpkV; rw [if_pos hsmt, hkk]
        rw [hkk] at hov
        have hle : ¬ (kk : Int) > (e2n : Int) := by have := HEL2.out; omega
        have hheq : hb = true → kk = fl.length := fun h => hov.2 (by
          rw [← hhb] at h
          unfold hasV at h
          simp only [Bool.and_eq_true, decide_eq_true_eq] at h
          exact h.2)
        have HHB := Lib.hid hhb
        have HCK := Lib.hid hcpk
        have HHE := Lib.hid hheq
        subst hi
        clear hl hfo hsmt hPl hg1 hpc hgl hov hkk hhb hcpk hheq hq1
        go_wp2_with fail
        refine (CountPacked_i W D B k cD q cB rows hs P v (HD.out.below HT.out) HLR.out (HP.out.below HT.out) hqm htm).mono ?_
        rw [HCK.out]
        rintro e y1 ⟨rfl, hy1⟩
        have HU := Lib.hid (bel_trans HT.out hy1)
        clear HT
        have HT := HU
        clear HU c0 c1 cl hy1
        have hN := HN.out.below HT.out
        have c0 : y1.cell? ⟨gr, 0, none⟩ = some (.int .i64 W) := by simpa using hN.cell 0
        have c1 : y1.cell? ⟨gr, 1, none⟩ = some (.slice D k cD) := by simpa using hN.cell 1
        have cl := hN.lt
        clear hN
        go_wp2_with fail
        refine (HasTiling_i W D B k cD q cB rows hs P y1 (HD.out.below HT.out) HLR.out (HP.out.below HT.out) hqm htm (HT3.out.below HT.out)).mono ?_
        rw [HHB.out]
        rintro e y2 ⟨rfl, hy2⟩
        have HW2 := Lib.hid (bel_trans (bel_trans HB3.out HT.out) hy2)
        clear HT hy2 c0 c1 cl HD HP HLR HE29 HT3 HIS HFL HSM HLS
        cases hb with
        | true =>
          have hke : ((kk : Int) != (e2n : Int)) = false := by have h1 := HHE.out rfl; have h2 := HEL2.out; simp; omega
          clear HHE
          go_wp2_with fail
          refine (DrawIsCovering_s A n c bs0 y2 (HR.out.below HW2.out) HL.out hn).mono ?_
          rintro e p2 ⟨W2, k2, D2, cD2, rows2, B2, q2, cB2, hs2, P2, F2, kE2, cE2, ls2, rfl, hr2, hl2, hk2, hP2, hq2, hrE2, hlE2, hkE2, hb2⟩
          have ht2 := totC_le70O hP2 hq2
          have htm2 : totC P2 ≤ 1048576 := by omega
          have hqm2 : q2 ≤ 1048576 := by omega
          have ba := bel_alloc (Below.refl p2.heap.size p2) (.cells #[.int .i64 W2, .slice D2 k2 cD2] 29)
          have HN2 := Lib.hid (Blk.new p2 29 #[.int .i64 W2, .slice D2 k2 cD2])
          have HD2 := Lib.hid (hr2.below ba)
          have HP2 := Lib.hid (hP2.rdp.below ba)
          have HEE2 := Lib.hid (hrE2.below ba)
          have HLE2 := Lib.hid hlE2
          have HLR2 := Lib.hid hl2
          have HX2 := Lib.hid (bel_trans (bel_trans HW2.out hb2) ba)
          obtain ⟨x2, hx2⟩ : ∃ x, p2.alloc (.cells #[.int .i64 W2, .slice D2 k2 cD2] 29) = x := ⟨_, rfl⟩
          rw [hx2] at HN2 HD2 HP2 HEE2 HX2
          have HQ2 := Lib.hid hx2
          clear ba hx2 hr2 hl2 hP2 hb2 ht2 hrE2 hlE2
          go_upto_region 17 with fail
          rw [HQ2.out]
          clear HQ2
          obtain ⟨gr2, hgr2⟩ : ∃ gr, p2.heap.size = gr := ⟨_, rfl⟩
          rw [hgr2] at HN2 ⊢
          clear hgr2
          go_wp2_with fail
          have HW3 := HX2
          refine (DrawIsScattered_s A n c bs0 x2 (HR.out.below HW3.out) HL.out hn).mono ?_
          rintro e p3 ⟨W3, k3, D3, cD3, rows3, B3, q3, cB3, hs3, P3, s3, rfl, hr3, hl3, hk3, hP3, hq3, hx63, hb3⟩
          have ht3 := totC_le70O hP3 hq3
          have htm3 : totC P3 ≤ 1048576 := by omega
          have hqm3 : q3 ≤ 1048576 := by omega
          have ba := bel_alloc (Below.refl p3.heap.size p3) (.cells #[.int .i64 W3, .slice D3 k3 cD3] 29)
          have HN3 := Lib.hid (Blk.new p3 29 #[.int .i64 W3, .slice D3 k3 cD3])
          have HD3 := Lib.hid (hr3.below ba)
          have HP3 := Lib.hid (hP3.rdp.below ba)
          have HLR3 := Lib.hid hl3
          have HX3 := Lib.hid (bel_trans (bel_trans HW3.out hb3) ba)
          have HBB3 := Lib.hid (bel_trans hb3 ba)
          obtain ⟨x3, hx3⟩ : ∃ x, p3.alloc (.cells #[.int .i64 W3, .slice D3 k3 cD3] 29) = x := ⟨_, rfl⟩
          rw [hx3] at HN3 HD3 HP3 HBB3 HX3
          have HQ3 := Lib.hid hx3
          clear ba hx3 hr3 hl3 hP3 hb3 ht3 
          go_upto_region 18 with fail
          rw [HQ3.out]
          clear HQ3
          obtain ⟨gr3, hgr3⟩ : ∃ gr, p3.heap.size = gr := ⟨_, rfl⟩
          rw [hgr3] at HN3 ⊢
          clear hgr3
          have HB23 : Hid (Below x2.heap.size x2 x3) := HBB3
          have hN2 := HN2.out.below HB23.out
          have c0 : x3.cell? ⟨gr2, 0, none⟩ = some (.int .i64 W2) := by simpa using hN2.cell 0
          have c1 : x3.cell? ⟨gr2, 1, none⟩ = some (.slice D2 k2 cD2) := by simpa using hN2.cell 1
          have cl := hN2.lt
          have d0 : x3.cell? ⟨gr3, 0, none⟩ = some (.int .i64 W3) := by simpa using HN3.out.cell 0
          have d1 : x3.cell? ⟨gr3, 1, none⟩ = some (.slice D3 k3 cD3) := by simpa using HN3.out.cell 1
          have dl := HN3.out.lt
          obtain ⟨cv, hcv⟩ : ∃ b, covV W2 rows2 P2 ls2 = b := ⟨_, rfl⟩
          obtain ⟨sc, hsc⟩ : ∃ b, scatV W3 rows3 P3 s3 = b := ⟨_, rfl⟩
          have HCVV := Lib.hid hcv
          have HSCV := Lib.hid hsc
          have e1 : (cv == cv) = true := by simp
          have e2 : (sc == sc) = true := by simp
          have HI1 : Hid (∀ w', Below x3.heap.size x3 w' → Calls Tryz.prog 27 #[.agg #[.int .i64 W2, .slice D2 k2 cD2], .slice B2 q2 cB2, .slice F2 kE2 cE2] w' (Ret w' (.bool cv))) := fun w' hb => HCVV.out ▸ IsCovering_i W2 D2 B2 F2 k2 cD2 q2 cB2 kE2 cE2 rows2 ls2 hs2 P2 w' (HD2.out.below (bel_trans HB23.out hb)) HLR2.out (HP2.out.below (bel_trans HB23.out hb)) hqm2 htm2 (HEE2.out.below (bel_trans HB23.out hb)) HLE2.out hkE2
          have HI2 : Hid (∀ w', Below x3.heap.size x3 w' → Calls Tryz.prog 33 #[.agg #[.int .i64 W2, .slice D2 k2 cD2], .slice B2 q2 cB2, .slice F2 kE2 cE2] w' (Ret w' (.bool cv))) := fun w' hb => HCVV.out ▸ IsCovering_s W2 D2 B2 F2 k2 cD2 q2 cB2 kE2 cE2 rows2 ls2 hs2 P2 w' (HD2.out.below (bel_trans HB23.out hb)) HLR2.out (HP2.out.below (bel_trans HB23.out hb)) hqm2 htm2 (HEE2.out.below (bel_trans HB23.out hb)) HLE2.out hkE2
          have HI3 : Hid (∀ w', Below x3.heap.size x3 w' → Calls Tryz.prog 26 #[.agg #[.int .i64 W3, .slice D3 k3 cD3], .slice B3 q3 cB3, .int .i64 s3] w' (Ret w' (.bool sc))) := fun w' hb => HSCV.out ▸ IsScattered_i W3 D3 B3 k3 cD3 q3 cB3 rows3 s3 hs3 P3 w' (HD3.out.below hb) HLR3.out (HP3.out.below hb) hqm3 htm3 hx63
          have HI4 : Hid (∀ w', Below x3.heap.size x3 w' → Calls Tryz.prog 34 #[.agg #[.int .i64 W3, .slice D3 k3 cD3], .slice B3 q3 cB3, .int .i64 s3] w' (Ret w' (.bool sc))) := fun w' hb => HSCV.out ▸ IsScattered_s W3 D3 B3 k3 cD3 q3 cB3 rows3 s3 hs3 P3 w' (HD3.out.below hb) HLR3.out (HP3.out.below hb) hqm3 htm3 hx63
          clear hcv hsc hN2
          go_wp2_with fail
          (refine wp_region_below (by kernel_rfl) (by kernel_rfl) ?_; (repeat (first | go_big_quiet_skip | (refine quietV (v := ?_) (by rfl) rfl (fun w' hbw => ?_) ?_; rotate_left; ((try dsimp only at hbw); have hbc := (bcell hbw).1; have hbf := (bcell hbw).2; go_simp; first | done | with_reducible rfl | first | (with_reducible exact callsB (v := .bool cv) (HI1.out _ (by with_reducible assumption)) hbw) | (with_reducible exact callsB (v := .bool cv) (HI2.out _ (by with_reducible assumption)) hbw) | (with_reducible exact callsB (v := .bool sc) (HI3.out _ (by with_reducible assumption)) hbw) | (with_reducible exact callsB (v := .bool sc) (HI4.out _ (by with_reducible assumption)) hbw)); simp only [List.setIfInBounds_toArray, List.set_cons_zero, List.set_cons_succ]))); refine wpQuiet_nil ?_; intro z2 hz2)
          go_wp2_with fail
          go_ret
          exact ⟨rfl, bel_trans HX3.out hz2⟩
        | false =>
          clear HHE
          go_wp2_with fail
          refine (DrawIsCovering_s A n c bs0 y2 (HR.out.below HW2.out) HL.out hn).mono ?_
          rintro e p2 ⟨W2, k2, D2, cD2, rows2, B2, q2, cB2, hs2, P2, F2, kE2, cE2, ls2, rfl, hr2, hl2, hk2, hP2, hq2, hrE2, hlE2, hkE2, hb2⟩
          have ht2 := totC_le70O hP2 hq2
          have htm2 : totC P2 ≤ 1048576 := by omega
          have hqm2 : q2 ≤ 1048576 := by omega
          have ba := bel_alloc (Below.refl p2.heap.size p2) (.cells #[.int .i64 W2, .slice D2 k2 cD2] 29)
          have HN2 := Lib.hid (Blk.new p2 29 #[.int .i64 W2, .slice D2 k2 cD2])
          have HD2 := Lib.hid (hr2.below ba)
          have HP2 := Lib.hid (hP2.rdp.below ba)
          have HEE2 := Lib.hid (hrE2.below ba)
          have HLE2 := Lib.hid hlE2
          have HLR2 := Lib.hid hl2
          have HX2 := Lib.hid (bel_trans (bel_trans HW2.out hb2) ba)
          obtain ⟨x2, hx2⟩ : ∃ x, p2.alloc (.cells #[.int .i64 W2, .slice D2 k2 cD2] 29) = x := ⟨_, rfl⟩
          rw [hx2] at HN2 HD2 HP2 HEE2 HX2
          have HQ2 := Lib.hid hx2
          clear ba hx2 hr2 hl2 hP2 hb2 ht2 hrE2 hlE2
          go_upto_region 17 with fail
          rw [HQ2.out]
          clear HQ2
          obtain ⟨gr2, hgr2⟩ : ∃ gr, p2.heap.size = gr := ⟨_, rfl⟩
          rw [hgr2] at HN2 ⊢
          clear hgr2
          go_wp2_with fail
          have HW3 := HX2
          refine (DrawIsScattered_s A n c bs0 x2 (HR.out.below HW3.out) HL.out hn).mono ?_
          rintro e p3 ⟨W3, k3, D3, cD3, rows3, B3, q3, cB3, hs3, P3, s3, rfl, hr3, hl3, hk3, hP3, hq3, hx63, hb3⟩
          have ht3 := totC_le70O hP3 hq3
          have htm3 : totC P3 ≤ 1048576 := by omega
          have hqm3 : q3 ≤ 1048576 := by omega
          have ba := bel_alloc (Below.refl p3.heap.size p3) (.cells #[.int .i64 W3, .slice D3 k3 cD3] 29)
          have HN3 := Lib.hid (Blk.new p3 29 #[.int .i64 W3, .slice D3 k3 cD3])
          have HD3 := Lib.hid (hr3.below ba)
          have HP3 := Lib.hid (hP3.rdp.below ba)
          have HLR3 := Lib.hid hl3
          have HX3 := Lib.hid (bel_trans (bel_trans HW3.out hb3) ba)
          have HBB3 := Lib.hid (bel_trans hb3 ba)
          obtain ⟨x3, hx3⟩ : ∃ x, p3.alloc (.cells #[.int .i64 W3, .slice D3 k3 cD3] 29) = x := ⟨_, rfl⟩
          rw [hx3] at HN3 HD3 HP3 HBB3 HX3
          have HQ3 := Lib.hid hx3
          clear ba hx3 hr3 hl3 hP3 hb3 ht3 
          go_upto_region 18 with fail
          rw [HQ3.out]
          clear HQ3
          obtain ⟨gr3, hgr3⟩ : ∃ gr, p3.heap.size = gr := ⟨_, rfl⟩
          rw [hgr3] at HN3 ⊢
          clear hgr3
          have HB23 : Hid (Below x2.heap.size x2 x3) := HBB3
          have hN2 := HN2.out.below HB23.out
          have c0 : x3.cell? ⟨gr2, 0, none⟩ = some (.int .i64 W2) := by simpa using hN2.cell 0
          have c1 : x3.cell? ⟨gr2, 1, none⟩ = some (.slice D2 k2 cD2) := by simpa using hN2.cell 1
          have cl := hN2.lt
          have d0 : x3.cell? ⟨gr3, 0, none⟩ = some (.int .i64 W3) := by simpa using HN3.out.cell 0
          have d1 : x3.cell? ⟨gr3, 1, none⟩ = some (.slice D3 k3 cD3) := by simpa using HN3.out.cell 1
          have dl := HN3.out.lt
          obtain ⟨cv, hcv⟩ : ∃ b, covV W2 rows2 P2 ls2 = b := ⟨_, rfl⟩
          obtain ⟨sc, hsc⟩ : ∃ b, scatV W3 rows3 P3 s3 = b := ⟨_, rfl⟩
          have HCVV := Lib.hid hcv
          have HSCV := Lib.hid hsc
          have e1 : (cv == cv) = true := by simp
          have e2 : (sc == sc) = true := by simp
          have HI1 : Hid (∀ w', Below x3.heap.size x3 w' → Calls Tryz.prog 27 #[.agg #[.int .i64 W2, .slice D2 k2 cD2], .slice B2 q2 cB2, .slice F2 kE2 cE2] w' (Ret w' (.bool cv))) := fun w' hb => HCVV.out ▸ IsCovering_i W2 D2 B2 F2 k2 cD2 q2 cB2 kE2 cE2 rows2 ls2 hs2 P2 w' (HD2.out.below (bel_trans HB23.out hb)) HLR2.out (HP2.out.below (bel_trans HB23.out hb)) hqm2 htm2 (HEE2.out.below (bel_trans HB23.out hb)) HLE2.out hkE2
          have HI2 : Hid (∀ w', Below x3.heap.size x3 w' → Calls Tryz.prog 33 #[.agg #[.int .i64 W2, .slice D2 k2 cD2], .slice B2 q2 cB2, .slice F2 kE2 cE2] w' (Ret w' (.bool cv))) := fun w' hb => HCVV.out ▸ IsCovering_s W2 D2 B2 F2 k2 cD2 q2 cB2 kE2 cE2 rows2 ls2 hs2 P2 w' (HD2.out.below (bel_trans HB23.out hb)) HLR2.out (HP2.out.below (bel_trans HB23.out hb)) hqm2 htm2 (HEE2.out.below (bel_trans HB23.out hb)) HLE2.out hkE2
          have HI3 : Hid (∀ w', Below x3.heap.size x3 w' → Calls Tryz.prog 26 #[.agg #[.int .i64 W3, .slice D3 k3 cD3], .slice B3 q3 cB3, .int .i64 s3] w' (Ret w' (.bool sc))) := fun w' hb => HSCV.out ▸ IsScattered_i W3 D3 B3 k3 cD3 q3 cB3 rows3 s3 hs3 P3 w' (HD3.out.below hb) HLR3.out (HP3.out.below hb) hqm3 htm3 hx63
          have HI4 : Hid (∀ w', Below x3.heap.size x3 w' → Calls Tryz.prog 34 #[.agg #[.int .i64 W3, .slice D3 k3 cD3], .slice B3 q3 cB3, .int .i64 s3] w' (Ret w' (.bool sc))) := fun w' hb => HSCV.out ▸ IsScattered_s W3 D3 B3 k3 cD3 q3 cB3 rows3 s3 hs3 P3 w' (HD3.out.below hb) HLR3.out (HP3.out.below hb) hqm3 htm3 hx63
          clear hcv hsc hN2
          go_wp2_with fail
          (refine wp_region_below (by kernel_rfl) (by kernel_rfl) ?_; (repeat (first | go_big_quiet_skip | (refine quietV (v := ?_) (by rfl) rfl (fun w' hbw => ?_) ?_; rotate_left; ((try dsimp only at hbw); have hbc := (bcell hbw).1; have hbf := (bcell hbw).2; go_simp; first | done | with_reducible rfl | first | (with_reducible exact callsB (v := .bool cv) (HI1.out _ (by with_reducible assumption)) hbw) | (with_reducible exact callsB (v := .bool cv) (HI2.out _ (by with_reducible assumption)) hbw) | (with_reducible exact callsB (v := .bool sc) (HI3.out _ (by with_reducible assumption)) hbw) | (with_reducible exact callsB (v := .bool sc) (HI4.out _ (by with_reducible assumption)) hbw)); simp only [List.setIfInBounds_toArray, List.set_cons_zero, List.set_cons_succ]))); refine wpQuiet_nil ?_; intro z2 hz2)
          go_wp2_with fail
          go_ret
          exact ⟨rfl, bel_trans HX3.out hz2⟩
      · have HW2 := Lib.hid (bel_trans HB3.out HT.out)
        clear HT c0 c1 cl HD HP HLR HE29 HT3 HIS HFL HSM HLS HTL
        cases isb with
        | false =>
          go_wp2_with fail
          refine (DrawIsCovering_s A n c bs0 v (HR.out.below HW2.out) HL.out hn).mono ?_
          rintro e p2 ⟨W2, k2, D2, cD2, rows2, B2, q2, cB2, hs2, P2, F2, kE2, cE2, ls2, rfl, hr2, hl2, hk2, hP2, hq2, hrE2, hlE2, hkE2, hb2⟩
          have ht2 := totC_le70O hP2 hq2
          have htm2 : totC P2 ≤ 1048576 := by omega
          have hqm2 : q2 ≤ 1048576 := by omega
          have ba := bel_alloc (Below.refl p2.heap.size p2) (.cells #[.int .i64 W2, .slice D2 k2 cD2] 29)
          have HN2 := Lib.hid (Blk.new p2 29 #[.int .i64 W2, .slice D2 k2 cD2])
          have HD2 := Lib.hid (hr2.below ba)
          have HP2 := Lib.hid (hP2.rdp.below ba)
          have HEE2 := Lib.hid (hrE2.below ba)
          have HLE2 := Lib.hid hlE2
          have HLR2 := Lib.hid hl2
          have HX2 := Lib.hid (bel_trans (bel_trans HW2.out hb2) ba)
          obtain ⟨x2, hx2⟩ : ∃ x, p2.alloc (.cells #[.int .i64 W2, .slice D2 k2 cD2] 29) = x := ⟨_, rfl⟩
          rw [hx2] at HN2 HD2 HP2 HEE2 HX2
          have HQ2 := Lib.hid hx2
          clear ba hx2 hr2 hl2 hP2 hb2 ht2 hrE2 hlE2
          go_upto_region 17 with fail
          rw [HQ2.out]
          clear HQ2
          obtain ⟨gr2, hgr2⟩ : ∃ gr, p2.heap.size = gr := ⟨_, rfl⟩
          rw [hgr2] at HN2 ⊢
          clear hgr2
          go_wp2_with fail
          have HW3 := HX2
          refine (DrawIsScattered_s A n c bs0 x2 (HR.out.below HW3.out) HL.out hn).mono ?_
          rintro e p3 ⟨W3, k3, D3, cD3, rows3, B3, q3, cB3, hs3, P3, s3, rfl, hr3, hl3, hk3, hP3, hq3, hx63, hb3⟩
          have ht3 := totC_le70O hP3 hq3
          have htm3 : totC P3 ≤ 1048576 := by omega
          have hqm3 : q3 ≤ 1048576 := by omega
          have ba := bel_alloc (Below.refl p3.heap.size p3) (.cells #[.int .i64 W3, .slice D3 k3 cD3] 29)
          have HN3 := Lib.hid (Blk.new p3 29 #[.int .i64 W3, .slice D3 k3 cD3])
          have HD3 := Lib.hid (hr3.below ba)
          have HP3 := Lib.hid (hP3.rdp.below ba)
          have HLR3 := Lib.hid hl3
          have HX3 := Lib.hid (bel_trans (bel_trans HW3.out hb3) ba)
          have HBB3 := Lib.hid (bel_trans hb3 ba)
          obtain ⟨x3, hx3⟩ : ∃ x, p3.alloc (.cells #[.int .i64 W3, .slice D3 k3 cD3] 29) = x := ⟨_, rfl⟩
          rw [hx3] at HN3 HD3 HP3 HBB3 HX3
          have HQ3 := Lib.hid hx3
          clear ba hx3 hr3 hl3 hP3 hb3 ht3 
          go_upto_region 18 with fail
          rw [HQ3.out]
          clear HQ3
          obtain ⟨gr3, hgr3⟩ : ∃ gr, p3.heap.size = gr := ⟨_, rfl⟩
          rw [hgr3] at HN3 ⊢
          clear hgr3
          have HB23 : Hid (Below x2.heap.size x2 x3) := HBB3
          have hN2 := HN2.out.below HB23.out
          have c0 : x3.cell? ⟨gr2, 0, none⟩ = some (.int .i64 W2) := by simpa using hN2.cell 0
          have c1 : x3.cell? ⟨gr2, 1, none⟩ = some (.slice D2 k2 cD2) := by simpa using hN2.cell 1
          have cl := hN2.lt
          have d0 : x3.cell? ⟨gr3, 0, none⟩ = some (.int .i64 W3) := by simpa using HN3.out.cell 0
          have d1 : x3.cell? ⟨gr3, 1, none⟩ = some (.slice D3 k3 cD3) := by simpa using HN3.out.cell 1
          have dl := HN3.out.lt
          obtain ⟨cv, hcv⟩ : ∃ b, covV W2 rows2 P2 ls2 = b := ⟨_, rfl⟩
          obtain ⟨sc, hsc⟩ : ∃ b, scatV W3 rows3 P3 s3 = b := ⟨_, rfl⟩
          have HCVV := Lib.hid hcv
          have HSCV := Lib.hid hsc
          have e1 : (cv == cv) = true := by simp
          have e2 : (sc == sc) = true := by simp
          have HI1 : Hid (∀ w', Below x3.heap.size x3 w' → Calls Tryz.prog 27 #[.agg #[.int .i64 W2, .slice D2 k2 cD2], .slice B2 q2 cB2, .slice F2 kE2 cE2] w' (Ret w' (.bool cv))) := fun w' hb => HCVV.out ▸ IsCovering_i W2 D2 B2 F2 k2 cD2 q2 cB2 kE2 cE2 rows2 ls2 hs2 P2 w' (HD2.out.below (bel_trans HB23.out hb)) HLR2.out (HP2.out.below (bel_trans HB23.out hb)) hqm2 htm2 (HEE2.out.below (bel_trans HB23.out hb)) HLE2.out hkE2
          have HI2 : Hid (∀ w', Below x3.heap.size x3 w' → Calls Tryz.prog 33 #[.agg #[.int .i64 W2, .slice D2 k2 cD2], .slice B2 q2 cB2, .slice F2 kE2 cE2] w' (Ret w' (.bool cv))) := fun w' hb => HCVV.out ▸ IsCovering_s W2 D2 B2 F2 k2 cD2 q2 cB2 kE2 cE2 rows2 ls2 hs2 P2 w' (HD2.out.below (bel_trans HB23.out hb)) HLR2.out (HP2.out.below (bel_trans HB23.out hb)) hqm2 htm2 (HEE2.out.below (bel_trans HB23.out hb)) HLE2.out hkE2
          have HI3 : Hid (∀ w', Below x3.heap.size x3 w' → Calls Tryz.prog 26 #[.agg #[.int .i64 W3, .slice D3 k3 cD3], .slice B3 q3 cB3, .int .i64 s3] w' (Ret w' (.bool sc))) := fun w' hb => HSCV.out ▸ IsScattered_i W3 D3 B3 k3 cD3 q3 cB3 rows3 s3 hs3 P3 w' (HD3.out.below hb) HLR3.out (HP3.out.below hb) hqm3 htm3 hx63
          have HI4 : Hid (∀ w', Below x3.heap.size x3 w' → Calls Tryz.prog 34 #[.agg #[.int .i64 W3, .slice D3 k3 cD3], .slice B3 q3 cB3, .int .i64 s3] w' (Ret w' (.bool sc))) := fun w' hb => HSCV.out ▸ IsScattered_s W3 D3 B3 k3 cD3 q3 cB3 rows3 s3 hs3 P3 w' (HD3.out.below hb) HLR3.out (HP3.out.below hb) hqm3 htm3 hx63
          clear hcv hsc hN2
          go_wp2_with fail
          (refine wp_region_below (by kernel_rfl) (by kernel_rfl) ?_; (repeat (first | go_big_quiet_skip | (refine quietV (v := ?_) (by rfl) rfl (fun w' hbw => ?_) ?_; rotate_left; ((try dsimp only at hbw); have hbc := (bcell hbw).1; have hbf := (bcell hbw).2; go_simp; first | done | with_reducible rfl | first | (with_reducible exact callsB (v := .bool cv) (HI1.out _ (by with_reducible assumption)) hbw) | (with_reducible exact callsB (v := .bool cv) (HI2.out _ (by with_reducible assumption)) hbw) | (with_reducible exact callsB (v := .bool sc) (HI3.out _ (by with_reducible assumption)) hbw) | (with_reducible exact callsB (v := .bool sc) (HI4.out _ (by with_reducible assumption)) hbw)); simp only [List.setIfInBounds_toArray, List.set_cons_zero, List.set_cons_succ]))); refine wpQuiet_nil ?_; intro z2 hz2)
          go_wp2_with fail
          go_ret
          exact ⟨rfl, bel_trans HX3.out hz2⟩
        | true =>
          have hqI : ((q : Int) == 1) = false := by simp only [beq_eq_false_iff_ne]; intro h; exact hq1 ⟨rfl, by omega⟩
          have hqn : ¬ q = 1 := fun h => hq1 ⟨rfl, h⟩
          have hqd : decide (q = 1) = false := decide_eq_false hqn
          have hqb : (q == 1) = false := by simp [hqn]
          go_wp2_with fail
          refine (DrawIsCovering_s A n c bs0 v (HR.out.below HW2.out) HL.out hn).mono ?_
          rintro e p2 ⟨W2, k2, D2, cD2, rows2, B2, q2, cB2, hs2, P2, F2, kE2, cE2, ls2, rfl, hr2, hl2, hk2, hP2, hq2, hrE2, hlE2, hkE2, hb2⟩
          have ht2 := totC_le70O hP2 hq2
          have htm2 : totC P2 ≤ 1048576 := by omega
          have hqm2 : q2 ≤ 1048576 := by omega
          have ba := bel_alloc (Below.refl p2.heap.size p2) (.cells #[.int .i64 W2, .slice D2 k2 cD2] 29)
          have HN2 := Lib.hid (Blk.new p2 29 #[.int .i64 W2, .slice D2 k2 cD2])
          have HD2 := Lib.hid (hr2.below ba)
          have HP2 := Lib.hid (hP2.rdp.below ba)
          have HEE2 := Lib.hid (hrE2.below ba)
          have HLE2 := Lib.hid hlE2
          have HLR2 := Lib.hid hl2
          have HX2 := Lib.hid (bel_trans (bel_trans HW2.out hb2) ba)
          obtain ⟨x2, hx2⟩ : ∃ x, p2.alloc (.cells #[.int .i64 W2, .slice D2 k2 cD2] 29) = x := ⟨_, rfl⟩
          rw [hx2] at HN2 HD2 HP2 HEE2 HX2
          have HQ2 := Lib.hid hx2
          clear ba hx2 hr2 hl2 hP2 hb2 ht2 hrE2 hlE2
          go_upto_region 17 with fail
          rw [HQ2.out]
          clear HQ2
          obtain ⟨gr2, hgr2⟩ : ∃ gr, p2.heap.size = gr := ⟨_, rfl⟩
          rw [hgr2] at HN2 ⊢
          clear hgr2
          go_wp2_with fail
          have HW3 := HX2
          refine (DrawIsScattered_s A n c bs0 x2 (HR.out.below HW3.out) HL.out hn).mono ?_
          rintro e p3 ⟨W3, k3, D3, cD3, rows3, B3, q3, cB3, hs3, P3, s3, rfl, hr3, hl3, hk3, hP3, hq3, hx63, hb3⟩
          have ht3 := totC_le70O hP3 hq3
          have htm3 : totC P3 ≤ 1048576 := by omega
          have hqm3 : q3 ≤ 1048576 := by omega
          have ba := bel_alloc (Below.refl p3.heap.size p3) (.cells #[.int .i64 W3, .slice D3 k3 cD3] 29)
          have HN3 := Lib.hid (Blk.new p3 29 #[.int .i64 W3, .slice D3 k3 cD3])
          have HD3 := Lib.hid (hr3.below ba)
          have HP3 := Lib.hid (hP3.rdp.below ba)
          have HLR3 := Lib.hid hl3
          have HX3 := Lib.hid (bel_trans (bel_trans HW3.out hb3) ba)
          have HBB3 := Lib.hid (bel_trans hb3 ba)
          obtain ⟨x3, hx3⟩ : ∃ x, p3.alloc (.cells #[.int .i64 W3, .slice D3 k3 cD3] 29) = x := ⟨_, rfl⟩
          rw [hx3] at HN3 HD3 HP3 HBB3 HX3
          have HQ3 := Lib.hid hx3
          clear ba hx3 hr3 hl3 hP3 hb3 ht3 
          go_upto_region 18 with fail
          rw [HQ3.out]
          clear HQ3
          obtain ⟨gr3, hgr3⟩ : ∃ gr, p3.heap.size = gr := ⟨_, rfl⟩
          rw [hgr3] at HN3 ⊢
          clear hgr3
          have HB23 : Hid (Below x2.heap.size x2 x3) := HBB3
          have hN2 := HN2.out.below HB23.out
          have c0 : x3.cell? ⟨gr2, 0, none⟩ = some (.int .i64 W2) := by simpa using hN2.cell 0
          have c1 : x3.cell? ⟨gr2, 1, none⟩ = some (.slice D2 k2 cD2) := by simpa using hN2.cell 1
          have cl := hN2.lt
          have d0 : x3.cell? ⟨gr3, 0, none⟩ = some (.int .i64 W3) := by simpa using HN3.out.cell 0
          have d1 : x3.cell? ⟨gr3, 1, none⟩ = some (.slice D3 k3 cD3) := by simpa using HN3.out.cell 1
          have dl := HN3.out.lt
          obtain ⟨cv, hcv⟩ : ∃ b, covV W2 rows2 P2 ls2 = b := ⟨_, rfl⟩
          obtain ⟨sc, hsc⟩ : ∃ b, scatV W3 rows3 P3 s3 = b := ⟨_, rfl⟩
          have HCVV := Lib.hid hcv
          have HSCV := Lib.hid hsc
          have e1 : (cv == cv) = true := by simp
          have e2 : (sc == sc) = true := by simp
          have HI1 : Hid (∀ w', Below x3.heap.size x3 w' → Calls Tryz.prog 27 #[.agg #[.int .i64 W2, .slice D2 k2 cD2], .slice B2 q2 cB2, .slice F2 kE2 cE2] w' (Ret w' (.bool cv))) := fun w' hb => HCVV.out ▸ IsCovering_i W2 D2 B2 F2 k2 cD2 q2 cB2 kE2 cE2 rows2 ls2 hs2 P2 w' (HD2.out.below (bel_trans HB23.out hb)) HLR2.out (HP2.out.below (bel_trans HB23.out hb)) hqm2 htm2 (HEE2.out.below (bel_trans HB23.out hb)) HLE2.out hkE2
          have HI2 : Hid (∀ w', Below x3.heap.size x3 w' → Calls Tryz.prog 33 #[.agg #[.int .i64 W2, .slice D2 k2 cD2], .slice B2 q2 cB2, .slice F2 kE2 cE2] w' (Ret w' (.bool cv))) := fun w' hb => HCVV.out ▸ IsCovering_s W2 D2 B2 F2 k2 cD2 q2 cB2 kE2 cE2 rows2 ls2 hs2 P2 w' (HD2.out.below (bel_trans HB23.out hb)) HLR2.out (HP2.out.below (bel_trans HB23.out hb)) hqm2 htm2 (HEE2.out.below (bel_trans HB23.out hb)) HLE2.out hkE2
          have HI3 : Hid (∀ w', Below x3.heap.size x3 w' → Calls Tryz.prog 26 #[.agg #[.int .i64 W3, .slice D3 k3 cD3], .slice B3 q3 cB3, .int .i64 s3] w' (Ret w' (.bool sc))) := fun w' hb => HSCV.out ▸ IsScattered_i W3 D3 B3 k3 cD3 q3 cB3 rows3 s3 hs3 P3 w' (HD3.out.below hb) HLR3.out (HP3.out.below hb) hqm3 htm3 hx63
          have HI4 : Hid (∀ w', Below x3.heap.size x3 w' → Calls Tryz.prog 34 #[.agg #[.int .i64 W3, .slice D3 k3 cD3], .slice B3 q3 cB3, .int .i64 s3] w' (Ret w' (.bool sc))) := fun w' hb => HSCV.out ▸ IsScattered_s W3 D3 B3 k3 cD3 q3 cB3 rows3 s3 hs3 P3 w' (HD3.out.below hb) HLR3.out (HP3.out.below hb) hqm3 htm3 hx63
          clear hcv hsc hN2
          go_wp2_with fail
          (refine wp_region_below (by kernel_rfl) (by kernel_rfl) ?_; (repeat (first | go_big_quiet_skip | (refine quietV (v := ?_) (by rfl) rfl (fun w' hbw => ?_) ?_; rotate_left; ((try dsimp only at hbw); have hbc := (bcell hbw).1; have hbf := (bcell hbw).2; go_simp; first | done | with_reducible rfl | first | (with_reducible exact callsB (v := .bool cv) (HI1.out _ (by with_reducible assumption)) hbw) | (with_reducible exact callsB (v := .bool cv) (HI2.out _ (by with_reducible assumption)) hbw) | (with_reducible exact callsB (v := .bool sc) (HI3.out _ (by with_reducible assumption)) hbw) | (with_reducible exact callsB (v := .bool sc) (HI4.out _ (by with_reducible assumption)) hbw)); simp only [List.setIfInBounds_toArray, List.set_cons_zero, List.set_cons_succ]))); refine wpQuiet_nil ?_; intro z2 hz2)
          go_wp2_with fail
          go_ret
          exact ⟨rfl, bel_trans HX3.out hz2⟩
end Go.Proofs.YtcgjnonlndaoeaaGreatDoor
