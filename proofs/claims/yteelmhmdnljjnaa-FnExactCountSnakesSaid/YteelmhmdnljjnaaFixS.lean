/- All shapes of some cells: the reference. -/
import Derived.Test.YteelmhmdnljjnaaExtS
import Derived.Test.YteelmhmdnljjnaaGrown
import Derived.Test.YteelmhmdnljjnaaGrwM
import Derived.Outline
import Derived.WalkLawsBesides
import Derived.WalkSpells
import Derived.BigQuiet
import Derived.Deep.QuietTactic
import Derived.Deep.RegionHeld3
import Derived.Deep.RegionWith
import Derived.Deep.DeepCutAuto
import Derived.Deep.CutBlock
import Derived.Deep.DrawnRows
namespace Go.Proofs.Yteelmhmdnljjnaa
open Go.RowKit
set_option linter.unusedVariables false
attribute [local go_sem ↓] Go.wp_at_zero Go.wp_at_succ

theorem fix_short (k : Nat) (h : k ≤ 3) : ∀ x ∈ fixV k, x.length ≠ 8 := by
  have hf : ∀ x ∈ fixF k, x.length ≠ 8 := by
    rcases (by omega : k = 0 ∨ k = 1 ∨ k = 2 ∨ k = 3) with rfl | rfl | rfl | rfl <;> decide +kernel
  rw [fixF_eq] at hf
  exact hf
theorem extR_fix {k : Nat} (h : k ≤ 3) {t : List C} (ht : t ∈ fixV k) : extR t = extV t := by
  unfold extR
  exact if_pos ⟨(fixV_fine k).2 t ht, fix_short k h t ht⟩
theorem own_some {w : World} {base e n c : Nat} {A : Option Addr} {xs : List Value} (h : w.ownsRow base e 1 (.slice A (n + 1) c) (n + 1) xs) : ∃ g, A = some ⟨g, 0, none⟩ := by
  rcases h.2 with ⟨hv, _⟩ | ⟨g', cap, cur, hv, _⟩
  · injection hv with _ h2 _; omega
  · injection hv with h1 _ _; exact ⟨g', h1⟩
set_option maxRecDepth 100000 in
set_option maxHeartbeats 6400000 in
theorem FixedShapes_s (n : Int) (w : World) : Calls Try.prog 15 #[.int .i64 n] w (RetFA w (fixA n)) := by
  have hini : (w.alloc (.cells #[] 31)).ownsRow w.heap.size 31 1 (.slice (some ⟨w.heap.size, 0, none⟩) 0 0) 0 [] := own_new w _ 1 0 #[] rfl (by simp [maxLen]) (Nat.le_refl _)
  have HI := Lib.hid (OwnF.none_ hini)
  clear hini
  by_cases h : 1 ≤ n ∧ n ≤ 5
  · obtain ⟨n, rfl⟩ : ∃ k : Nat, n = (k : Int) := ⟨n.toNat, by omega⟩
    have HV : Hid (fixA (n : Int) = fixV (n - 1)) := by show fixA _ = _; unfold fixA; rw [if_pos h]; simp
    have hn1 : 1 ≤ n := by omega
    have hn5 : n ≤ 5 := by omega
    have HB := Lib.hid h
    clear h
    go_enter Try.func15, Try.ntmps15
    go_wp2_with fail
    refine (l1In_t (n : Int) 1 5 _ HB.out.1 HB.out.2).mono ?_
    rintro e w1 ⟨rfl, hb1⟩
    have HI1 := Lib.hid (HI.out.below hb1)
    have hbw1 : Below w.heap.size w w1 := bel_trans (bel_alloc (Below.refl _ _) _) hb1
    have hz1 := hb1.size
    simp only [World.size_alloc] at hz1
    have HRN : Hid (Rd ((w1.alloc (.cells #[.int .i64 0, .int .i64 0] 36)).alloc (.cells #[.slice (some ⟨w1.heap.size, 0, none⟩) 1 1] 31)) (some ⟨w1.heap.size + 1, 0, none⟩) (vS [(some ⟨w1.heap.size, 0, none⟩, 1, 1)])) := by
      have := rd_newS (w1.alloc (.cells #[.int .i64 0, .int .i64 0] 36)) 31 (some ⟨w1.heap.size, 0, none⟩, 1, 1)
      exact Lib.hid (by simpa [hd] using this)
    go_wp2_with (at_builtin; go_must (refine app_F _ rfl _ _ rfl w.heap.size _ 0 0 [] rfl ((HI1.out.own.alloc _).alloc _) _ _ _ [(some ⟨w1.heap.size, 0, none⟩, 1, 1)] rfl HRN.out rfl (by omega) (by simp; omega) ?_); intro A3 c3 w3 ho3 hg3 _; have HO3 := Lib.hid ho3; have HG3 := Lib.hid hg3; clear ho3 hg3)
    obtain ⟨g3, hA3⟩ := own_some HO3.out
    subst hA3
    have hbw3 : Below w.heap.size w w3 := bel_app (bel_alloc (bel_alloc hbw1 _) _) HG3.out (fun g e => (own_lt HI1.out.own g e).1)
    have hini : OwnF w.heap.size w3 (some ⟨g3, 0, none⟩) 1 c3 [(some ⟨w1.heap.size, 0, none⟩, 1, 1)] (fixV 0) := by
      refine ⟨HO3.out, rfl, fun i x f h1 h2 => ?_⟩
      have hi : i = 0 := by have := (List.getElem?_eq_some_iff.1 h1).1; simp at this; exact this
      subst hi
      simp at h1
      simp [fixV] at h2
      subst h1 h2
      have hc : CRow ((w1.alloc (.cells #[.int .i64 0, .int .i64 0] 36)).alloc (.cells #[.slice (some ⟨w1.heap.size, 0, none⟩) 1 1] 31)) (some ⟨w1.heap.size, 0, none⟩, 1, 1) [(0, 0)] :=
        CRow.of_own (by simpa [vC] using (own_new w1 36 2 1 #[.int .i64 0, .int .i64 0] rfl (by simp [maxLen]) (base := w.heap.size) hbw1.size).alloc (.cells #[.slice (some ⟨w1.heap.size, 0, none⟩) 1 1] 31))
      exact hc.grown HG3.out (fun g e r => by simp [ob] at e r; omega)
    have HI3 := Lib.hid hini
    clear hini
    go_loopw [4, 3] (fun e4 e3 wr => ∃ (k m c g : Nat) (hs : List H), 1 ≤ k ∧ k ≤ n ∧ e4 = .int .i64 k ∧ e3 = .slice (some ⟨g, 0, none⟩) m c ∧ OwnF w.heap.size wr (some ⟨g, 0, none⟩) m c hs (fixV (k - 1)) ∧ Below w.heap.size w wr) (fun e4 _ _ => n - (intOf e4).toNat)
    case atStart => exact ⟨1, 1, _, _, _, Nat.le_refl _, hn1, rfl, rfl, HI3.out, hbw3⟩
    case round =>
      clear HRN HI HI1 HO3 HG3 HI3 hbw3 hbw1 hb1 hz1
      obtain ⟨k, m, c, gA, hs, hk1, hkn, rfl, rfl, hO, hb⟩ := hrel
      obtain ⟨v, hv⟩ : ∃ v, v = wr := ⟨_, rfl⟩
      subst hv
      by_cases hlt : k < n
      · have hkI : (k : Int) < (n : Int) := by omega
        obtain ⟨k0, hk0⟩ : ∃ k0, k = k0 + 1 := ⟨k - 1, by omega⟩
        have hkk : k - 1 = k0 := by omega
        rw [hkk] at hO
        have HNX : Hid (fixV (k + 1 - 1) = growN (fixV k0) m) := by show fixV (k + 1 - 1) = _; rw [Nat.add_sub_cancel, hk0, ← hO.flen]; rfl
        have hml : m ≤ 1048576 := by have h1 := fixV_len k0; have h2 := pow32 k0 (by omega); rw [hO.flen] at h1; omega
        have hsh := (fixV_fine k0).2
        have hxr := fun t => extR_fix (k := k0) (by omega) (t := t)
        obtain ⟨F, hF⟩ : ∃ F, fixV k0 = F := ⟨_, rfl⟩
        rw [hF] at hO hsh hxr
        rw [hF] at HNX
        have HO := Lib.hid hO
        have HFL := Lib.hid hO.flen
        have HSH := Lib.hid hsh
        have HXR := Lib.hid hxr
        have HKK := Lib.hid hk0
        have hbz := hb.size
        have HN0 : Hid (OwnF v.heap.size (v.alloc (.cells #[] 31)) (some ⟨v.heap.size, 0, none⟩) 0 0 [] []) := OwnF.none_ (own_new v 31 1 0 #[] rfl (by simp [maxLen]) (Nat.le_refl _))
        clear hO hF hsh hk0 hkk hxr
        go_wp2_with fail
        go_loopw [6, 5] (fun e6 e5 wr2 => ∃ (i q cq g : Nat) (hs2 : List H), i ≤ m ∧ e6 = .int .i64 i ∧ e5 = .slice (some ⟨g, 0, none⟩) q cq ∧ OwnF v.heap.size wr2 (some ⟨g, 0, none⟩) q cq hs2 (growN F i) ∧ Below v.heap.size v wr2) (fun e6 _ _ => m - (intOf e6).toNat)
        case atStart => exact ⟨0, 0, 0, _, [], Nat.zero_le _, rfl, rfl, HN0.out, bel_alloc (Below.refl _ _) _⟩
        case round =>
          clear HN0
          obtain ⟨i, q, cq, gD, hs2, hi, rfl, rfl, hO2, hb2⟩ := hrel
          by_cases him : i < m
          · have hi0 : (0 : Int) ≤ (i : Int) := by omega
            have hi1 : (i : Int) < (m : Int) := by omega
            have hRF := (HO.out.below hb2).rd
            obtain ⟨x, t, g, off, hsx, hfx, hAe, hg, d1, hrow⟩ := hRF.at_ him
            have htsh := HSH.out t (List.mem_of_getElem? hfx)
            have hxr := HXR.out t (List.mem_of_getElem? hfx)
            have hiF : i < F.length := by rw [HFL.out]; exact him
            have hgs := growN_succ F i hiF
            rw [show F[i] = t from by rw [List.getElem?_eq_getElem hiF] at hfx; injection hfx] at hgs
            have hgl := growN_len F HSH.out i (by omega)
            have hgf := growN_fine F i (by omega)
            obtain ⟨C1, m1, k1⟩ := x
            have hl1 : t.length = m1 := hrow.1
            have hm8 : m1 ≤ 1048576 := by have := (shape_len htsh).2; omega
            obtain ⟨G0, hG0⟩ : ∃ G0, growN F i = G0 := ⟨_, rfl⟩
            rw [hG0] at hgs hgl hgf hO2
            have HL1 := Lib.hid hl1
            have HT := Lib.hid htsh
            have HROW := Lib.hid hrow
            have HGS := Lib.hid hgs
            have HGF := Lib.hid hgf
            have HO2 := Lib.hid hO2
            have HXT := Lib.hid hxr
            have hql : q ≤ 32 * i := by rw [← hO2.flen]; exact hgl
            dsimp only at d1
            cases hAe
            simp only [Nat.zero_add] at d1
            clear hsx hfx hrow htsh hgs hgf hgl hO2 hG0 hl1 hRF hxr
            go_wp2_with fail
            refine (ExtensionsOf_s C1 m1 k1 t _ HROW.out.2.1 HL1.out hm8).mono ?_
            rw [HXT.out]
            rintro e w1 ⟨gE, me, ce, hsE, rfl, hoE, hb3⟩
            have hel : me ≤ 32 := by rw [← hoE.flen]; have h1 := extV_len t; have h2 := (shape_len HT.out).2; omega
            have HRE := Lib.hid hoE.rd
            have HFE := Lib.hid hoE.flen
            have HO3 := Lib.hid (HO2.out.below hb3)
            have hb23 : Below v.heap.size v w1 := bel_trans hb2 hb3
            clear hoE HO2 HROW hb2 hb3 d1
            go_wp2_with fail
            go_loopw [8, 5] (fun e8 e5 wr3 => ∃ (j q cq g : Nat) (hs2 : List H) (G : List (List C)), j ≤ me ∧ e8 = .int .i64 j ∧ e5 = .slice (some ⟨g, 0, none⟩) q cq ∧ G = ((extV t).take j).foldl (putG ltS) G0 ∧ OwnF v.heap.size wr3 (some ⟨g, 0, none⟩) q cq hs2 G ∧ FineF G ∧ G.length ≤ 32 * i + j ∧ RdF wr3 (some ⟨gE, 0, none⟩) me hsE (extV t) ∧ Below v.heap.size v wr3) (fun e8 _ _ => me - (intOf e8).toNat)
            case atStart => exact ⟨0, q, cq, gD, hs2, G0, Nat.zero_le _, rfl, rfl, rfl, HO3.out, HGF.out, by rw [HO3.out.flen]; omega, HRE.out, hb23⟩
            case round =>
              clear HO3 HRE hb23 hg
              obtain ⟨j, q, cq, gD, hs2, G, hj, rfl, rfl, hG, hO, hfi, hgl, hre, hb3⟩ := hrel
              by_cases hjm : j < me
              · have hj0 : (0 : Int) ≤ (j : Int) := by omega
                have hj1 : (j : Int) < (me : Int) := by omega
                obtain ⟨x, s2, g2, o2, hsx, hfx, hEe, hg2, d1, hrow⟩ := hre.at_ hjm
                have hs2sh := (extTo_fine sidesV t t.length).2 s2 (List.mem_of_getElem? hfx)
                have hjE : j < (extV t).length := by rw [HFE.out]; exact hjm
                have hstep : ((extV t).take (j + 1)).foldl (putG ltS) G0 = putG ltS G s2 := by
                  rw [List.take_succ_eq_append_getElem hjE, List.foldl_append, ← hG, show (extV t)[j] = s2 from by rw [List.getElem?_eq_getElem hjE] at hfx; injection hfx]
                  rfl
                obtain ⟨B, m2, k2⟩ := x
                have hl2 : s2.length = m2 := hrow.1
                have hm28 : m2 ≤ 8 := by have := (shape_len hs2sh).2; omega
                have hqG : q ≤ 32 * i + j := by rw [← hO.flen]; exact hgl
                have HQL := Lib.hid hO.flen
                have HO := Lib.hid hO
                have HFI := Lib.hid hfi
                have HRE := Lib.hid hre
                have HROW := Lib.hid hrow
                have HS2 := Lib.hid hs2sh
                have HST := Lib.hid hstep
                dsimp only at d1
                cases hEe
                simp only [Nat.zero_add] at d1
                clear hG hO hfi hre hsx hfx hrow hs2sh hstep hl2 hgl
                go_wp2_with fail
                refine (l3Put_s gD q cq hs2 G B m2 k2 s2 v.heap.size _ HO.out HROW.out (fun x hx => by have := HFI.out.len x hx; omega) (by omega) (by omega) hb3.size).mono ?_
                rw [← HST.out]
                rintro e w8 ⟨g3, q3, c3, hs3, rfl, hO8, hb8⟩
                have HO8 := Lib.hid hO8
                have hq8 : q3 ≤ 32 * i + (j + 1) := by
                  rw [← hO8.flen, HST.out]
                  have := putG_len (lt := ltS) G s2
                  have := HQL.out
                  omega
                have HFL8 : Hid ((((extV t).take (j + 1)).foldl (putG ltS) G0).length ≤ 32 * i + (j + 1)) := by show _ ≤ _; rw [hO8.flen]; exact hq8
                have HRE8 := Lib.hid (HRE.out.below hb8)
                have HF8 : Hid (FineF (((extV t).take (j + 1)).foldl (putG ltS) G0)) := by show FineF _; rw [HST.out]; exact HFI.out.put HS2.out
                have HB8 := Lib.hid (bel_trans hb3 hb8)
                clear hO8 hb8
                go_wp2_with fail
                exact ⟨⟨j + 1, q3, c3, g3, hs3, _, by omega, by go_num, rfl, rfl, HO8.out, HF8.out, HFL8.out, HRE8.out, HB8.out⟩, by simp [intOf]; omega⟩
              · obtain rfl : j = me := by omega
                have hGe : growN F (i + 1) = G := by rw [HGS.out, hG, List.take_of_length_le (by rw [HFE.out]; omega)]
                rw [← hGe] at hO
                have HO := Lib.hid hO
                have hj1 : ¬ (j : Int) < (j : Int) := by omega
                clear hO hG hGe hre
                go_wp2_with fail
                exact ⟨⟨i + 1, q, cq, gD, hs2, by omega, by go_num, rfl, HO.out, hb3⟩, by simp [intOf]; omega⟩
          · obtain rfl : i = m := by omega
            rw [← HNX.out] at hO2
            have HO2 := Lib.hid (hO2.mono hbz)
            have hi1 : ¬ (i : Int) < (i : Int) := by omega
            clear hO2
            go_wp2_with fail
            exact ⟨⟨k + 1, q, cq, gD, hs2, by omega, by omega, by go_num, rfl, HO2.out, bel_trans hb hb2⟩, by simp [intOf]; omega⟩
      · obtain rfl : k = n := by omega
        rw [← HV.out] at hO
        have HO := Lib.hid hO
        have hkI : ¬ (k : Int) < (k : Int) := by omega
        clear hO
        go_wp2_with fail
        go_ret
        exact ⟨gA, m, c, hs, rfl, HO.out, hb⟩
  · have HV : Hid (fixA n = []) := by show fixA n = _; unfold fixA; rw [if_neg h]
    have HB := Lib.hid h
    clear h
    go_enter Try.func15, Try.ntmps15
    go_wp2_with fail
    refine (l1In_f n 1 5 _ HB.out).mono ?_
    rintro e w1 ⟨rfl, hb1⟩
    have HI1 := Lib.hid (HI.out.below hb1)
    go_wp2_with fail
    go_ret
    exact ⟨w.heap.size, 0, 0, [], rfl, by rw [HV.out]; exact HI1.out, bel_trans (bel_alloc (Below.refl _ _) _) hb1⟩
end Go.Proofs.Yteelmhmdnljjnaa
