/- Shapes counted by half their perimeters: the reference; and the law. -/
import Derived.Test.YteelmhmdnljjnaaTabW
import Derived.Test.YteelmhmdnljjnaaFixS
import Derived.Test.YteelmhmdnljjnaaLawI
import Derived.Outline
import Derived.WalkLawsBesides
import Derived.WalkSpells
import Derived.BigQuiet
import Derived.Deep.QuietTactic
import Derived.Deep.RegionHeld3
import Derived.Deep.RegionWith
import Derived.Deep.DeepCutAuto
import Derived.Deep.CutBlock
import Derived.Deep.DrawnRows
namespace Go.Proofs.Yteelmhmdnljjnaa
open Go.RowKit
set_option linter.unusedVariables false
attribute [local go_sem ↓] Go.wp_at_zero Go.wp_at_succ

set_option maxRecDepth 100000 in
set_option maxHeartbeats 6400000 in
theorem PerimeterTable_s (n : Int) (w : World) : Calls Try.prog 6 #[.int .i64 n] w (RetS w 3 1 (vI (tabVG perH (fixA n)))) := by
  have hsh := fixA_shape2 n
  have hnb := fixA_per n
  have hfl := fixA_len2 n
  obtain ⟨F, hF⟩ : ∃ F, fixA n = F := ⟨_, rfl⟩
  rw [hF] at hsh hnb hfl
  have hmk : ∀ wq, (Instr.makeSlice 22 (.int .i64 13) (.int .i64 13)).run Try.prog wq = _ := fun wq => mk_I wq 13 (by omega)
  have HSH := Lib.hid hsh
  have HNB := Lib.hid hnb
  have HF := Lib.hid hF
  clear hsh hnb hF
  go_enter Try.func6, Try.ntmps6
  go_wp2_with fail
  refine (FixedShapes_s n _).mono ?_
  rw [HF.out]
  rintro e w1 ⟨g, m, c, hs, rfl, hO, hb1⟩
  have hml : F.length = m := hO.flen
  by_cases h0 : m = 0
  · subst h0
    have hF0 : F = [] := List.length_eq_zero_iff.1 hml
    have HV : Hid (tabVG perH F = []) := by show tabVG perH F = []; unfold tabVG; rw [if_pos hF0]
    have HI : Hid ((w1.alloc (.cells #[] 3)).ownsRow w.heap.size 3 1 (.slice (some ⟨w1.heap.size, 0, none⟩) 0 0) 0 (vI [])) := own_new w1 _ 1 0 #[] rfl (by simp [maxLen]) hb1.size
    clear hO hml hF0
    go_wp2_with fail
    go_ret
    exact ⟨_, 0, 0, rfl, by rw [HF.out, HV.out]; exact HI.out, bel_alloc hb1 _⟩
  · have hm0 : ((m : Int) == 0) = false := by rw [beq_eq_false_iff_ne]; omega
    have HV : Hid (tabVG perH F = tabToG perH F m) := by show tabVG perH F = _; unfold tabVG; rw [if_neg (fun e => h0 (by rw [← hml, e]; rfl)), hml]
    have HRF := Lib.hid hO.rd
    have HFL := Lib.hid hml
    have HI : Hid ((w1.alloc (.cells (vI (zeI 13)).toArray 3)).ownsRow w1.heap.size 3 1 (.slice (some ⟨w1.heap.size, 0, none⟩) 13 13) 13 (vI (tabToG perH F 0))) := own_new w1 _ 1 13 _ rfl (by simp [maxLen]) (Nat.le_refl _)
    have hbz := hb1.size
    have hmb : m ≤ 1048576 := by omega
    clear hO hml hfl
    go_wp2_with fail
    go_loopw [5] (fun e5 wr => ∃ (i : Nat), i ≤ m ∧ e5 = .int .i64 i ∧ wr.ownsRow w1.heap.size 3 1 (.slice (some ⟨w1.heap.size, 0, none⟩) 13 13) 13 (vI (tabToG perH F i)) ∧ Below w1.heap.size w1 wr) (fun e5 _ => m - (intOf e5).toNat)
    case atStart => exact ⟨0, Nat.zero_le _, rfl, HI.out, bel_alloc (Below.refl _ _) _⟩
    case round =>
      clear HI
      obtain ⟨i, hi, rfl, hO, hb⟩ := hrel
      by_cases hlt : i < m
      · have hi0 : (0 : Int) ≤ (i : Int) := by omega
        have hi1 : (i : Int) < (m : Int) := by omega
        obtain ⟨x, t, gA, off, hsx, hfx, hAe, hg, d1, hrow⟩ := (HRF.out.below hb).at_ hlt
        have htF := List.mem_of_getElem? hfx
        have htsh := HSH.out t htF
        obtain ⟨k, hk12, hnk⟩ := HNB.out t htF
        have hiF : i < F.length := by rw [HFL.out]; exact hlt
        have hst := tabToG_succ perH F i hiF
        rw [show F[i] = t from by rw [List.getElem?_eq_getElem hiF] at hfx; injection hfx] at hst
        unfold tabStepG at hst
        rw [hnk, Int.toNat_natCast] at hst
        have hnk2 : (perV t).tdiv 2 = (k : Int) := hnk
        have HP0 := Lib.hid hnk2
        obtain ⟨pv, hpv⟩ : ∃ pv, perV t = pv := ⟨_, rfl⟩
        rw [hpv] at hnk2
        have HPV := Lib.hid hpv
        clear hpv HP0
        have htl := tabToG_len perH F i (by omega)
        have hle := tabToG_le perH F i (by omega)
        obtain ⟨T, hT⟩ : ∃ T, tabToG perH F i = T := ⟨_, rfl⟩
        rw [hT] at hst htl hO hle
        have hkT : k < T.length := by omega
        have hgd : T.getD k 0 = T[k] := by rw [List.getD, List.getElem?_eq_getElem hkT]; rfl
        rw [hgd] at hst
        have hzb := hle _ (List.getElem_mem hkT)
        have hcell : (vI T)[k]? = some (.int .i64 T[k]) := by simp only [vI, List.getElem?_map, List.getElem?_eq_getElem hkT, Option.map_some]
        obtain ⟨z, hz⟩ : ∃ z, T[k] = z := ⟨_, rfl⟩
        rw [hz] at hst hzb hcell
        have hzw : IntKind.i64.wrap (z + 1) = z + 1 := Go.IntWalk.i64_in _ (by omega)
        obtain ⟨C1, m1, k1⟩ := x
        have hl1 : t.length = m1 := hrow.1
        have HL1 := Lib.hid hl1
        have HT := Lib.hid htsh
        have HROW := Lib.hid hrow
        have HST := Lib.hid hst
        have HCE := Lib.hid hcell
        have HO := Lib.hid hO
        have HNK := Lib.hid hnk
        dsimp only at d1
        cases hAe
        (try simp only [Nat.zero_add] at d1)
        clear hsx hfx htF hst htl hle hT hkT hgd hcell hz hrow hl1 hO hnk htsh
        go_wp2_with fail
        refine (PerimeterOf_s C1 m1 k1 t _ HROW.out.2.1 HL1.out HT.out).mono ?_
        rw [HPV.out]
        rintro e w2 ⟨rfl, hb2⟩
        have HO2 := Lib.hid (own_keep HO.out hb2)
        have y1 := HO2.out.cellAt k (by omega)
        rw [HCE.out] at y1
        have f1 := HO2.out.frozenAt k
        have hg0 := (own_lt HO2.out _ rfl).2
        have hk0 : (0 : Int) ≤ (k : Int) := by omega
        have hk1 : (k : Int) < 13 := by omega
        have HO3 := Lib.hid (tab_own2 (k := k) (z := z + 1) HO2.out)
        clear d1
        go_wp2_with fail
        exact ⟨⟨i + 1, by omega, by go_num, by rw [HST.out]; exact HO3.out, bel_grown (bel_trans hb hb2) (grown_set (World.grownBy.refl _ (some w1.heap.size)) rfl _) (fun q e => by injection e with e; omega)⟩, by simp [intOf]; omega⟩
      · obtain rfl : i = m := by omega
        rw [← HV.out] at hO
        have HO := Lib.hid hO
        have hi1 : ¬ (i : Int) < (i : Int) := by omega
        clear hO
        go_wp2_with fail
        go_ret
        exact ⟨_, 13, 13, rfl, by rw [HF.out]; exact own_base HO.out hbz, bel_trans hb1 hb⟩
theorem tab_lenP (n : Int) : (tabVG perH (fixA n)).length = 0 ∨ (tabVG perH (fixA n)).length = 13 := by
  unfold tabVG
  split
  · exact .inl rfl
  · exact .inr (tabToG_len _ _ _ (Nat.le_refl _))
theorem own_nT2 {w : World} {base e n c : Nat} {A : Option Addr} {xs : List Int} (h : w.ownsRow base e 1 (.slice A n c) n (vI xs)) : xs.length = n := by
  have := own_len h
  rw [vI_length] at this
  omega
set_option maxRecDepth 100000 in
set_option maxHeartbeats 1600000 in
theorem law_FnExactPerimeterTable (n : Int) (w : World) (_h : (Lit.int .i64 n).wf = true) : Calls Try.prog 3 #[.int .i64 n] w (Ret w (.bool true)) := by
  have hl := tab_lenP n
  obtain ⟨T, hT⟩ : ∃ T, tabVG perH (fixA n) = T := ⟨_, rfl⟩
  have HT := Lib.hid hT
  rw [hT] at hl
  clear hT _h
  go_enter Try.func3, Try.ntmps3
  go_wp2_with fail
  refine (PerimeterTable_s n _).mono ?_
  rw [HT.out]
  rintro e w1 ⟨W, mw, kw, rfl, ow, b1⟩
  have hmw := own_nT2 ow
  go_wp2_with fail
  refine (PerimeterTable_i n _).mono ?_
  rw [HT.out]
  rintro e w2 ⟨G, mg, kg, rfl, og, b2⟩
  have hmg := own_nT2 og
  have hm13 : mg ≤ 13 := by omega
  have HMW := Lib.hid hmw
  have HMG := Lib.hid hmg
  clear hmw hmg hl
  have ow2 := own_keep ow b2
  go_wp2_with fail
  refine (eqIntS_t _ _ _ _ _ _ T _ (Rd.of_own og) (Rd.of_own ow2) HMG.out HMW.out (by omega)).mono ?_
  rintro e w3 ⟨rfl, b3⟩
  have og3 := own_keep og b3
  have ow3 := own_keep ow2 b3
  go_wp2_with fail
  refine (markIntS_l _ _ _ _ _ _ _ og3 (by omega) (by omega) (by omega)).mono ?_
  rintro e w4 ⟨rfl, og4, g4⟩
  have hGge := own_lt og
  have hWlt := own_lt ow
  have rW4 : Rd w4 W (vI T) := (Rd.of_own ow3).grown g4 (fun g h e => by have h1 := (hWlt g h).2; have h2 := (hGge g e.symm).1; omega)
  have b01 := bel_trans (bel_trans b1 b2) b3
  have sz1 := b1.size
  have b04 : Below w.heap.size w w4 := bel_app b01 g4 (fun g h => by have := (hGge g h).1; omega)
  go_wp2_with fail
  refine (heldIntS_l _ _ _ _ _ (Rd.of_own og4) (by omega) (by omega) (by omega)).mono ?_
  rintro e w5 ⟨rfl, b5⟩
  have hlt : ¬ (1 : Int) + (mg : Int) < 0 := by omega
  have hne : ((1 : Int) + (mg : Int) != 1 + (mg : Int)) = false := by simp
  go_wp2_with fail
  refine (PerimeterTable_i n _).mono ?_
  rw [HT.out]
  rintro e w6 ⟨Z, mz, kz, rfl, oz, b6⟩
  have HMZ := Lib.hid (own_nT2 oz)
  have og6 := own_keep (own_keep og4 b5) b6
  have rW6 := (rW4.below b5).below b6
  obtain rfl : mg = mz := HMG.out.symm.trans HMZ.out
  go_wp2_with fail
  refine (eqIntS_t _ _ _ _ _ _ T _ (Rd.of_own oz) rW6 HMZ.out HMW.out (by omega)).mono ?_
  rintro e w7 ⟨rfl, b7⟩
  go_wp2_with fail
  refine (heldIntS_l _ _ _ _ _ (Rd.of_own (own_keep og6 b7)) (by omega) (by omega) (by omega)).mono ?_
  rintro e w8 ⟨rfl, b8⟩
  go_wp2_with fail
  go_ret
  exact ⟨rfl, bel_trans (bel_trans (bel_trans (bel_trans b04 b5) b6) b7) b8⟩
end Go.Proofs.Yteelmhmdnljjnaa
