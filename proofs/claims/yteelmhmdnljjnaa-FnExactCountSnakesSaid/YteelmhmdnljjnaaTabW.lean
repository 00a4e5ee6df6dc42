/- A table of shapes by a number, whatever function counts: the program. -/
import Derived.Test.YteelmhmdnljjnaaTabG
import Derived.Test.YteelmhmdnljjnaaPer
import Derived.Test.YteelmhmdnljjnaaGrown
import Derived.Test.YteelmhmdnljjnaaGrwM
import Derived.Test.YteelmhmdnljjnaaLawI
import Derived.Outline
import Derived.WalkLawsBesides
import Derived.WalkSpells
import Derived.BigQuiet
import Derived.Deep.QuietTactic
import Derived.Deep.RegionHeld3
import Derived.Deep.RegionWith
import Derived.Deep.DeepCutAuto
import Derived.Deep.CutBlock
import Derived.Deep.DrawnRows
namespace Go.Proofs.Yteelmhmdnljjnaa
open Go.RowKit
set_option linter.unusedVariables false
attribute [local go_sem ↓] Go.wp_at_zero Go.wp_at_succ

theorem fixA_shape2 (n : Int) : ∀ x ∈ fixA n, isShape x = true := by
  intro x hx
  unfold fixA at hx
  split at hx
  · exact (fixV_fine _).2 x hx
  · simp at hx
theorem fixA_len2 (n : Int) : (fixA n).length ≤ 1048576 := by
  unfold fixA
  split
  · have h1 := fixV_len (n.toNat - 1); have h2 := pow32 (n.toNat - 1) (by omega); omega
  · simp
theorem zeI13b : zeI 13 = List.replicate 13 0 := rfl
theorem tab_own2 {w : World} {base g k : Nat} {T : List Int} {z : Int} (h : w.ownsRow base 3 1 (.slice (some ⟨g, 0, none⟩) 13 13) 13 (vI T)) : (w.setCell ⟨g, k, none⟩ (.int .i64 z)).ownsRow base 3 1 (.slice (some ⟨g, 0, none⟩) 13 13) 13 (vI (T.set k z)) := by
  have hst := (h.stored k (.int .i64 z)).1
  rw [show (vI T).set k (.int .i64 z) = vI (T.set k z) from by simp [vI, List.map_set]] at hst
  exact hst
set_option maxRecDepth 100000 in
set_option maxHeartbeats 6400000 in
theorem table_g (fid : FuncId) (hfc : ∀ v wq, (callFunc fid #[v]).run Try.prog wq = .ok (.enter fid #[v]) wq) (g : List C → Int) (n : Int) (w : World) (hgi : ∀ (A : Option Addr) (q c : Nat) (xs : List C) (w : World), Rd w A (vC xs) → xs.length = q → isShape xs = true → Calls Try.prog fid #[.slice A q c] w (Ret w (.int .i64 (g xs))))
    (hnb : ∀ x ∈ fixA n, ∃ k : Nat, k ≤ 12 ∧ g x = k) : Calls Try.prog 17 #[.int .i64 n, .func (.func fid) #[] #[]] w (RetS w 3 1 (vI (tabVG g (fixA n)))) := by
  have hsh := fixA_shape2 n
  have hfl := fixA_len2 n
  obtain ⟨F, hF⟩ : ∃ F, fixA n = F := ⟨_, rfl⟩
  rw [hF] at hsh hnb hfl
  have hmk : ∀ wq, (Instr.makeSlice 22 (.int .i64 13) (.int .i64 13)).run Try.prog wq = _ := fun wq => mk_I wq 13 (by omega)
  have HSH := Lib.hid hsh
  have HGI := Lib.hid hgi
  have HNB := Lib.hid hnb
  have HF := Lib.hid hF
  clear hsh hnb hF hgi
  go_enter Try.func17, Try.ntmps17
  go_wp2_with fail
  refine (FixedShapes_i n _).mono ?_
  rw [HF.out]
  rintro e w1 ⟨A0, m, c, hs, rfl, hO, hb1⟩
  have hml : F.length = m := hO.flen
  by_cases h0 : m = 0
  · subst h0
    have hF0 : F = [] := List.length_eq_zero_iff.1 hml
    have HV : Hid (tabVG g F = []) := by show tabVG g F = []; unfold tabVG; rw [if_pos hF0]
    clear hO hml hF0
    go_wp2_with fail
    go_ret
    exact ⟨none, 0, 0, rfl, by rw [HF.out, HV.out]; exact own_nil _ _ _ _, hb1⟩
  · have hm0 : ((m : Int) == 0) = false := by rw [beq_eq_false_iff_ne]; omega
    have HV : Hid (tabVG g F = tabToG g F m) := by show tabVG g F = _; unfold tabVG; rw [if_neg (fun e => h0 (by rw [← hml, e]; rfl)), hml]
    have HRF := Lib.hid hO.rd
    have HFL := Lib.hid hml
    have HI : Hid ((w1.alloc (.cells (vI (zeI 13)).toArray 3)).ownsRow w1.heap.size 3 1 (.slice (some ⟨w1.heap.size, 0, none⟩) 13 13) 13 (vI (tabToG g F 0))) := own_new w1 _ 1 13 _ rfl (by simp [maxLen]) (Nat.le_refl _)
    have hbz := hb1.size
    have hmb : m ≤ 1048576 := by omega
    clear hO hml hfl
    go_wp2_with fail
    go_loopw [18] (fun e5 wr => ∃ (i : Nat), i ≤ m ∧ e5 = .int .i64 i ∧ wr.ownsRow w1.heap.size 3 1 (.slice (some ⟨w1.heap.size, 0, none⟩) 13 13) 13 (vI (tabToG g F i)) ∧ Below w1.heap.size w1 wr) (fun e5 _ => m - (intOf e5).toNat)
    case atStart => exact ⟨0, Nat.zero_le _, rfl, HI.out, bel_alloc (Below.refl _ _) _⟩
    case round =>
      clear HI
      obtain ⟨i, hi, rfl, hO, hb⟩ := hrel
      by_cases hlt : i < m
      · have hi0 : (0 : Int) ≤ (i : Int) := by omega
        have hi1 : (i : Int) < (m : Int) := by omega
        obtain ⟨x, t, gA, off, hsx, hfx, hAe, hg, d1, hrow⟩ := (HRF.out.below hb).at_ hlt
        have htF := List.mem_of_getElem? hfx
        have htsh := HSH.out t htF
        obtain ⟨k, hk12, hnk⟩ := HNB.out t htF
        have hiF : i < F.length := by rw [HFL.out]; exact hlt
        have hst := tabToG_succ g F i hiF
        rw [show F[i] = t from by rw [List.getElem?_eq_getElem hiF] at hfx; injection hfx] at hst
        unfold tabStepG at hst
        rw [hnk, Int.toNat_natCast] at hst
        have htl := tabToG_len g F i (by omega)
        have hle := tabToG_le g F i (by omega)
        obtain ⟨T, hT⟩ : ∃ T, tabToG g F i = T := ⟨_, rfl⟩
        rw [hT] at hst htl hO hle
        have hkT : k < T.length := by omega
        have hgd : T.getD k 0 = T[k] := by rw [List.getD, List.getElem?_eq_getElem hkT]; rfl
        rw [hgd] at hst
        have hzb := hle _ (List.getElem_mem hkT)
        have hcell : (vI T)[k]? = some (.int .i64 T[k]) := by simp only [vI, List.getElem?_map, List.getElem?_eq_getElem hkT, Option.map_some]
        obtain ⟨z, hz⟩ : ∃ z, T[k] = z := ⟨_, rfl⟩
        rw [hz] at hst hzb hcell
        have hzw : IntKind.i64.wrap (z + 1) = z + 1 := Go.IntWalk.i64_in _ (by omega)
        obtain ⟨C1, m1, k1⟩ := x
        have hl1 : t.length = m1 := hrow.1
        have HL1 := Lib.hid hl1
        have HT := Lib.hid htsh
        have HROW := Lib.hid hrow
        have HST := Lib.hid hst
        have HCE := Lib.hid hcell
        have HO := Lib.hid hO
        have HNK := Lib.hid hnk
        dsimp only at d1
        cases hAe
        (try simp only [Nat.zero_add] at d1)
        clear hsx hfx htF hst htl hle hT hkT hgd hcell hz hrow hl1 hO hnk htsh
        go_wp2_with fail
        refine (HGI.out C1 m1 k1 t _ HROW.out.2.1 HL1.out HT.out).mono ?_
        rw [HNK.out]
        rintro e w2 ⟨rfl, hb2⟩
        clear d1
        go_wp2_with fail
        refine (between_t (k : Int) 0 12 _ (by omega) (by omega)).mono ?_
        rintro e w3 ⟨rfl, hb3⟩
        have HO2 := Lib.hid (own_keep HO.out (bel_trans hb2 hb3))
        have y1 := HO2.out.cellAt k (by omega)
        rw [HCE.out] at y1
        have f1 := HO2.out.frozenAt k
        have hgg0 := (own_lt HO2.out _ rfl).2
        have hk0 : (0 : Int) ≤ (k : Int) := by omega
        have hk1 : (k : Int) < 13 := by omega
        have HO3 := Lib.hid (tab_own2 (k := k) (z := z + 1) HO2.out)
        go_wp2_with fail
        exact ⟨⟨i + 1, by omega, by go_num, by rw [HST.out]; exact HO3.out, bel_grown (bel_trans hb (bel_trans hb2 hb3)) (grown_set (World.grownBy.refl _ (some w1.heap.size)) rfl _) (fun q e => by injection e with e; omega)⟩, by simp [intOf]; omega⟩
      · obtain rfl : i = m := by omega
        rw [← HV.out] at hO
        have HO := Lib.hid hO
        have hi1 : ¬ (i : Int) < (i : Int) := by omega
        clear hO
        go_wp2_with fail
        go_ret
        exact ⟨_, 13, 13, rfl, by rw [HF.out]; exact own_base HO.out hbz, bel_trans hb1 hb⟩
def perH (s : List C) : Int := (perV s).tdiv 2
theorem per_fix (k : Nat) (h : k ≤ 4) : ∀ x ∈ fixV k, 0 ≤ perH x ∧ perH x ≤ 12 := by
  have hf : ∀ x ∈ fixF k, 0 ≤ perH x ∧ perH x ≤ 12 := by
    rcases (by omega : k = 0 ∨ k = 1 ∨ k = 2 ∨ k = 3 ∨ k = 4) with rfl | rfl | rfl | rfl | rfl <;> decide +kernel
  rw [fixF_eq] at hf
  exact hf
theorem fixA_per (n : Int) : ∀ x ∈ fixA n, ∃ k : Nat, k ≤ 12 ∧ perH x = k := by
  intro x hx
  unfold fixA at hx
  split at hx
  · rename_i h
    obtain ⟨h1, h2⟩ := per_fix _ (by omega) x hx
    exact ⟨(perH x).toNat, by omega, by omega⟩
  · simp at hx
theorem perFn_i (A : Option Addr) (n c : Nat) (xs : List C) (w : World) (hr : Rd w A (vC xs)) (hl : xs.length = n) (hs : isShape xs = true) :
    Calls Try.prog 18 #[.slice A n c] w (Ret w (.int .i64 (perH xs))) := by
  have hin := perV_le hs
  have hn8 := shape_len hs
  have hb : -200 ≤ perV xs ∧ perV xs ≤ 200 := by unfold perV; omega
  obtain ⟨q, hq⟩ : ∃ q, perV xs = q := ⟨_, rfl⟩
  have HP : Hid (perH xs = q.tdiv 2) := by show perH xs = _; unfold perH; rw [hq]
  have HQ := Lib.hid hq
  rw [hq] at hb
  have hd : -200 ≤ q.tdiv 2 ∧ q.tdiv 2 ≤ 200 := by
    rcases Int.le_total 0 q with h | h
    · rw [Int.tdiv_eq_ediv_of_nonneg h]; omega
    · have e : q.tdiv 2 = -((-q).tdiv 2) := by rw [Int.neg_tdiv, Int.neg_neg]
      rw [e, Int.tdiv_eq_ediv_of_nonneg (by omega)]; omega
  have hw : IntKind.i64.wrap (q.tdiv 2) = q.tdiv 2 := Go.IntWalk.i64_in _ (by omega)
  have HR := Lib.hid hr
  have HL := Lib.hid hl
  have HS := Lib.hid hs
  clear hq hr hl hs
  go_enter Try.func18, Try.ntmps18
  go_wp2_with fail
  refine (PerimeterOf_i A n c xs _ HR.out HL.out HS.out).mono ?_
  rw [HQ.out]
  rintro e w1 ⟨rfl, hb1⟩
  go_wp2_with fail
  go_ret
  exact ⟨by rw [HP.out]; rfl, hb1⟩
theorem PerimeterTable_i (n : Int) (w : World) : Calls Try.prog 7 #[.int .i64 n] w (RetS w 3 1 (vI (tabVG perH (fixA n)))) := by
  go_enter Try.func7, Try.ntmps7
  go_wp2_with fail
  refine (table_g _ (fun v wq => by simp [go_sem]) perH n _ perFn_i (fixA_per n)).mono ?_
  rintro e w1 ⟨A, m, c, rfl, hO, hb⟩
  have HO := Lib.hid hO
  clear hO
  go_wp2_with fail
  go_ret
  exact ⟨A, m, c, rfl, HO.out, hb⟩
end Go.Proofs.Yteelmhmdnljjnaa
