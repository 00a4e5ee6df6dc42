/- The holes of a shape that has none: the reference. -/
import Derived.Test.YteelmhmdnljjnaaHolesM
import Derived.Test.YteelmhmdnljjnaaCornS
import Derived.Test.YteelmhmdnljjnaaShpS
import Derived.Test.YteelmhmdnljjnaaShape
import Derived.Outline
import Derived.WalkLawsBesides
import Derived.WalkSpells
import Derived.BigQuiet
import Derived.Deep.QuietTactic
import Derived.Deep.RegionHeld3
import Derived.Deep.RegionWith
import Derived.Deep.DeepCutAuto
import Derived.Deep.CutBlock
import Derived.Deep.DrawnRows
namespace Go.Proofs.Yteelmhmdnljjnaa
open Go.RowKit
set_option linter.unusedVariables false
attribute [local go_sem ↓] Go.wp_at_zero Go.wp_at_succ

theorem corn_at {xs : List C} (hs : isShape xs = true) : (cornS xs).length = xs.length ∧ ∀ c ∈ cornS xs, (0 ≤ c.1 ∧ c.1 ≤ 7) ∧ (0 ≤ c.2 ∧ c.2 ≤ 7) := by
  have h0 := (shape_len hs).1
  refine ⟨mv_len _ _ _, fun c hc => ?_⟩
  unfold cornS at hc
  rw [mv_mem] at hc
  have h1 := shape_onB hs _ hc
  have h2 := minC_le (·.1) hc
  have h3 := minC_le (·.2) hc
  obtain ⟨d, hd, e⟩ := minC_at (·.1) (s := xs) (by omega)
  obtain ⟨f, hf, e2⟩ := minC_at (·.2) (s := xs) (by omega)
  have h4 := shape_onB hs d hd
  have h5 := shape_onB hs f hf
  simp only [onB, Bool.and_eq_true, decide_eq_true_eq] at h1 h4 h5
  simp only at h2 h3
  omega
theorem ext_le {cs : List C} (h : ∀ c ∈ cs, (0 ≤ c.1 ∧ c.1 ≤ 7) ∧ (0 ≤ c.2 ∧ c.2 ≤ 7)) : ∀ k, k ≤ cs.length → (0 ≤ extW cs k ∧ extW cs k ≤ 8) ∧ (0 ≤ extH cs k ∧ extH cs k ≤ 8)
  | 0, _ => by simp [extW, extH]
  | k + 1, hk => by
    have ih := ext_le h k (by omega)
    have hx := h (cs.getD k (0, 0)) (by rw [List.getD_eq_getElem?_getD, List.getElem?_eq_getElem (by omega)]; exact List.getElem_mem _)
    unfold extW extH
    refine ⟨?_, ?_⟩ <;> split <;> omega
theorem CornerShape_s (A : Option Addr) (n c : Nat) (xs : List C) (w : World) (hr : Rd w A (vC xs)) (hl : xs.length = n) (hs : isShape xs = true) :
    Calls Try.prog 34 #[.slice A n c] w (RetS w 36 2 (vC (cornS xs))) := by
  have hn8 := (shape_len hs).2
  have hsm := shape_small hs
  have HL := Lib.hid hl
  have HR := Lib.hid hr
  have HS := Lib.hid hs
  have HSM := Lib.hid hsm
  rw [hl] at hn8
  have hnn : n ≤ 1099511627776 := by omega
  clear hl hr hs hsm
  go_enter Try.func34, Try.ntmps34
  go_wp2_with fail
  refine (IsShape_s A n c xs _ HR.out HL.out hnn).mono ?_
  rw [HS.out]
  rintro e w1 ⟨rfl, hb1⟩
  go_wp2_with fail
  refine (l2Corner_s A n c xs _ (HR.out.below hb1) HL.out (by omega) HSM.out).mono ?_
  rintro e w2 ⟨D, m, cd, rfl, hO, hb2⟩
  have HO := Lib.hid hO
  have hbz := hb1.size
  clear hO
  go_wp2_with fail
  go_ret
  exact ⟨D, m, cd, rfl, own_base HO.out hbz, bel_trans hb1 hb2⟩
set_option maxHeartbeats 800000 in
theorem SizeOf_s (A : Option Addr) (n c : Nat) (xs : List C) (w : World) (hr : Rd w A (vC xs)) (hl : xs.length = n) (hs : isShape xs = true) :
    Calls Try.prog 33 #[.slice A n c] w (Ret w (.tuple #[.int .i64 (extW (cornS xs) n), .int .i64 (extH (cornS xs) n)])) := by
  obtain ⟨h1, h2⟩ := corn_at hs
  have h3 := ext_le h2
  obtain ⟨cs, hcs⟩ : ∃ cs, cornS xs = cs := ⟨_, rfl⟩
  rw [hcs] at h1 h2 h3
  rw [hl] at h1
  have hn8 := (shape_len hs).2
  rw [hl] at hn8
  have HL := Lib.hid hl
  have HR := Lib.hid hr
  have HS := Lib.hid hs
  have HCS := Lib.hid hcs
  have HCL := Lib.hid h1
  have HC7 := Lib.hid h2
  have HE := Lib.hid h3
  clear hl hr hs hcs h1 h2 h3
  go_enter Try.func33, Try.ntmps33
  go_wp2_with fail
  refine (CornerShape_s A n c xs _ HR.out HL.out HS.out).mono ?_
  rw [HCS.out]
  rintro e w1 ⟨D, m, cd, rfl, hO, hb1⟩
  obtain rfl : n = m := by have := own_len hO; rw [vC_length] at this; have := HCL.out; omega
  have HRD := Lib.hid (Rd.of_own hO)
  clear hO
  go_wp2_with fail
  go_loopw [7, 5, 6] (fun e7 e5 e6 wr => ∃ (k : Nat) (a b : Int), k ≤ n ∧ e7 = .int .i64 k ∧ e5 = .int .i64 a ∧ e6 = .int .i64 b ∧ extW cs k = a ∧ extH cs k = b ∧ Below w1.heap.size w1 wr) (fun e7 _ _ _ => n - (intOf e7).toNat)
  case atStart => exact ⟨0, 0, 0, Nat.zero_le _, rfl, rfl, rfl, rfl, rfl, Below.refl _ _⟩
  case round =>
    obtain ⟨k, a, b, hk, rfl, rfl, rfl, ha, hbb, hb⟩ := hrel
    have HA := Lib.hid ha
    have HB := Lib.hid hbb
    clear ha hbb
    by_cases hlt : k < n
    · have hkl : k < cs.length := by rw [HCL.out]; exact hlt
      have hk0 : (0 : Int) ≤ (k : Int) := by omega
      have hk1 : (k : Int) < (n : Int) := by omega
      obtain ⟨g, off, hA, hg, d1, d2⟩ := RdC.at_ (HRD.out.below hb) hkl
      subst hA
      have h7 := HC7.out _ (List.getElem_mem hkl)
      have hgd : cs.getD k (0, 0) = cs[k] := by rw [List.getD_eq_getElem?_getD, List.getElem?_eq_getElem hkl]; rfl
      obtain ⟨p, hp⟩ : ∃ p, cs[k].1 = p := ⟨_, rfl⟩
      obtain ⟨q, hq⟩ : ∃ q, cs[k].2 = q := ⟨_, rfl⟩
      have S1 : Hid (extW cs (k + 1) = if a < p + 1 then p + 1 else a) := by show extW cs (k + 1) = _; unfold extW; rw [hgd, hp, HA.out]
      have S2 : Hid (extH cs (k + 1) = if b < q + 1 then q + 1 else b) := by show extH cs (k + 1) = _; unfold extH; rw [hgd, hq, HB.out]
      rw [hp] at d1 h7
      rw [hq] at d2 h7
      have e1 : IntKind.i64.wrap (p + 1) = p + 1 := Go.IntWalk.i64_in _ (by omega)
      have e2 : IntKind.i64.wrap (q + 1) = q + 1 := Go.IntWalk.i64_in _ (by omega)
      clear hp hq hgd h7
      by_cases h1 : a < p + 1
      · by_cases h2 : b < q + 1
        · have T1 : Hid (extW cs (k + 1) = p + 1) := by show _ = _; rw [S1.out]; exact if_pos h1
          have T2 : Hid (extH cs (k + 1) = q + 1) := by show _ = _; rw [S2.out]; exact if_pos h2
          go_wp2_with fail
          exact ⟨⟨k + 1, p + 1, q + 1, by omega, by go_num, by first | rfl | (simp <;> omega), by first | rfl | (simp <;> omega), T1.out, T2.out, hb⟩, by simp [intOf]; omega⟩
        · have T1 : Hid (extW cs (k + 1) = p + 1) := by show _ = _; rw [S1.out]; exact if_pos h1
          have T2 : Hid (extH cs (k + 1) = b) := by show _ = _; rw [S2.out]; exact if_neg h2
          go_wp2_with fail
          exact ⟨⟨k + 1, p + 1, b, by omega, by go_num, by first | rfl | (simp <;> omega), by first | rfl | (simp <;> omega), T1.out, T2.out, hb⟩, by simp [intOf]; omega⟩
      · by_cases h2 : b < q + 1
        · have T1 : Hid (extW cs (k + 1) = a) := by show _ = _; rw [S1.out]; exact if_neg h1
          have T2 : Hid (extH cs (k + 1) = q + 1) := by show _ = _; rw [S2.out]; exact if_pos h2
          go_wp2_with fail
          exact ⟨⟨k + 1, a, q + 1, by omega, by go_num, by first | rfl | (simp <;> omega), by first | rfl | (simp <;> omega), T1.out, T2.out, hb⟩, by simp [intOf]; omega⟩
        · have T1 : Hid (extW cs (k + 1) = a) := by show _ = _; rw [S1.out]; exact if_neg h1
          have T2 : Hid (extH cs (k + 1) = b) := by show _ = _; rw [S2.out]; exact if_neg h2
          go_wp2_with fail
          exact ⟨⟨k + 1, a, b, by omega, by go_num, by first | rfl | (simp <;> omega), by first | rfl | (simp <;> omega), T1.out, T2.out, hb⟩, by simp [intOf]; omega⟩
    · obtain rfl : k = n := by omega
      have hk1 : ¬ (k : Int) < (k : Int) := by omega
      go_wp2_with fail
      go_ret2
      exact ⟨by rw [HCS.out, HA.out, HB.out]; rfl, bel_trans hb1 hb⟩
theorem own_litO (w : World) {base : Nat} (hb : base ≤ w.heap.size) (x y : Int) : (w.alloc (.cells #[.int .i64 x, .int .i64 y] 36)).ownsRow base 36 2 (.slice (some ⟨w.heap.size, 0, none⟩) 1 1) 1 (vC [(x, y)]) := own_newC w _ x y hb
set_option maxRecDepth 100000 in
set_option maxHeartbeats 6400000 in
theorem l5Outside_s (A : Option Addr) (n c T : Nat) (R xs : List C) (w : World) (hr : Rd w A (vC xs)) (hl : xs.length = n) (hs : isShape xs = true) (hf : FullS xs T R) (hT : T ≤ 1000) :
    Calls Try.prog 35 #[.slice A n c] w (RetS w 36 2 (vC R)) := by
  obtain ⟨h1, h2⟩ := corn_at hs
  have h3 := ext_le h2 n (by omega)
  have hre := hf.reach
  have hrl := hf.len
  rw [hl] at hre
  obtain ⟨cs, hcs⟩ : ∃ cs, cornS xs = cs := ⟨_, rfl⟩
  rw [hcs] at h1 h2 h3 hre
  rw [hl] at h1
  obtain ⟨W, hW⟩ : ∃ W, extW cs n = W := ⟨_, rfl⟩
  obtain ⟨H, hH⟩ : ∃ H, extH cs n = H := ⟨_, rfl⟩
  rw [hW, hH] at h3 hre
  have hn8 := (shape_len hs).2
  rw [hl] at hn8
  have HEND : Hid (∀ i, (outF cs W H (4 * i)).length ≤ i → outF cs W H (4 * i) = R) := fun i h => by
    have := outF_end cs W H h (by rw [hre]; exact hrl)
    rw [this, hre]
  have HMORE : Hid (∀ i, i < (outF cs W H (4 * i)).length → i < T) := fun i h => outF_more cs W H h (by rw [hre]; exact hrl)
  have HL := Lib.hid hl
  have HR := Lib.hid hr
  have HS := Lib.hid hs
  have HCS := Lib.hid hcs
  have HCL := Lib.hid h1
  have HC7 := Lib.hid h2
  have HW := Lib.hid hW
  have HH := Lib.hid hH
  obtain ⟨⟨hW0, hW8⟩, hH0, hH8⟩ := h3
  clear hl hr hs hcs h1 h2 hf hre hrl hW hH
  go_enter Try.func35, Try.ntmps35
  go_wp2_with fail
  refine (SizeOf_s A n c xs _ HR.out HL.out HS.out).mono ?_
  rw [HCS.out, HW.out, HH.out]
  rintro e w1 ⟨rfl, hb1⟩
  go_wp2_with fail
  refine (CornerShape_s A n c xs _ (HR.out.below hb1) HL.out HS.out).mono ?_
  rw [HCS.out]
  rintro e w2 ⟨D, m, cd, rfl, hO, hb2⟩
  obtain rfl : n = m := by have := own_len hO; rw [vC_length] at this; have := HCL.out; omega
  have HRD := Lib.hid (Rd.of_own hO)
  have hb02 := bel_trans hb1 hb2
  clear hO
  have HI := Lib.hid (own_litO w2 (Nat.le_refl _) (-1) (-1))
  have hbw : Below w.heap.size w (w2.alloc (.cells #[.int .i64 (-1), .int .i64 (-1)] 36)) := bel_alloc hb02 _
  have hbw2 : Below w2.heap.size w2 (w2.alloc (.cells #[.int .i64 (-1), .int .i64 (-1)] 36)) := bel_alloc (Below.refl _ _) _
  clear hb1 hb2
  go_wp2_with fail
  go_loopw [7, 6] (fun e7 e6 wr => ∃ (i q cq : Nat) (E : Option Addr), i ≤ T ∧ e7 = .int .i64 i ∧ e6 = .slice E q cq ∧ wr.ownsRow w2.heap.size 36 2 (.slice E q cq) q (vC (outF cs W H (4 * i))) ∧ (∀ x ∈ outF cs W H (4 * i), (-1 ≤ x.1 ∧ x.1 ≤ 8) ∧ (-1 ≤ x.2 ∧ x.2 ≤ 8)) ∧ Below w.heap.size w wr ∧ Below w2.heap.size w2 wr) (fun e7 _ _ => T - (intOf e7).toNat)
  case atStart => exact ⟨0, 1, 1, _, Nat.zero_le _, rfl, rfl, HI.out, by intro x hx; simp [outF] at hx; subst hx; simp, hbw, hbw2⟩
  case round =>
    clear HI hbw hbw2
    obtain ⟨i, q, cq, E, hi, rfl, rfl, hO, hsm, hb, hb2⟩ := hrel
    have hql : (outF cs W H (4 * i)).length = q := by have := own_len hO; rw [vC_length] at this; omega
    by_cases hlt : i < q
    · have hiT := HMORE.out i (by omega)
      have hi0 : (0 : Int) ≤ (i : Int) := by omega
      have hi1 : (i : Int) < (q : Int) := by omega
      have HPRE : Hid (∀ d, ∃ l, outF cs W H (4 * i + d) = outF cs W H (4 * i) ++ l) := outF_pre cs W H (4 * i)
      have hiL : i < (outF cs W H (4 * i)).length := by omega
      obtain ⟨u, hu⟩ : ∃ u, (outF cs W H (4 * i)).getD i (0, 0) = u := ⟨_, rfl⟩
      have hum : u ∈ outF cs W H (4 * i) := by rw [← hu, List.getD_eq_getElem?_getD, List.getElem?_eq_getElem hiL]; exact List.getElem_mem _
      have hu8 := hsm u hum
      have HU : Hid (∀ d, (outF cs W H (4 * i + d)).getD i (0, 0) = u) := fun d => by
        obtain ⟨l, hl⟩ := outF_pre cs W H (4 * i) d
        rw [hl, List.getD_eq_getElem?_getD, List.getElem?_append_left hiL, ← List.getD_eq_getElem?_getD, hu]
      have HIL : Hid (∀ d, i < (outF cs W H (4 * i + d)).length) := fun d => by
        obtain ⟨l, hl⟩ := outF_pre cs W H (4 * i) d
        rw [hl, List.length_append]; omega
      obtain ⟨ux, uy⟩ := u
      simp only at hu8
      obtain ⟨⟨u1, u2⟩, u3, u4⟩ := hu8
      have HSM := Lib.hid hsm
      have HO := Lib.hid hO
      clear hO hsm hu hum hql
      go_wp2_with fail
      go_loopw [8, 6] (fun e8 e6 wr => ∃ (d q cq : Nat) (E : Option Addr), d ≤ 4 ∧ e8 = .int .i64 d ∧ e6 = .slice E q cq ∧ wr.ownsRow w2.heap.size 36 2 (.slice E q cq) q (vC (outF cs W H (4 * i + d))) ∧ (∀ x ∈ outF cs W H (4 * i + d), (-1 ≤ x.1 ∧ x.1 ≤ 8) ∧ (-1 ≤ x.2 ∧ x.2 ≤ 8)) ∧ Below w.heap.size w wr ∧ Below w2.heap.size w2 wr) (fun e8 _ _ => 4 - (intOf e8).toNat)
      case atStart => exact ⟨0, q, cq, E, by omega, rfl, rfl, HO.out, HSM.out, hb, hb2⟩
      case round =>
        clear HO HSM hb hb2 hi1 hlt
        obtain ⟨d, q, cq, E, hd, rfl, rfl, hO, hsm, hb, hb2⟩ := hrel
        by_cases hd4 : d < 4
        · have hd0 : (0 : Int) ≤ (d : Int) := by omega
          have hd1 : (d : Int) < 4 := by omega
          have hst := outF_at cs W H i d hd4
          have hol := outF_len cs W H (4 * i + d)
          have hui := HU.out d
          have hil := HIL.out d
          have hql : (outF cs W H (4 * i + d)).length = q := by have := own_len hO; rw [vC_length] at this; omega
          obtain ⟨L, hL⟩ : ∃ L, outF cs W H (4 * i + d) = L := ⟨_, rfl⟩
          rw [hL] at hst hui hil hql hO hsm hol
          unfold outSt at hst
          rw [if_pos hil, hui] at hst
          obtain ⟨da, db, e1, e2, hd1', hd2, hab⟩ : ∃ da db : Int, ((1 : Int) - (d : Int)).tmod 2 = da ∧ ((2 : Int) - (d : Int)).tmod 2 = db ∧ (-1 ≤ da ∧ da ≤ 1) ∧ (-1 ≤ db ∧ db ≤ 1) ∧ dirS (ux, uy) d = (ux + da, uy + db) := by
            rcases (by omega : d = 0 ∨ d = 1 ∨ d = 2 ∨ d = 3) with rfl | rfl | rfl | rfl
            · exact ⟨1, 0, by decide, by decide, by omega, by omega, by simp [dirS, sidesS]⟩
            · exact ⟨0, 1, by decide, by decide, by omega, by omega, by simp [dirS, sidesS]⟩
            · exact ⟨-1, 0, by decide, by decide, by omega, by omega, by simp [dirS, sidesS]; omega⟩
            · exact ⟨0, -1, by decide, by decide, by omega, by omega, by simp [dirS, sidesS]; omega⟩
          obtain ⟨x, hx⟩ : ∃ x, ux + da = x := ⟨_, rfl⟩
          obtain ⟨y, hy⟩ : ∃ y, uy + db = y := ⟨_, rfl⟩
          rw [hab, hx, hy] at hst
          have v1 : IntKind.i64.wrap ((1 : Int) - (d : Int)) = (1 : Int) - (d : Int) := Go.IntWalk.i64_in _ (by omega)
          have v2 : IntKind.i64.wrap ((2 : Int) - (d : Int)) = (2 : Int) - (d : Int) := Go.IntWalk.i64_in _ (by omega)
          have v3 : IntKind.i64.wrap x = x := Go.IntWalk.i64_in _ (by omega)
          have v4 : IntKind.i64.wrap y = y := Go.IntWalk.i64_in _ (by omega)
          have v5 : IntKind.i64.wrap da = da := Go.IntWalk.i64_in _ (by omega)
          have v6 : IntKind.i64.wrap db = db := Go.IntWalk.i64_in _ (by omega)
          obtain ⟨g, off, hA, hg, d1, d2⟩ := RdC.at_ (Rd.of_own hO) hil
          subst hA
          have hLi : L[i] = (ux, uy) := by rw [List.getD_eq_getElem?_getD, List.getElem?_eq_getElem hil] at hui; exact hui
          rw [hLi] at d1 d2
          simp only at d1 d2
          have hi1 : (i : Int) < (q : Int) := by omega
          have hq4 : q ≤ 4004 := by omega
          have HQL := Lib.hid hql
          have HO := Lib.hid hO
          have HSM := Lib.hid hsm
          have HCX := Lib.hid (HRD.out.below hb2)
          have SAME : Hid ((outOk cs W H (x, y) && !hasC L x y) = false → outF cs W H (4 * i + (d + 1)) = L) := fun h => by rw [hst]; simp only [h]; simp
          have MORE : Hid ((outOk cs W H (x, y) && !hasC L x y) = true → outF cs W H (4 * i + (d + 1)) = L ++ [(x, y)]) := fun h => by rw [hst]; simp only [h]; simp
          have hda : IntKind.i64.wrap (ux + da) = x := by rw [hx]; exact v3
          clear hst hO hsm hql hil hui hL hLi hab hd1' hd2 hol
          cases ha : (decide (-1 ≤ x) && decide (x ≤ W)) with
          | false =>
            have HN := Lib.hid (SAME.out (by unfold outOk; simp only [ha, Bool.false_and]))
            have HA := Lib.hid ha
            clear ha SAME MORE
            go_wp2_with fail
            refine (l1In_b x (-1) W false _ (by rw [HA.out])).mono ?_
            rintro e w4 ⟨rfl, hb4⟩
            have HO4 := Lib.hid (own_keep HO.out hb4)
            go_wp2_with fail
            exact ⟨⟨d + 1, q, cq, _, by omega, by go_num, rfl, by rw [HN.out]; exact HO4.out, by rw [HN.out]; exact HSM.out, bel_trans hb hb4, bel_trans hb2 hb4⟩, by simp [intOf]; omega⟩
          | true =>
            have HA := Lib.hid ha
            cases hbb : (decide (-1 ≤ y) && decide (y ≤ H)) with
            | false =>
              have HN := Lib.hid (SAME.out (by unfold outOk; simp only [ha, hbb, Bool.false_and, Bool.and_false]))
              have HBB := Lib.hid hbb
              clear ha hbb SAME MORE
              go_wp2_with fail
              refine (l1In_b x (-1) W true _ (by rw [HA.out])).mono ?_
              rintro e w4 ⟨rfl, hb4⟩
              go_wp2_with fail
              refine (l1In_b y (-1) H false _ (by rw [HBB.out])).mono ?_
              rintro e w5 ⟨rfl, hb5⟩
              have hb45 := bel_trans hb4 hb5
              have HO4 := Lib.hid (own_keep HO.out hb45)
              go_wp2_with fail
              exact ⟨⟨d + 1, q, cq, _, by omega, by go_num, rfl, by rw [HN.out]; exact HO4.out, by rw [HN.out]; exact HSM.out, bel_trans hb hb45, bel_trans hb2 hb45⟩, by simp [intOf]; omega⟩
            | true =>
              have HBB := Lib.hid hbb
              cases hh : hasC cs x y with
              | true =>
                have HN := Lib.hid (SAME.out (by unfold outOk; simp only [hh, Bool.not_true, Bool.and_false, Bool.false_and]))
                have HHC := Lib.hid hh
                clear ha hbb hh SAME MORE
                go_wp2_with fail
                refine (l1In_b x (-1) W true _ (by rw [HA.out])).mono ?_
                rintro e w4 ⟨rfl, hb4⟩
                go_wp2_with fail
                refine (l1In_b y (-1) H true _ (by rw [HBB.out])).mono ?_
                rintro e w5 ⟨rfl, hb5⟩
                go_wp2_with fail
                refine (HasCell_s D n cd cs x y _ ((HCX.out.below hb4).below hb5) HCL.out (by omega)).mono ?_
                rw [HHC.out]
                rintro e w6 ⟨rfl, hb6⟩
                have hb45 := bel_trans (bel_trans hb4 hb5) hb6
                have HO4 := Lib.hid (own_keep HO.out hb45)
                go_wp2_with fail
                exact ⟨⟨d + 1, q, cq, _, by omega, by go_num, rfl, by rw [HN.out]; exact HO4.out, by rw [HN.out]; exact HSM.out, bel_trans hb hb45, bel_trans hb2 hb45⟩, by simp [intOf]; omega⟩
              | false =>
                have HHC := Lib.hid hh
                cases hm : hasC L x y with
                | true =>
                  have HN := Lib.hid (SAME.out (by simp only [hm, Bool.not_true, Bool.and_false]))
                  have HHM := Lib.hid hm
                  clear ha hbb hh hm SAME MORE
                  go_wp2_with fail
                  refine (l1In_b x (-1) W true _ (by rw [HA.out])).mono ?_
                  rintro e w4 ⟨rfl, hb4⟩
                  go_wp2_with fail
                  refine (l1In_b y (-1) H true _ (by rw [HBB.out])).mono ?_
                  rintro e w5 ⟨rfl, hb5⟩
                  go_wp2_with fail
                  refine (HasCell_s D n cd cs x y _ ((HCX.out.below hb4).below hb5) HCL.out (by omega)).mono ?_
                  rw [HHC.out]
                  rintro e w6 ⟨rfl, hb6⟩
                  have hb45 := bel_trans (bel_trans hb4 hb5) hb6
                  have HO4 := Lib.hid (own_keep HO.out hb45)
                  go_wp2_with fail
                  refine (HasCell_s _ q cq L x y _ (Rd.of_own HO4.out) HQL.out (by omega)).mono ?_
                  rw [HHM.out]
                  rintro e w7 ⟨rfl, hb7⟩
                  have hb47 := bel_trans hb45 hb7
                  have HO5 := Lib.hid (own_keep HO4.out hb7)
                  go_wp2_with fail
                  exact ⟨⟨d + 1, q, cq, _, by omega, by go_num, rfl, by rw [HN.out]; exact HO5.out, by rw [HN.out]; exact HSM.out, bel_trans hb hb47, bel_trans hb2 hb47⟩, by simp [intOf]; omega⟩
                | false =>
                  have HN := Lib.hid (MORE.out (by unfold outOk; simp only [ha, hbb, hh, hm, Bool.not_false, Bool.and_true]))
                  have HHM := Lib.hid hm
                  have hxy : (-1 ≤ x ∧ x ≤ 8) ∧ (-1 ≤ y ∧ y ≤ 8) := by
                    simp only [Bool.and_eq_true, decide_eq_true_eq] at ha hbb
                    omega
                  have HXY := Lib.hid hxy
                  clear ha hbb hh hm SAME MORE hxy
                  go_wp2_with fail
                  refine (l1In_b x (-1) W true _ (by rw [HA.out])).mono ?_
                  rintro e w4 ⟨rfl, hb4⟩
                  go_wp2_with fail
                  refine (l1In_b y (-1) H true _ (by rw [HBB.out])).mono ?_
                  rintro e w5 ⟨rfl, hb5⟩
                  go_wp2_with fail
                  refine (HasCell_s D n cd cs x y _ ((HCX.out.below hb4).below hb5) HCL.out (by omega)).mono ?_
                  rw [HHC.out]
                  rintro e w6 ⟨rfl, hb6⟩
                  have hb45 := bel_trans (bel_trans hb4 hb5) hb6
                  have HO4 := Lib.hid (own_keep HO.out hb45)
                  go_wp2_with fail
                  refine (HasCell_s _ q cq L x y _ (Rd.of_own HO4.out) HQL.out (by omega)).mono ?_
                  rw [HHM.out]
                  rintro e w7 ⟨rfl, hb7⟩
                  have hb47 := bel_trans hb45 hb7
                  have HO5 := Lib.hid (own_keep HO4.out hb7)
                  have hbb7 := bel_trans hb hb47
                  have hbb8 := bel_trans hb2 hb47
                  have hbz := hbb8.size
                  clear d1 d2
                  go_wp2_with (at_builtin; go_must (refine app_C _ rfl _ _ rfl w2.heap.size _ q cq L rfl (HO5.out.alloc _) _ _ _ [(x, y)] rfl (rd_newC _ _ _ _) rfl (by omega) (by simp; omega) ?_); intro E2 cp2 w8 ho8 hg8 hat8; have HO8 := Lib.hid ho8; have HG8 := Lib.hid hg8; clear ho8 hg8 hat8)
                  have hb28 : Below w2.heap.size w2 w8 := bel_app (bel_alloc hbb8 _) HG8.out (fun g h => (own_lt HO5.out g h).1)
                  have hb78 := bel_trans hb02 hb28
                  exact ⟨⟨d + 1, q + 1, cp2, _, by omega, by go_num, rfl, by rw [HN.out]; exact HO8.out, by rw [HN.out]; intro z hz; rcases List.mem_append.1 hz with h | h; exact HSM.out z h; simp only [List.mem_singleton] at h; subst h; exact HXY.out, hb78, hb28⟩, by simp [intOf]; omega⟩
        · obtain rfl : d = 4 := by omega
          have HO := Lib.hid hO
          have HSM := Lib.hid hsm
          have hd1 : ¬ ((4 : Nat) : Int) < 4 := by omega
          clear hO hsm
          go_wp2_with fail
          exact ⟨⟨i + 1, q, cq, E, by omega, by go_num, rfl, HO.out, HSM.out, hb, hb2⟩, by simp [intOf]; omega⟩
    · have HN := Lib.hid (HEND.out i (by omega))
      rw [HN.out] at hO
      have HO := Lib.hid hO
      have hi1 : ¬ (i : Int) < (q : Int) := by omega
      clear hO hql hsm
      go_wp2_with fail
      go_ret
      exact ⟨E, q, cq, rfl, own_base HO.out hb02.size, hb⟩
set_option maxRecDepth 100000 in
set_option maxHeartbeats 3200000 in
theorem HolesOf_s (A : Option Addr) (n c : Nat) (xs : List C) (w : World) (hr : Rd w A (vC xs)) (hl : xs.length = n) (hs : isShape xs = true) (hf : ∃ T R, FullS xs T R ∧ T ≤ 1000) :
    Calls Try.prog 20 #[.slice A n c] w (Ret w (.int .i64 0)) := by
  obtain ⟨T, R, hf, hT⟩ := hf
  obtain ⟨h1, h2⟩ := corn_at hs
  have h3 := ext_le h2 n (by omega)
  have hall := hf.all
  have hrl := hf.len
  rw [hl] at hall
  obtain ⟨cs, hcs⟩ : ∃ cs, cornS xs = cs := ⟨_, rfl⟩
  rw [hcs] at h1 h2 h3 hall
  rw [hl] at h1
  obtain ⟨W, hW⟩ : ∃ W, extW cs n = W := ⟨_, rfl⟩
  obtain ⟨H, hH⟩ : ∃ H, extH cs n = H := ⟨_, rfl⟩
  rw [hW, hH] at h3 hall
  have hn8 := (shape_len hs).2
  rw [hl] at hn8
  have hnn : n ≤ 1099511627776 := by omega
  obtain ⟨⟨hW0, hW8⟩, hH0, hH8⟩ := h3
  obtain ⟨W, rfl⟩ := Int.eq_ofNat_of_zero_le hW0
  obtain ⟨H, rfl⟩ := Int.eq_ofNat_of_zero_le hH0
  have HL := Lib.hid hl
  have HR := Lib.hid hr
  have HS := Lib.hid hs
  have HF := Lib.hid hf
  have HCS := Lib.hid hcs
  have HCL := Lib.hid h1
  have HW := Lib.hid hW
  have HH := Lib.hid hH
  have HALL := Lib.hid hall
  clear hl hr hs hcs h1 h2 hf hW hH hall
  go_enter Try.func20, Try.ntmps20
  go_wp2_with fail
  refine (IsShape_s A n c xs _ HR.out HL.out hnn).mono ?_
  rw [HS.out]
  rintro e w1 ⟨rfl, hb1⟩
  go_wp2_with fail
  refine (SizeOf_s A n c xs _ (HR.out.below hb1) HL.out HS.out).mono ?_
  rw [HCS.out, HW.out, HH.out]
  rintro e w2 ⟨rfl, hb2⟩
  have hb02 := bel_trans hb1 hb2
  go_wp2_with fail
  refine (CornerShape_s A n c xs _ (HR.out.below hb02) HL.out HS.out).mono ?_
  rw [HCS.out]
  rintro e w3 ⟨D, m, cd, rfl, hO, hb3⟩
  obtain rfl : n = m := by have := own_len hO; rw [vC_length] at this; have := HCL.out; omega
  have hb03 := bel_trans hb02 hb3
  have HRD := Lib.hid (Rd.of_own hO)
  clear hO
  go_wp2_with fail
  refine (l5Outside_s A n c T R xs _ (HR.out.below hb03) HL.out HS.out HF.out hT).mono ?_
  rintro e w4 ⟨E, q, cq, rfl, hO, hb4⟩
  have hql : R.length = q := by have := own_len hO; rw [vC_length] at this; omega
  have HQL := Lib.hid hql
  have HRE := Lib.hid (Rd.of_own hO)
  have HRD4 := Lib.hid (HRD.out.below hb4)
  have hb04 := bel_trans hb03 hb4
  have hq1 : q ≤ 1000 := by omega
  clear hO hql HRD
  go_wp2_with fail
  go_loopw [8, 7, 6] (fun e8 e7 e6 wr => ∃ y : Nat, y ≤ H ∧ e8 = .int .i64 y ∧ e7 = .int .i64 0 ∧ e6 = .slice E q cq ∧ Below w4.heap.size w4 wr) (fun e8 _ _ _ => H - (intOf e8).toNat)
  case atStart => exact ⟨0, Nat.zero_le _, rfl, rfl, rfl, Below.refl _ _⟩
  case round =>
    obtain ⟨y, hy, rfl, rfl, rfl, hb⟩ := hrel
    by_cases hlt : y < H
    · have hy0 : (0 : Int) ≤ (y : Int) := by omega
      have hy1 : (y : Int) < (H : Int) := by omega
      go_wp2_with fail
      go_loopw [9, 7, 6] (fun e9 e7 e6 wr => ∃ x : Nat, x ≤ W ∧ e9 = .int .i64 x ∧ e7 = .int .i64 0 ∧ e6 = .slice E q cq ∧ Below w4.heap.size w4 wr) (fun e9 _ _ _ => W - (intOf e9).toNat)
      case atStart => exact ⟨0, Nat.zero_le _, rfl, rfl, rfl, hb⟩
      case round =>
        clear hb
        obtain ⟨x, hx, rfl, rfl, rfl, hb⟩ := hrel
        by_cases hlx : x < W
        · have hx0 : (0 : Int) ≤ (x : Int) := by omega
          have hx1 : (x : Int) < (W : Int) := by omega
          cases hh : hasC cs (x : Int) (y : Int) with
          | true =>
            have HHC := Lib.hid hh
            clear hh
            go_wp2_with fail
            refine (HasCell_s D n cd cs x y _ (HRD4.out.below hb) HCL.out (by omega)).mono ?_
            rw [HHC.out]
            rintro e w6 ⟨rfl, hb6⟩
            go_wp2_with fail
            exact ⟨⟨x + 1, by omega, by go_num, rfl, rfl, bel_trans hb hb6⟩, by simp [intOf]; omega⟩
          | false =>
            have HHM := Lib.hid (HALL.out x y (by omega) (by omega) hh)
            have HHC := Lib.hid hh
            clear hh
            go_wp2_with fail
            refine (HasCell_s D n cd cs x y _ (HRD4.out.below hb) HCL.out (by omega)).mono ?_
            rw [HHC.out]
            rintro e w6 ⟨rfl, hb6⟩
            go_wp2_with fail
            refine (HasCell_s E q cq R x y _ (HRE.out.below (bel_trans hb hb6)) HQL.out (by omega)).mono ?_
            rw [HHM.out]
            rintro e w7 ⟨rfl, hb7⟩
            go_wp2_with fail
            exact ⟨⟨x + 1, by omega, by go_num, rfl, rfl, bel_trans (bel_trans hb hb6) hb7⟩, by simp [intOf]; omega⟩
        · obtain rfl : x = W := by omega
          have hx1 : ¬ (x : Int) < (x : Int) := by omega
          go_wp2_with fail
          exact ⟨⟨y + 1, by omega, by go_num, rfl, rfl, hb⟩, by simp [intOf]; omega⟩
    · obtain rfl : y = H := by omega
      have hy1 : ¬ (y : Int) < (y : Int) := by omega
      go_wp2_with fail
      go_ret
      exact ⟨rfl, bel_trans hb04 hb⟩
end Go.Proofs.Yteelmhmdnljjnaa
