/- Texts of this claim, one behind the other: part 5. -/
import Derived.Test.YtkcgdnnipohehaaGreatDoorU4FnFree
import Derived.Outline
import Derived.WalkLawsBesides
import Derived.WalkSpells
import Derived.BigQuiet
import Derived.Deep.QuietTactic
import Derived.Deep.RegionHeld3
import Derived.Deep.RegionWith
import Derived.Deep.DeepCutAuto
import Derived.Deep.CutBlock
import Derived.Deep.DrawnRows
/- Free and one-sided shapes, their number: the program's and the reference's. -/
namespace Go.Proofs.YtkcgdnnipohehaaGreatDoor
open Go.RowKit
set_option linter.unusedVariables false
attribute [local go_sem ↓] Go.wp_at_zero Go.wp_at_succ

theorem OwnF.push {base : Nat} {w w2 : World} {B B' D : Option Addr} {q cB c' k cD : Nat} {hs : List H} {F : List (List C)} {xs : List C} (h : OwnF base w B q cB hs F) (hx : CRow w (D, k, cD) xs)
    (ho : w2.ownsRow base 52 1 (.slice B' (q + 1) c') (q + 1) (vS (hs ++ [(D, k, cD)]))) (hg : w.grownBy w2 (ob B)) : OwnF base w2 B' (q + 1) c' (hs ++ [(D, k, cD)]) (F ++ [xs]) := by
  have hl := h.hlen
  have fl := h.flen
  refine ⟨ho, by rw [List.length_append, fl]; rfl, fun i x f h1 h2 => ?_⟩
  by_cases hi : i < q
  · rw [List.getElem?_append_left (by omega)] at h1 h2
    have hr := h.row i x f h1 h2
    exact hr.grown hg fun g e r => hr.apart h.own g e r
  · have hj : i = q := by
      have := (List.getElem?_eq_some_iff.1 h1).1
      rw [List.length_append] at this
      simp at this
      omega
    subst hj
    rw [List.getElem?_append_right (by omega), hl, Nat.sub_self] at h1
    rw [List.getElem?_append_right (by omega), fl, Nat.sub_self] at h2
    simp only [List.getElem?_cons_zero, Option.some.injEq] at h1 h2
    subst h1 h2
    exact hx.grown hg fun g e r => hx.apart h.own g e r
theorem RdF.grownO {base : Nat} {w w' : World} {A D : Option Addr} {n q cq : Nat} {hs hs2 : List H} {F F2 : List (List C)} (h : RdF w A n hs F) (ho : OwnF base w D q cq hs2 F2) (hg : w.grownBy w' (ob D)) (hA : ∀ g, ob D = some g → ob A ≠ some g) : RdF w' A n hs F :=
  ⟨h.top.grown hg fun g e r => hA g r.symm e, h.hlen, h.flen, fun i x f a b => (h.row i x f a b).grown hg fun g e r => (h.row i x f a b).apart ho.own g e r⟩
theorem cmpS_le (s t : List C) : decide (cmpS s t ≤ 0) = !ltS t s := by
  unfold cmpS
  cases h : ltS s t with
  | true => rw [ltS_sto.asym h]; rfl
  | false =>
    cases ltS t s with
    | true => rfl
    | false => rfl
theorem leastV_no {s : List C} {k m : Nat} (hm : m < k) (h : ltS (turnV s m) s = true) : leastV s k = false := by
  unfold leastV
  rw [← Bool.not_eq_true, List.all_eq_true]
  intro h2
  have := h2 m (List.mem_range.2 hm)
  rw [h] at this
  cases this
theorem frV_snoc {l : List (List C)} {i k : Nat} {s : List C} (h : l[i]? = some s) : frV (l.take (i + 1)) k = if leastV s k then frV (l.take i) k ++ [s] else frV (l.take i) k := by
  obtain ⟨hi, rfl⟩ := List.getElem?_eq_some_iff.1 h
  unfold frV
  rw [List.take_succ_eq_append_getElem hi, List.filter_append, List.filter_cons]
  split <;> simp
theorem frV_len (l : List (List C)) (k : Nat) : (frV l k).length ≤ l.length := List.length_filter_le _ _
set_option maxRecDepth 100000 in
set_option maxHeartbeats 3200000 in
theorem l4Least_s (A : Option Addr) (n c k : Nat) (xs : List C) (w : World) (hr : Rd w A (vC xs)) (hl : xs.length = n) (hs : isShape xs = true) (hk : k ≤ 8) :
    Calls Tryz.prog 89 #[.slice A n c, .int .i64 (k : Int)] w (Ret w (.bool (leastV xs k))) := by
  have hn8 := (shape_len hs).2
  have HL := Lib.hid hl
  have HR := Lib.hid hr
  have HS := Lib.hid hs
  have hn : n ≤ 8 := by omega
  clear hl hr hs hn8
  go_enter Tryz.func89, Tryz.ntmps89
  go_wp2_with fail
  go_loopw [5] (fun e5 wr => ∃ m : Nat, m ≤ k ∧ e5 = .int .i64 m ∧ leastV xs m = true ∧ Below w.heap.size w wr) (fun e5 _ => k - (intOf e5).toNat)
  case atStart => exact ⟨0, Nat.zero_le _, rfl, rfl, Below.refl _ _⟩
  case round =>
    obtain ⟨m, hm, rfl, hv, hb⟩ := hrel
    have HV := Lib.hid hv
    have HB := Lib.hid hb
    clear hv hb
    by_cases hlt : m < k
    · have hm1 : (m : Int) < (k : Int) := by omega
      have hm8 : m < 8 := by omega
      have hst := leastV_succ xs m
      have hno := leastV_no (s := xs) hlt
      have htl := turn_len HS.out m
      have HTU : Hid (∀ w0, Rd w0 A (vC xs) → Calls Tryz.prog 93 #[.slice A n c, .int .i64 (m : Int)] w0 (RetS w0 87 2 (vC (turnV xs m)))) := fun w0 h => l3Turn_s A n c xs m w0 h HL.out HS.out hm8
      obtain ⟨t, ht⟩ : ∃ t, turnV xs m = t := ⟨_, rfl⟩
      rw [ht] at hst hno htl HTU
      have hc := cmpS_lt t xs
      obtain ⟨b, hbq⟩ : ∃ b, ltS t xs = b := ⟨_, rfl⟩
      rw [hbq] at hst hno hc
      rw [HV.out, Bool.true_and] at hst
      have HST := Lib.hid hst
      have HNO := Lib.hid hno
      obtain ⟨z, hz⟩ : ∃ z, cmpS t xs = z := ⟨_, rfl⟩
      have HZ := Lib.hid hz
      rw [hz] at hc
      clear ht hst hno hbq hz
      go_wp2_with fail
      refine (HTU.out _ (HR.out.below HB.out)).mono ?_
      rintro e w2 ⟨E, q2, c2, rfl, hT, hb2⟩
      have hq2 : t.length = q2 := by have := own_len hT; rw [vC_length] at this; omega
      have HT := Lib.hid (Rd.of_own hT)
      have HQ2 := Lib.hid hq2
      have HB2 := Lib.hid (bel_trans HB.out hb2)
      have hq8 : q2 ≤ 1099511627776 := by omega
      clear hT hq2 hb2 htl
      go_wp2_with fail
      refine (CompareShapes_s E A q2 c2 n c t xs _ HT.out (HR.out.below HB2.out) HQ2.out HL.out hq8 (by omega)).mono ?_
      rw [HZ.out]
      rintro e w3 ⟨rfl, hb3⟩
      have HB3 := Lib.hid (bel_trans HB2.out hb3)
      clear hb3
      cases b with
      | true =>
        have HN := Lib.hid (HNO.out rfl)
        clear HNO
        go_wp2_with fail
        go_ret
        exact ⟨by rw [HN.out]; rfl, HB3.out⟩
      | false =>
        go_wp2_with fail
        exact ⟨⟨m + 1, by omega, by go_num, HST.out, HB3.out⟩, by simp [intOf]; omega⟩
    · obtain rfl : m = k := by omega
      have hm1 : ¬ (m : Int) < (m : Int) := by omega
      go_wp2_with fail
      go_ret
      exact ⟨by rw [HV.out]; rfl, HB.out⟩
/-- A list of shapes whose headers are the call's own. -/
abbrev RetFA2 (w : World) (F : List (List C)) (e : Ending) (w' : World) : Prop := RetF w F e w'
set_option maxRecDepth 100000 in
set_option maxHeartbeats 3200000 in
theorem FreeShapes_s (n : Int) (w : World) : Calls Tryz.prog 28 #[.int .i64 n] w (RetFA2 w (frV (fixA n) 8)) := by
  have hsh := fixA_shape2 n
  have hfl := fixA_len2 n
  obtain ⟨l, hl⟩ : ∃ l, fixA n = l := ⟨_, rfl⟩
  rw [hl] at hsh hfl ⊢
  have HFX : Hid (∀ w, Calls Tryz.prog 34 #[.int .i64 n] w (RetFA w l)) := fun w => hl ▸ FixedShapes_s n w
  have HSH := Lib.hid hsh
  have hO0 : OwnF w.heap.size (w.alloc (.cells #[] 52)) (some ⟨w.heap.size, 0, none⟩) 0 0 [] [] := OwnF.none_ (own_new w 52 1 0 #[] rfl (by simp [maxLen]) (Nat.le_refl _))
  have HO0 := Lib.hid hO0
  clear hl hsh hO0
  go_enter Tryz.func28, Tryz.ntmps28
  go_wp2_with fail
  refine (HFX.out _).mono ?_
  rintro e w1 ⟨gl, nl, cl, hsl, rfl, hOl, hb1⟩
  have hnl : l.length = nl := hOl.flen
  have hlo := own_lt hOl.own gl rfl
  have HRD := Lib.hid hOl.rd
  have HNL := Lib.hid hnl
  have HO1 := Lib.hid (HO0.out.below hb1)
  have HB1 := Lib.hid (bel_trans (bel_alloc (Below.refl w.heap.size w) (.cells #[] 52)) hb1)
  have hnl2 : nl ≤ 1048576 := by omega
  have hne0 : ∀ g, ob (some (⟨w.heap.size, 0, none⟩ : Addr)) = some g → ob (some (⟨gl, 0, none⟩ : Addr)) ≠ some g := fun g e r => by
    have h1 := hlo.1
    simp at h1
    simp only [ob, Option.map_some, Option.some.injEq] at e r
    omega
  have HNE0 := Lib.hid hne0
  have HLO : Hid (∀ g, ob (some (⟨gl, 0, none⟩ : Addr)) = some g → g < w1.heap.size) := fun g e => by
    simp only [ob, Option.map_some, Option.some.injEq] at e
    have := hlo.2
    omega
  clear hOl hb1 hnl hfl HO0 hlo hne0
  go_wp2_with fail
  go_loopw [5, 3] (fun e5 e3 wr => ∃ (i q cq : Nat) (D : Option Addr) (hs : List H), i ≤ nl ∧ q ≤ i ∧ e5 = .int .i64 i ∧ e3 = .slice D q cq ∧ OwnF w.heap.size wr D q cq hs (frV (l.take i) 8) ∧ RdF wr (some ⟨gl, 0, none⟩) nl hsl l ∧ (∀ g, ob D = some g → ob (some ⟨gl, 0, none⟩) ≠ some g) ∧ Below w.heap.size w wr ∧ w1.heap.size ≤ wr.heap.size) (fun e5 _ _ => nl - (intOf e5).toNat)
  case atStart => exact ⟨0, 0, 0, _, [], Nat.zero_le _, Nat.le_refl _, rfl, rfl, by simpa [frV] using HO1.out, HRD.out, HNE0.out, HB1.out, Nat.le_refl _⟩
  case round =>
    clear HO1 HRD HNE0 HB1
    obtain ⟨i, q, cq, D, hs, hi, hqi, rfl, rfl, hO, hR, hne, hb, hsz⟩ := hrel
    have HO := Lib.hid hO
    have HR := Lib.hid hR
    have HNE := Lib.hid hne
    have HB := Lib.hid hb
    clear hO hR hne hb
    by_cases hlt : i < nl
    · have hi0 : (0 : Int) ≤ (i : Int) := by omega
      have hi1 : (i : Int) < (nl : Int) := by omega
      obtain ⟨x, f, g, off, hx, hf, hA, hg, d1, hcr⟩ := HR.out.at_ hlt
      have hsf := HSH.out f (List.mem_of_getElem? hf)
      have hst := frV_snoc (k := 8) hf
      obtain ⟨E, m1, k1⟩ := x
      dsimp only at d1
      injection hA with hA
      injection hA with hA1 hA2
      subst hA1 hA2
      rw [Nat.zero_add] at d1
      have HCR0 := Lib.hid hcr
      have HSF := Lib.hid hsf
      have HST := Lib.hid hst
      obtain ⟨b, hbv⟩ : ∃ b, leastV f 8 = b := ⟨_, rfl⟩
      have HBV := Lib.hid hbv
      clear hx hf hcr hsf hst hbv
      go_wp2_with fail
      refine (l4Least_s E m1 k1 8 f _ HCR0.out.2.1 HCR0.out.1 HSF.out (by omega)).mono ?_
      rw [HBV.out]
      rintro e w2 ⟨rfl, hb2⟩
      have HO2 := Lib.hid (HO.out.below hb2)
      have HRD2 := Lib.hid (HR.out.below hb2)
      have HCR := Lib.hid (HCR0.out.below hb2)
      have HB2 := Lib.hid (bel_trans HB.out hb2)
      have hs2 := hb2.size
      have d2 := keep_below hb2 d1
      have l2 : gl < w2.heap.size := by omega
      clear hb2 d1
      cases b with
      | false =>
        have HNX : Hid (frV (l.take (i + 1)) 8 = frV (l.take i) 8) := by show _ = _; rw [HST.out, HBV.out]; rfl
        go_wp2_with fail
        exact ⟨⟨i + 1, q, cq, D, hs, by omega, by omega, by go_num, rfl, by rw [HNX.out]; exact HO2.out, HRD2.out, HNE.out, HB2.out, by omega⟩, by simp [intOf]; omega⟩
      | true =>
        have HNX : Hid (frV (l.take (i + 1)) 8 = frV (l.take i) 8 ++ [f]) := by show _ = _; rw [HST.out, HBV.out]; rfl
        have hbs := HB2.out.size
        go_wp2_with (at_builtin; go_must (refine app_F _ rfl _ _ rfl w.heap.size _ _ _ hs rfl (HO2.out.own.alloc _) _ _ _ [(E, m1, k1)] rfl (rd_newS _ _ _) rfl (by omega) (by simp; omega) ?_); intro B4 c4 u4 ho4 hgx4 hat4; have HO4 := Lib.hid ho4; have HG4 := Lib.hid hgx4; have HAT4 := Lib.hid hat4; clear ho4 hgx4 hat4)
        have hPf := OwnF.push (HO2.out.below (bel_alloc (Below.refl _ _) (.cells #[.slice E m1 k1] 52))) (HCR.out.below (bel_alloc (Below.refl _ _) _)) HO4.out HG4.out
        have hRf := (HRD2.out.below (bel_alloc (Below.refl _ _) (.cells #[.slice E m1 k1] 52))).grownO (HO2.out.below (bel_alloc (Below.refl _ _) _)) HG4.out HNE.out
        have hlo4 : ∀ b, ob D = some b → w.heap.size ≤ b := fun b e => (own_lt HO2.out.own b e).1
        have hbf := bel_grown (bel_alloc HB2.out (.cells #[.slice E m1 k1] 52)) HG4.out hlo4
        have hsf : w1.heap.size ≤ u4.heap.size := by have := HG4.out.size; simp at this; omega
        have hnf : ∀ b, ob B4 = some b → ob (some (⟨gl, 0, none⟩ : Addr)) ≠ some b := fun b e r => by
          rcases HAT4.out with h | h
          · exact HNE.out b (h ▸ e) r
          · rw [h] at e
            injection e with e
            have := HLO.out b r
            simp at e
            omega
        have HPF := Lib.hid hPf
        have HRF := Lib.hid hRf
        have HBF := Lib.hid hbf
        have HNF := Lib.hid hnf
        clear hPf hRf hlo4 hbf hnf
        go_wp2_with fail
        exact ⟨⟨i + 1, q + 1, c4, B4, _, by omega, by omega, by go_num, rfl, by rw [HNX.out]; exact HPF.out, HRF.out, HNF.out, HBF.out, hsf⟩, by simp [intOf]; omega⟩
    · obtain rfl : i = nl := by omega
      have hi1 : ¬ (i : Int) < (i : Int) := by omega
      have HFN : Hid (l.take i = l) := List.take_of_length_le (by rw [HNL.out]; exact Nat.le_refl _)
      go_wp2_with fail
      go_ret
      exact ⟨D, q, cq, hs, rfl, by rw [HFN.out] at HO; exact HO.out, HB.out⟩
set_option maxRecDepth 100000 in
set_option maxHeartbeats 3200000 in
theorem OneSidedShapes_s (n : Int) (w : World) : Calls Tryz.prog 52 #[.int .i64 n] w (RetFA2 w (frV (fixA n) 4)) := by
  have hsh := fixA_shape2 n
  have hfl := fixA_len2 n
  obtain ⟨l, hl⟩ : ∃ l, fixA n = l := ⟨_, rfl⟩
  rw [hl] at hsh hfl ⊢
  have HFX : Hid (∀ w, Calls Tryz.prog 34 #[.int .i64 n] w (RetFA w l)) := fun w => hl ▸ FixedShapes_s n w
  have HSH := Lib.hid hsh
  have hO0 : OwnF w.heap.size (w.alloc (.cells #[] 52)) (some ⟨w.heap.size, 0, none⟩) 0 0 [] [] := OwnF.none_ (own_new w 52 1 0 #[] rfl (by simp [maxLen]) (Nat.le_refl _))
  have HO0 := Lib.hid hO0
  clear hl hsh hO0
  go_enter Tryz.func52, Tryz.ntmps52
  go_wp2_with fail
  refine (HFX.out _).mono ?_
  rintro e w1 ⟨gl, nl, cl, hsl, rfl, hOl, hb1⟩
  have hnl : l.length = nl := hOl.flen
  have hlo := own_lt hOl.own gl rfl
  have HRD := Lib.hid hOl.rd
  have HNL := Lib.hid hnl
  have HO1 := Lib.hid (HO0.out.below hb1)
  have HB1 := Lib.hid (bel_trans (bel_alloc (Below.refl w.heap.size w) (.cells #[] 52)) hb1)
  have hnl2 : nl ≤ 1048576 := by omega
  have hne0 : ∀ g, ob (some (⟨w.heap.size, 0, none⟩ : Addr)) = some g → ob (some (⟨gl, 0, none⟩ : Addr)) ≠ some g := fun g e r => by
    have h1 := hlo.1
    simp at h1
    simp only [ob, Option.map_some, Option.some.injEq] at e r
    omega
  have HNE0 := Lib.hid hne0
  have HLO : Hid (∀ g, ob (some (⟨gl, 0, none⟩ : Addr)) = some g → g < w1.heap.size) := fun g e => by
    simp only [ob, Option.map_some, Option.some.injEq] at e
    have := hlo.2
    omega
  clear hOl hb1 hnl hfl HO0 hlo hne0
  go_wp2_with fail
  go_loopw [5, 3] (fun e5 e3 wr => ∃ (i q cq : Nat) (D : Option Addr) (hs : List H), i ≤ nl ∧ q ≤ i ∧ e5 = .int .i64 i ∧ e3 = .slice D q cq ∧ OwnF w.heap.size wr D q cq hs (frV (l.take i) 4) ∧ RdF wr (some ⟨gl, 0, none⟩) nl hsl l ∧ (∀ g, ob D = some g → ob (some ⟨gl, 0, none⟩) ≠ some g) ∧ Below w.heap.size w wr ∧ w1.heap.size ≤ wr.heap.size) (fun e5 _ _ => nl - (intOf e5).toNat)
  case atStart => exact ⟨0, 0, 0, _, [], Nat.zero_le _, Nat.le_refl _, rfl, rfl, by simpa [frV] using HO1.out, HRD.out, HNE0.out, HB1.out, Nat.le_refl _⟩
  case round =>
    clear HO1 HRD HNE0 HB1
    obtain ⟨i, q, cq, D, hs, hi, hqi, rfl, rfl, hO, hR, hne, hb, hsz⟩ := hrel
    have HO := Lib.hid hO
    have HR := Lib.hid hR
    have HNE := Lib.hid hne
    have HB := Lib.hid hb
    clear hO hR hne hb
    by_cases hlt : i < nl
    · have hi0 : (0 : Int) ≤ (i : Int) := by omega
      have hi1 : (i : Int) < (nl : Int) := by omega
      obtain ⟨x, f, g, off, hx, hf, hA, hg, d1, hcr⟩ := HR.out.at_ hlt
      have hsf := HSH.out f (List.mem_of_getElem? hf)
      have hst := frV_snoc (k := 4) hf
      obtain ⟨E, m1, k1⟩ := x
      dsimp only at d1
      injection hA with hA
      injection hA with hA1 hA2
      subst hA1 hA2
      rw [Nat.zero_add] at d1
      have HCR0 := Lib.hid hcr
      have HSF := Lib.hid hsf
      have HST := Lib.hid hst
      obtain ⟨b, hbv⟩ : ∃ b, leastV f 4 = b := ⟨_, rfl⟩
      have HBV := Lib.hid hbv
      clear hx hf hcr hsf hst hbv
      go_wp2_with fail
      refine (l4Least_s E m1 k1 4 f _ HCR0.out.2.1 HCR0.out.1 HSF.out (by omega)).mono ?_
      rw [HBV.out]
      rintro e w2 ⟨rfl, hb2⟩
      have HO2 := Lib.hid (HO.out.below hb2)
      have HRD2 := Lib.hid (HR.out.below hb2)
      have HCR := Lib.hid (HCR0.out.below hb2)
      have HB2 := Lib.hid (bel_trans HB.out hb2)
      have hs2 := hb2.size
      have d2 := keep_below hb2 d1
      have l2 : gl < w2.heap.size := by omega
      clear hb2 d1
      cases b with
      | false =>
        have HNX : Hid (frV (l.take (i + 1)) 4 = frV (l.take i) 4) := by show _ = _; rw [HST.out, HBV.out]; rfl
        go_wp2_with fail
        exact ⟨⟨i + 1, q, cq, D, hs, by omega, by omega, by go_num, rfl, by rw [HNX.out]; exact HO2.out, HRD2.out, HNE.out, HB2.out, by omega⟩, by simp [intOf]; omega⟩
      | true =>
        have HNX : Hid (frV (l.take (i + 1)) 4 = frV (l.take i) 4 ++ [f]) := by show _ = _; rw [HST.out, HBV.out]; rfl
        have hbs := HB2.out.size
        go_wp2_with (at_builtin; go_must (refine app_F _ rfl _ _ rfl w.heap.size _ _ _ hs rfl (HO2.out.own.alloc _) _ _ _ [(E, m1, k1)] rfl (rd_newS _ _ _) rfl (by omega) (by simp; omega) ?_); intro B4 c4 u4 ho4 hgx4 hat4; have HO4 := Lib.hid ho4; have HG4 := Lib.hid hgx4; have HAT4 := Lib.hid hat4; clear ho4 hgx4 hat4)
        have hPf := OwnF.push (HO2.out.below (bel_alloc (Below.refl _ _) (.cells #[.slice E m1 k1] 52))) (HCR.out.below (bel_alloc (Below.refl _ _) _)) HO4.out HG4.out
        have hRf := (HRD2.out.below (bel_alloc (Below.refl _ _) (.cells #[.slice E m1 k1] 52))).grownO (HO2.out.below (bel_alloc (Below.refl _ _) _)) HG4.out HNE.out
        have hlo4 : ∀ b, ob D = some b → w.heap.size ≤ b := fun b e => (own_lt HO2.out.own b e).1
        have hbf := bel_grown (bel_alloc HB2.out (.cells #[.slice E m1 k1] 52)) HG4.out hlo4
        have hsf : w1.heap.size ≤ u4.heap.size := by have := HG4.out.size; simp at this; omega
        have hnf : ∀ b, ob B4 = some b → ob (some (⟨gl, 0, none⟩ : Addr)) ≠ some b := fun b e r => by
          rcases HAT4.out with h | h
          · exact HNE.out b (h ▸ e) r
          · rw [h] at e
            injection e with e
            have := HLO.out b r
            simp at e
            omega
        have HPF := Lib.hid hPf
        have HRF := Lib.hid hRf
        have HBF := Lib.hid hbf
        have HNF := Lib.hid hnf
        clear hPf hRf hlo4 hbf hnf
        go_wp2_with fail
        exact ⟨⟨i + 1, q + 1, c4, B4, _, by omega, by omega, by go_num, rfl, by rw [HNX.out]; exact HPF.out, HRF.out, HNF.out, HBF.out, hsf⟩, by simp [intOf]; omega⟩
    · obtain rfl : i = nl := by omega
      have hi1 : ¬ (i : Int) < (i : Int) := by omega
      have HFN : Hid (l.take i = l) := List.take_of_length_le (by rw [HNL.out]; exact Nat.le_refl _)
      go_wp2_with fail
      go_ret
      exact ⟨D, q, cq, hs, rfl, by rw [HFN.out] at HO; exact HO.out, HB.out⟩
set_option maxRecDepth 100000 in
set_option maxHeartbeats 3200000 in
theorem firstOf_i (n : Int) (k : Nat) (w : World) (hk : k ≤ 8) : Calls Tryz.prog 88 #[.int .i64 n, .int .i64 (k : Int)] w (RetF w (frV (fixA n) k)) := by
  have hsh := fixA_shape2 n
  have hfl := fixA_len2 n
  obtain ⟨l, hl⟩ : ∃ l, fixA n = l := ⟨_, rfl⟩
  rw [hl] at hsh hfl ⊢
  have HFX : Hid (∀ w, Calls Tryz.prog 33 #[.int .i64 n] w (RetF w l)) := fun w => hl ▸ FixedShapes_i n w
  have HSH := Lib.hid hsh
  clear hl hsh
  go_enter Tryz.func88, Tryz.ntmps88
  go_wp2_with fail
  refine (HFX.out _).mono ?_
  rintro e w1 ⟨LA, nl, cl, hsl, rfl, hOl, hb1⟩
  have hnl : l.length = nl := hOl.flen
  have HRD := Lib.hid hOl.rd
  have HNL := Lib.hid hnl
  have HB1 := Lib.hid hb1
  have hnl2 : nl ≤ 1048576 := by omega
  have HLO : Hid (∀ g, ob LA = some g → g < w1.heap.size) := fun g e => (own_lt hOl.own g e).2
  clear hOl hb1 hnl hfl
  go_wp2_with fail
  go_loopw [13, 5] (fun e13 e5 wr => ∃ (i q cq : Nat) (D : Option Addr) (hs : List H), i ≤ nl ∧ q ≤ i ∧ e13 = .int .i64 i ∧ e5 = .slice D q cq ∧ OwnF w.heap.size wr D q cq hs (frV (l.take i) k) ∧ RdF wr LA nl hsl l ∧ (∀ g, ob D = some g → ob LA ≠ some g) ∧ Below w.heap.size w wr ∧ w1.heap.size ≤ wr.heap.size) (fun e13 _ _ => nl - (intOf e13).toNat)
  case atStart => exact ⟨0, 0, 0, none, [], Nat.zero_le _, Nat.le_refl _, rfl, rfl, by simpa [frV] using OwnF.nil _ _, HRD.out, fun g e => by simp [ob] at e, HB1.out, Nat.le_refl _⟩
  case round =>
    clear HRD HB1
    obtain ⟨i, q, cq, D, hs, hi, hqi, rfl, rfl, hO, hR, hne, hb, hsz⟩ := hrel
    have HO := Lib.hid hO
    have HR := Lib.hid hR
    have HNE := Lib.hid hne
    have HB := Lib.hid hb
    clear hO hR hne hb
    by_cases hlt : i < nl
    · have hi0 : (0 : Int) ≤ (i : Int) := by omega
      have hi1 : (i : Int) < (nl : Int) := by omega
      obtain ⟨x, f, g, off, hx, hf, hA, hg, d1, hcr⟩ := HR.out.at_ hlt
      have hsf := HSH.out f (List.mem_of_getElem? hf)
      have hst := frV_snoc (k := k) hf
      obtain ⟨E, m1, k1⟩ := x
      dsimp only at d1
      subst hA
      have hm8 : m1 ≤ 8 := by have h1 := hcr.1; have h2 := (shape_len hsf).2; dsimp only at h1; omega
      have HCR0 := Lib.hid hcr
      have HSF := Lib.hid hsf
      have HST := Lib.hid hst
      clear hx hf hcr hsf hst
      go_wp2_with fail
      go_loopw [18, 8] (fun e18 e8 wq => ∃ m : Nat, m ≤ k ∧ e18 = .int .i64 m ∧ e8 = .bool (leastV f m) ∧ Below wr.heap.size wr wq) (fun e18 _ _ => k - (intOf e18).toNat)
      case atStart => exact ⟨0, Nat.zero_le _, rfl, rfl, Below.refl _ _⟩
      case round =>
        obtain ⟨m, hm, rfl, rfl, hbq⟩ := hrel
        have HBQ := Lib.hid hbq
        clear hbq
        by_cases hmk : m < k
        · have hm1 : (m : Int) < (k : Int) := by omega
          have hmlt : m < 8 := by omega
          have hsu := leastV_succ f m
          have htl := turn_len HSF.out m
          have HTU : Hid (∀ w0, Rd w0 E (vC f) → Calls Tryz.prog 139 #[.slice E m1 k1, .int .i64 (m : Int)] w0 (RetS w0 87 2 (vC (turnV f m)))) := fun w0 h => turned_i E m1 k1 f m w0 h HCR0.out.1 HSF.out hmlt
          obtain ⟨t, ht⟩ : ∃ t, turnV f m = t := ⟨_, rfl⟩
          rw [ht] at hsu htl HTU
          have hc := cmpS_le f t
          obtain ⟨z, hz⟩ : ∃ z, cmpS f t = z := ⟨_, rfl⟩
          have HZ := Lib.hid hz
          rw [hz] at hc
          rw [← hc] at hsu
          obtain ⟨b, hbv⟩ : ∃ b, leastV f m = b := ⟨_, rfl⟩
          rw [hbv] at hsu ⊢
          have HSU := Lib.hid hsu
          clear ht hz hc hsu hbv
          cases b with
          | false =>
            go_wp2_with fail
            exact ⟨⟨m + 1, by omega, by go_num, by rw [HSU.out]; rfl, HBQ.out⟩, by simp [intOf]; omega⟩
          | true =>
            go_wp2_with fail
            refine (HTU.out _ (HCR0.out.below HBQ.out).2.1).mono ?_
            rintro e w2 ⟨G, q2, c2, rfl, hT, hb2⟩
            have hq2 : t.length = q2 := by have := own_len hT; rw [vC_length] at this; omega
            have HT := Lib.hid (Rd.of_own hT)
            have HQ2 := Lib.hid hq2
            have HB2 := Lib.hid (bel_trans HBQ.out hb2)
            have hq8 : q2 ≤ 1099511627776 := by omega
            clear hT hq2 hb2 htl
            go_wp2_with fail
            refine (CompareShapes_i E G m1 k1 q2 c2 f t _ (HCR0.out.below HB2.out).2.1 HT.out HCR0.out.1 HQ2.out (by omega) hq8).mono ?_
            rw [HZ.out]
            rintro e w3 ⟨rfl, hb3⟩
            have HB3 := Lib.hid (bel_trans HB2.out hb3)
            clear hb3
            go_wp2_with fail
            exact ⟨⟨m + 1, by omega, by go_num, by rw [HSU.out]; rfl, HB3.out⟩, by simp [intOf]; omega⟩
        · obtain rfl : m = k := by omega
          have hm1 : ¬ (m : Int) < (m : Int) := by omega
          obtain ⟨b, hbv⟩ : ∃ b, leastV f m = b := ⟨_, rfl⟩
          rw [hbv]
          have HBV := Lib.hid hbv
          have HO2 := Lib.hid (HO.out.below HBQ.out)
          have HRD2 := Lib.hid (HR.out.below HBQ.out)
          have HCR := Lib.hid (HCR0.out.below HBQ.out)
          have HB2 := Lib.hid (bel_trans HB.out HBQ.out)
          have hs2 := HBQ.out.size
          clear hbv HBQ
          cases b with
          | false =>
            have HNX : Hid (frV (l.take (i + 1)) m = frV (l.take i) m) := by show _ = _; rw [HST.out, HBV.out]; rfl
            go_wp2_with fail
            exact ⟨⟨i + 1, q, cq, D, hs, by omega, by omega, by go_num, rfl, by rw [HNX.out]; exact HO2.out, HRD2.out, HNE.out, HB2.out, by omega⟩, by simp [intOf]; omega⟩
          | true =>
            have HNX : Hid (frV (l.take (i + 1)) m = frV (l.take i) m ++ [f]) := by show _ = _; rw [HST.out, HBV.out]; rfl
            have hbs := HB2.out.size
            go_wp2_with (at_builtin; go_must (refine app_F _ rfl _ _ rfl w.heap.size _ _ _ hs rfl (HO2.out.own.alloc _) _ _ _ [(E, m1, k1)] rfl (rd_newS _ _ _) rfl (by omega) (by simp; omega) ?_); intro B4 c4 u4 ho4 hgx4 hat4; have HO4 := Lib.hid ho4; have HG4 := Lib.hid hgx4; have HAT4 := Lib.hid hat4; clear ho4 hgx4 hat4)
            have hPf := OwnF.push (HO2.out.below (bel_alloc (Below.refl _ _) (.cells #[.slice E m1 k1] 52))) (HCR.out.below (bel_alloc (Below.refl _ _) _)) HO4.out HG4.out
            have hRf := (HRD2.out.below (bel_alloc (Below.refl _ _) (.cells #[.slice E m1 k1] 52))).grownO (HO2.out.below (bel_alloc (Below.refl _ _) _)) HG4.out HNE.out
            have hlo4 : ∀ b, ob D = some b → w.heap.size ≤ b := fun b e => (own_lt HO2.out.own b e).1
            have hbf := bel_grown (bel_alloc HB2.out (.cells #[.slice E m1 k1] 52)) HG4.out hlo4
            have hsf : w1.heap.size ≤ u4.heap.size := by have := HG4.out.size; simp at this; omega
            have hnf : ∀ b, ob B4 = some b → ob (some (⟨g, off, none⟩ : Addr)) ≠ some b := fun b e r => by
              rcases HAT4.out with h | h
              · exact HNE.out b (h ▸ e) r
              · rw [h] at e
                injection e with e
                have := HLO.out b r
                simp at e
                omega
            have HPF := Lib.hid hPf
            have HRF := Lib.hid hRf
            have HBF := Lib.hid hbf
            have HNF := Lib.hid hnf
            clear hPf hRf hlo4 hbf hnf
            go_wp2_with fail
            exact ⟨⟨i + 1, q + 1, c4, B4, _, by omega, by omega, by go_num, rfl, by rw [HNX.out]; exact HPF.out, HRF.out, HNF.out, HBF.out, hsf⟩, by simp [intOf]; omega⟩
    · obtain rfl : i = nl := by omega
      have hi1 : ¬ (i : Int) < (i : Int) := by omega
      have HFN : Hid (l.take i = l) := List.take_of_length_le (by rw [HNL.out]; exact Nat.le_refl _)
      go_wp2_with fail
      go_ret
      exact ⟨D, q, cq, hs, rfl, by rw [HFN.out] at HO; exact HO.out, HB.out⟩
set_option maxHeartbeats 800000 in
theorem FreeShapes_i (n : Int) (w : World) : Calls Tryz.prog 27 #[.int .i64 n] w (RetF w (frV (fixA n) 8)) := by
  go_enter Tryz.func27, Tryz.ntmps27
  go_wp2_with fail
  refine (firstOf_i n 8 w (by omega)).mono ?_
  rintro e w2 ⟨A, m, c, hs, rfl, hO, hb2⟩
  have HO := Lib.hid hO
  clear hO
  go_wp2_with fail
  go_ret
  exact ⟨A, m, c, hs, rfl, HO.out, hb2⟩
set_option maxHeartbeats 800000 in
theorem OneSidedShapes_i (n : Int) (w : World) : Calls Tryz.prog 51 #[.int .i64 n] w (RetF w (frV (fixA n) 4)) := by
  go_enter Tryz.func51, Tryz.ntmps51
  go_wp2_with fail
  refine (firstOf_i n 4 w (by omega)).mono ?_
  rintro e w2 ⟨A, m, c, hs, rfl, hO, hb2⟩
  have HO := Lib.hid hO
  clear hO
  go_wp2_with fail
  go_ret
  exact ⟨A, m, c, hs, rfl, HO.out, hb2⟩
/-- The number of free shapes. -/
def cfV (n : Int) : Int := if 1 ≤ n ∧ n ≤ 5 then ((frV (fixA n) 8).length : Nat) else -1
set_option maxHeartbeats 800000 in
theorem CountFree_s (n : Int) (w : World) : Calls Tryz.prog 31 #[.int .i64 n] w (Ret w (.int .i64 (cfV n))) := by
  have hfl := fixA_len2 n
  have hfr := frV_len (fixA n) 8
  by_cases h : 1 ≤ n ∧ n ≤ 5
  · have HV : Hid (cfV n = ((frV (fixA n) 8).length : Nat)) := by show cfV n = _; unfold cfV; rw [if_pos h]
    have HB := Lib.hid h
    clear h
    go_enter Tryz.func31, Tryz.ntmps31
    go_wp2_with fail
    refine (l1In_t n 1 5 _ HB.out.1 HB.out.2).mono ?_
    rintro e w1 ⟨rfl, hb1⟩
    go_wp2_with fail
    refine (FreeShapes_s n _).mono ?_
    obtain ⟨l, hl⟩ : ∃ l, frV (fixA n) 8 = l := ⟨_, rfl⟩
    rw [hl] at HV hfr ⊢
    rintro e w2 ⟨A, m, c, hs, rfl, hO, hb2⟩
    have hlm : l.length = m := hO.flen
    have HLM := Lib.hid hlm
    clear hO hl hlm hfr hfl
    go_wp2_with fail
    go_ret
    exact ⟨by rw [HV.out, HLM.out]; rfl, bel_trans hb1 hb2⟩
  · have HV : Hid (cfV n = -1) := by show cfV n = _; unfold cfV; rw [if_neg h]
    have HB := Lib.hid h
    clear h hfl hfr
    go_enter Tryz.func31, Tryz.ntmps31
    go_wp2_with fail
    refine (l1In_f n 1 5 _ HB.out).mono ?_
    rintro e w1 ⟨rfl, hb1⟩
    go_wp2_with fail
    go_ret
    exact ⟨by rw [HV.out]; rfl, hb1⟩
set_option maxHeartbeats 800000 in
theorem CountFree_i (n : Int) (w : World) : Calls Tryz.prog 30 #[.int .i64 n] w (Ret w (.int .i64 (cfV n))) := by
  have hfl := fixA_len2 n
  have hfr := frV_len (fixA n) 8
  by_cases h : 1 ≤ n ∧ n ≤ 5
  · have HV : Hid (cfV n = ((frV (fixA n) 8).length : Nat)) := by show cfV n = _; unfold cfV; rw [if_pos h]
    have HB := Lib.hid h
    clear h
    go_enter Tryz.func30, Tryz.ntmps30
    go_wp2_with fail
    refine (between_t n 1 5 _ HB.out.1 HB.out.2).mono ?_
    rintro e w1 ⟨rfl, hb1⟩
    go_wp2_with fail
    refine (FreeShapes_i n _).mono ?_
    obtain ⟨l, hl⟩ : ∃ l, frV (fixA n) 8 = l := ⟨_, rfl⟩
    rw [hl] at HV hfr ⊢
    rintro e w2 ⟨A, m, c, hs, rfl, hO, hb2⟩
    have hlm : l.length = m := hO.flen
    have HLM := Lib.hid hlm
    clear hO hl hlm hfr hfl
    go_wp2_with fail
    go_ret
    exact ⟨by rw [HV.out, HLM.out]; rfl, bel_trans hb1 hb2⟩
  · have HV : Hid (cfV n = -1) := by show cfV n = _; unfold cfV; rw [if_neg h]
    have HB := Lib.hid h
    clear h hfl hfr
    go_enter Tryz.func30, Tryz.ntmps30
    go_wp2_with fail
    refine (between_f n 1 5 _ HB.out).mono ?_
    rintro e w1 ⟨rfl, hb1⟩
    go_wp2_with fail
    go_ret
    exact ⟨by rw [HV.out]; rfl, hb1⟩
end Go.Proofs.YtkcgdnnipohehaaGreatDoor

/- Marks on the cells of a shape; blocks of booleans. -/
namespace Go.Proofs.YtkcgdnnipohehaaGreatDoor
open Go.RowKit
set_option linter.unusedVariables false
structure Marks (xs : List C) (fl : List Bool) : Prop where
  len : fl.length = xs.length
  h0 : fl[0]? = some true
  hin : ∀ i (h : i < xs.length), fl[i]? = some true → Rch xs (s0 xs) xs[i]
theorem Marks.init (xs : List C) (h : 1 ≤ xs.length) : Marks xs ((List.replicate xs.length false).set 0 true) := by
  refine ⟨by simp, by rw [List.getElem?_set_self (by simp; omega)], fun i hi hf => ?_⟩
  rcases Nat.eq_zero_or_pos i with rfl | h'
  · have : xs[0] = s0 xs := by simp [s0, List.getD_eq_getElem?_getD, hi]
    rw [this]; exact .base
  · rw [List.getElem?_set_ne (by omega), List.getElem?_replicate, if_pos hi] at hf
    cases hf
theorem cnt_init (n : Nat) (h : 1 ≤ n) : cnt ((List.replicate n false).set 0 true) = 1 := by
  rw [cnt_set _ _ (by rw [List.getElem?_replicate, if_pos (by omega)])]
  have : cnt (List.replicate n false) = 0 := by unfold cnt; rw [List.count_replicate]; rfl
  omega
theorem Marks.set_ {xs : List C} {fl : List Bool} (h : Marks xs fl) {k j : Nat} (hk : k < xs.length) (hj : j < xs.length) (hf : fl[k]? = some true) (hn : near xs[k] xs[j] = true) : Marks xs (fl.set j true) := by
  refine ⟨by rw [List.length_set]; exact h.len, ?_, fun i hi hg => ?_⟩
  · by_cases e : j = 0
    · subst e; rw [List.getElem?_set_self (by rw [h.len]; exact hj)]
    · rw [List.getElem?_set_ne e]; exact h.h0
  · by_cases e : j = i
    · subst e; exact .step (h.hin k hk hf) (List.getElem_mem hj) hn
    · rw [List.getElem?_set_ne e] at hg; exact h.hin i hi hg
def Cl (xs : List C) (fl : List Bool) (i j : Nat) : Prop :=
  ∀ a b (ha : a < xs.length) (hb : b < xs.length), (a < i ∨ a = i ∧ b < j) → fl[a]? = some true → near xs[a] xs[b] = true → fl[b]? = some true
theorem Cl.zero (xs : List C) (fl : List Bool) : Cl xs fl 0 0 := fun a b _ _ h => by omega
theorem Cl.row {xs : List C} {fl : List Bool} {k j : Nat} (h : Cl xs fl k j) (hj : xs.length ≤ j) : Cl xs fl (k + 1) 0 := fun a b ha hb h1 => h a b ha hb (by omega)
theorem Cl.step {xs : List C} {fl : List Bool} {k j : Nat} (h : Cl xs fl k j) (hk : k < xs.length) (hj : j < xs.length) (hs : fl[k]? = some true → near xs[k] xs[j] = true → fl[j]? = some true) : Cl xs fl k (j + 1) := by
  intro a b ha hb h1
  by_cases e : a = k ∧ b = j
  · obtain ⟨rfl, rfl⟩ := e; exact hs
  · exact h a b ha hb (by omega)
theorem conn_marks {xs : List C} {fl : List Bool} (h : Marks xs fl) (hs : isShape xs = true) {k : Nat} (hc : Cl xs fl k 0) (hk : xs.length ≤ k) : conn xs = decide (cnt fl = xs.length) :=
  conn_of_marks xs fl h.len h.h0 (shape_nodup hs) h.hin fun i j hi hj => hc i j hi hj (.inl (by omega))
def boolOf (v : Value) : Nat := match v with
  | .bool true => 1
  | _ => 0

def vL (xs : List Bool) : List Value := xs.map .bool
theorem vL_set (xs : List Bool) (k : Nat) (v : Bool) : (vL xs).toArray.setIfInBounds k (.bool v) = (vL (xs.set k v)).toArray := by
  simp [vL, List.map_set]
theorem blkL_cell {w : World} {g : Nat} {t : TypeId} {ys : List Bool} (h : Blk w g t (vL ys).toArray) {k : Nat} {b : Bool} (hk : ys[k]? = some b) : w.cell? ⟨g, k, none⟩ = some (.bool b) := by
  rw [h.cell k]; simp [vL, hk]
theorem blkL_set {w : World} {g : Nat} {t : TypeId} {ys : List Bool} (h : Blk w g t (vL ys).toArray) (k : Nat) (v : Bool) : Blk (w.setCell ⟨g, k, none⟩ (.bool v)) g t (vL (ys.set k v)).toArray := by
  rw [← vL_set]; exact h.set_ k _
theorem infoL : (Tryz.prog.info? 4).map (fun i => (i.zero, i.size, i.bytes)) = some (some (.bool false), 1, 1) := by kernel_rfl
theorem mk_L (w : World) (n : Nat) (hn : n ≤ 1048576) : (Instr.makeSlice 137 (.int .i64 (n : Int)) (.int .i64 (n : Int))).run Tryz.prog w = .ok (.slice (some ⟨w.heap.size, 0, none⟩) n n) (w.alloc (.cells (vL (List.replicate n false)).toArray 4)) := by
  obtain ⟨i0, hi, hz0, hz1, hz2⟩ := info_parts infoL
  have h := run_make (P := Tryz.prog) w 137 4 i0 _ Tryz.underlying137 hi hz0 .i64 .i64 (n : Int) (n : Int) (by omega) (Int.le_refl _) (by rw [hz2]; omega) (by omega)
  rw [h, hz1]
  have e : madeCells (Value.bool false).cells ((n : Int).toNat * 1) = (vL (List.replicate n false)).toArray := by
    apply Array.ext'
    rw [show (Value.bool false).cells = #[.bool false] from rfl, toList_madeCells_one]
    simp [vL]
  rw [e]
  simp
end Go.Proofs.YtkcgdnnipohehaaGreatDoor

/- The program's search for what hangs together. -/
namespace Go.Proofs.YtkcgdnnipohehaaGreatDoor
open Go.RowKit
set_option linter.unusedVariables false
attribute [local go_sem ↓] Go.wp_at_zero Go.wp_at_succ

set_option maxHeartbeats 1600000 in
theorem hangs_i (A : Option Addr) (n c : Nat) (xs : List C) (w : World) (hr : Rd w A (vC xs)) (hl : xs.length = n) (hs : isShape xs = true) :
    Calls Tryz.prog 102 #[.slice A n c] w (Ret w (.bool (conn xs))) := by
  have HL := Lib.hid hl
  have hlen := shape_len hs
  have hsm := shape_small hs
  have hn8 : n ≤ 8 := by omega
  have hn1 : 1 ≤ n := by omega
  have hnp : (0 : Int) < (n : Int) := by omega
  have hnz : ((n : Int) == 0) = false := by simp; omega
  have hmk := mk_L w n (by omega)
  have hM0 := Marks.init xs (by omega)
  have hC0 := cnt_init xs.length (by omega)
  rw [hl] at hM0 hC0
  have hB0 : Blk (w.alloc (.cells ((vL (List.replicate n false)).set 0 (.bool true)).toArray 4)) w.heap.size 4 (vL ((List.replicate n false).set 0 true)).toArray := by
    have h := Blk.new w 4 (vL ((List.replicate n false).set 0 true)).toArray
    rw [show vL ((List.replicate n false).set 0 true) = (vL (List.replicate n false)).set 0 (.bool true) from by simp [vL, List.map_set]] at h ⊢
    exact h
  have k0 : (w.alloc (.cells (vL (List.replicate n false)).toArray 4)).cell? ⟨w.heap.size, 0, none⟩ = some (.bool false) := blkL_cell (Blk.new _ _ _) (by rw [List.getElem?_replicate, if_pos (by omega)])
  have k0f : (w.alloc (.cells (vL (List.replicate n false)).toArray 4)).frozen? ⟨w.heap.size, 0, none⟩ = false := (Blk.new w 4 (vL (List.replicate n false)).toArray).frozen 0
  have HS := Lib.hid hs
  have HSM := Lib.hid hsm
  have HM0 := Lib.hid hM0
  have HC0 := Lib.hid hC0
  have HB0 := Lib.hid hB0
  clear hs hlen hsm hl hM0 hC0 hB0
  go_enter Tryz.func102, Tryz.ntmps102
  go_wp2
  go_loopw [5, 4] (fun m s wr => ∃ (fl : List Bool) (b : Bool) (q : Nat), m = .bool b ∧ s = .int .i64 q ∧ q = cnt fl ∧ q ≤ n ∧ Marks xs fl ∧ (b = false → Cl xs fl n 0) ∧ Blk wr w.heap.size 4 (vL fl).toArray ∧ Below w.heap.size w wr) (fun m s _ => n - (intOf s).toNat + boolOf m)
  case atStart => exact ⟨_, true, 1, rfl, rfl, HC0.out.symm, hn1, HM0.out, by simp, HB0.out, (by (repeat (first | with_reducible exact Below.refl _ _ | with_reducible assumption | with_reducible apply bel_alloc | with_reducible apply bel_drew | with_reducible apply bel_drewN | ((with_reducible refine bel_set ?_ ?_); rotate_left; (simp <;> omega)) | (with_reducible refine bel_trans ?_ (by with_reducible assumption)))))⟩
  case round =>
    clear hmk k0 k0f HM0 HC0 HB0
    obtain ⟨fl, b, q, rfl, rfl, hq, hqn, hM, hC, hB, hb⟩ := hrel
    cases b with
    | false =>
      have hv := conn_marks hM HS.out (hC rfl) (by rw [HL.out]; omega)
      rw [HL.out, ← hq] at hv
      have hv2 : conn xs = ((q : Int) == (n : Int)) := by
        rw [hv, Bool.eq_iff_iff, decide_eq_true_eq, beq_iff_eq]; omega
      have HV := Lib.hid hv2
      clear hv hv2 hC hM hB hq
      go_wp2
      go_ret
      exact ⟨by rw [HV.out]; rfl, (by (repeat (first | with_reducible exact Below.refl _ _ | with_reducible assumption | with_reducible apply bel_alloc | with_reducible apply bel_drew | with_reducible apply bel_drewN | ((with_reducible refine bel_set ?_ ?_); rotate_left; (simp <;> omega)) | (with_reducible refine bel_trans ?_ (by with_reducible assumption)))))⟩
    | true =>
      have HQ := Lib.hid hq
      have HM := Lib.hid hM
      have HB := Lib.hid hB
      clear hq hM hB hC
      go_wp2
      go_loopw [19, 5, 4] (fun i m s wr => ∃ (k : Nat) (fl : List Bool) (b : Bool) (p : Nat), k ≤ n ∧ i = .int .i64 k ∧ m = .bool b ∧ s = .int .i64 p ∧ p = cnt fl ∧ p ≤ n ∧ q ≤ p ∧ (b = true → q < p) ∧ Marks xs fl ∧ (b = false → Cl xs fl k 0) ∧ Blk wr w.heap.size 4 (vL fl).toArray ∧ Below w.heap.size w wr) (fun i _ _ _ => n - (intOf i).toNat)
      case atStart => exact ⟨0, fl, false, q, Nat.zero_le _, rfl, rfl, rfl, HQ.out, hqn, Nat.le_refl _, by simp, HM.out, fun _ => Cl.zero _ _, HB.out, hb⟩
      case round =>
        clear HQ HM HB hb hqn
        obtain ⟨k, fl, b, p, hk, rfl, rfl, rfl, hp, hpn, hqp, hbq, hM, hC, hB, hb⟩ := hrel
        by_cases hlt : k < n
        · have HP := Lib.hid hp
          have HM := Lib.hid hM
          have HB := Lib.hid hB
          have HC := Lib.hid hC
          have HBQ := Lib.hid hbq
          clear hp hM hB hC hbq
          go_wp2
          go_loopw [24, 5, 4] (fun i m s wr => ∃ (j : Nat) (fl : List Bool) (b : Bool) (p : Nat), j ≤ n ∧ i = .int .i64 j ∧ m = .bool b ∧ s = .int .i64 p ∧ p = cnt fl ∧ p ≤ n ∧ q ≤ p ∧ (b = true → q < p) ∧ Marks xs fl ∧ (b = false → Cl xs fl k j) ∧ Blk wr w.heap.size 4 (vL fl).toArray ∧ Below w.heap.size w wr) (fun i _ _ _ => n - (intOf i).toNat)
          case atStart => exact ⟨0, fl, b, p, Nat.zero_le _, rfl, rfl, rfl, HP.out, hpn, hqp, HBQ.out, HM.out, HC.out, HB.out, hb⟩
          case round =>
            clear HP HM HB HC HBQ hb hpn hqp
            obtain ⟨j, fl, b, p, hj, rfl, rfl, rfl, hp, hpn, hqp, hbq, hM, hC, hB, hb⟩ := hrel
            by_cases hlj : j < n
            · have hkx : k < xs.length := by rw [HL.out]; omega
              have hjx : j < xs.length := by rw [HL.out]; omega
              have hrw := hr.below hb
              obtain ⟨g, off, rfl, hgw, c1, c2⟩ := RdC.at_ hrw hkx
              have d12 : wr.cell? ⟨g, off + j * 2, none⟩ = some (.int .i64 xs[j].1) ∧ wr.cell? ⟨g, off + j * 2 + 1, none⟩ = some (.int .i64 xs[j].2) := by
                obtain ⟨g', off', e, _, h1, h2⟩ := RdC.at_ hrw hjx
                simp only [Option.some.injEq, Addr.mk.injEq, and_true] at e
                obtain ⟨rfl, rfl⟩ := e
                exact ⟨h1, h2⟩
              obtain ⟨d1, d2⟩ := d12
              have hne := nearI_eq (HSM.out _ (List.getElem_mem hkx)) (HSM.out _ (List.getElem_mem hjx))
              obtain ⟨f1, hf1⟩ : ∃ f1, fl[k]? = some f1 := ⟨_, List.getElem?_eq_getElem (by rw [hM.len]; exact hkx)⟩
              obtain ⟨f2, hf2⟩ : ∃ f2, fl[j]? = some f2 := ⟨_, List.getElem?_eq_getElem (by rw [hM.len]; exact hjx)⟩
              have b1 := blkL_cell hB hf1
              have b2 := blkL_cell hB hf2
              have HNX : Hid (f1 = true → near xs[k] xs[j] = true → Marks xs (fl.set j true)) := fun h1 h2 => hM.set_ hkx hjx (by rw [hf1, h1]) h2
              have HCN : Hid ((f1 && (!f2 && near xs[k] xs[j])) = false → b = false → Cl xs fl k (j + 1)) := fun h1 h2 => (hC h2).step hkx hjx fun h3 h4 => by
                rw [hf1] at h3; injection h3 with h3
                rw [h3, h4] at h1
                rw [hf2]; simpa using h1
              have HCT : Hid (f2 = false → cnt (fl.set j true) = p + 1) := fun h => by rw [cnt_set _ _ (by rw [hf2, h]), ← hp]
              have HLE : Hid (Marks xs (fl.set j true) → f2 = false → p + 1 ≤ n) := fun h1 h2 => by
                have := cnt_le (fl.set j true)
                rw [h1.len, HL.out, cnt_set _ _ (by rw [hf2, h2]), ← hp] at this
                exact this
              obtain ⟨⟨x, y⟩, hx⟩ : ∃ p, xs[k] = p := ⟨_, rfl⟩
              obtain ⟨⟨x', y'⟩, hx'⟩ : ∃ p, xs[j] = p := ⟨_, rfl⟩
              rw [hx] at c1 c2
              rw [hx'] at d1 d2
              rw [hx, hx'] at hne HNX HCN
              have hi0 : (0 : Int) ≤ (k : Int) := by omega
              have hi1 : (k : Int) < (n : Int) := by omega
              have hi2 : (0 : Int) ≤ (j : Int) := by omega
              have hi3 : (j : Int) < (n : Int) := by omega
              have hgl := hB.lt
              have hfz := hB.frozen j
              have HP := Lib.hid hp
              have HM := Lib.hid hM
              have HB := Lib.hid hB
              have HC := Lib.hid hC
              have HBQ := Lib.hid hbq
              have HW := Lib.hid hne
              clear hp hM hB hC hbq hne hx hx' hf1 hf2
              go_upto_region 15 with fail
              go_cut [48] (fun s wx => s = .bool (f1 && (!f2 && near (x, y) (x', y'))) ∧ Below wr.heap.size wr wx)
              case first =>
                cases f1 with
                | false =>
                  refine wp_region_noPanic ?_
                  refine wp_region_held_drew (S := (fun w' => w'.cell? ⟨w.heap.size, k, none⟩ = some (.bool false) ∧ w'.cell? ⟨w.heap.size, j, none⟩ = some (.bool f2) ∧ w'.cell? ⟨g, off + k * 2, none⟩ = some (.int .i64 x) ∧ w'.cell? ⟨g, off + k * 2 + 1, none⟩ = some (.int .i64 y) ∧ w'.cell? ⟨g, off + j * 2, none⟩ = some (.int .i64 x') ∧ w'.cell? ⟨g, off + j * 2 + 1, none⟩ = some (.int .i64 y'))) (by kernel_rfl) ?_ (fun hS => ?_)
                  · ((go_split_ands; (try dsimp only); (repeat' (with_reducible apply And.intro)) <;> (repeat (first | with_reducible assumption | with_reducible apply keep_alloc | with_reducible apply keep_drew | with_reducible refine keep_below hb1 ?_ | ((with_reducible refine keep_set ?_ ?_); rotate_left; (simp <;> omega))))))
                  refine wpT (i := 0) (v := ?_) rfl rfl (by kernel_rfl) (by kernel_rfl) (by kernel_rfl) (fun _ _ _ h => h) (Or.inl ⟨by rfl, ?_⟩) hS ?_
                  rotate_left
                  · (intro w hSw; (try dsimp only at hSw); go_simp; first | done | with_reducible rfl)
                  simp only [List.setIfInBounds_toArray, List.set_cons_zero, List.set_cons_succ]
                  refine wpT (i := 1) (v := ?_) rfl rfl (by kernel_rfl) (by kernel_rfl) (by kernel_rfl) (fun _ _ _ h => h) (Or.inl ⟨by rfl, ?_⟩) hS ?_
                  rotate_left
                  · (intro w hSw; (try dsimp only at hSw); go_simp; first | done | with_reducible rfl)
                  simp only [List.setIfInBounds_toArray, List.set_cons_zero, List.set_cons_succ]
                  refine wpT (i := 2) (v := ?_) rfl rfl (by kernel_rfl) (by kernel_rfl) (by kernel_rfl) (fun _ _ _ h => h) (Or.inl ⟨by rfl, ?_⟩) hS ?_
                  rotate_left
                  · (intro w hSw; (try dsimp only at hSw); go_simp; first | done | with_reducible rfl)
                  simp only [List.setIfInBounds_toArray, List.set_cons_zero, List.set_cons_succ]
                  refine wpT (i := 3) (v := ?_) rfl rfl (by kernel_rfl) (by kernel_rfl) (by kernel_rfl) (fun _ _ _ h => h) (Or.inl ⟨by rfl, ?_⟩) hS ?_
                  rotate_left
                  · (intro w hSw; (try dsimp only at hSw); go_simp; first | done | with_reducible rfl)
                  simp only [List.setIfInBounds_toArray, List.set_cons_zero, List.set_cons_succ]
                  refine wpT (i := 4) (v := ?_) rfl rfl (by kernel_rfl) (by kernel_rfl) (by kernel_rfl) (fun _ _ _ h => h) (Or.inl ⟨by rfl, ?_⟩) hS ?_
                  rotate_left
                  · (intro w hSw; (try dsimp only at hSw); go_simp; first | done | with_reducible rfl)
                  simp only [List.setIfInBounds_toArray, List.set_cons_zero, List.set_cons_succ]
                  refine wpT (i := 5) (v := undef) rfl rfl (by kernel_rfl) (by kernel_rfl) (by kernel_rfl) (fun _ _ _ h => h) (Or.inr ⟨by rfl, rfl⟩) hS ?_
                  simp only [List.setIfInBounds_toArray, List.set_cons_zero, List.set_cons_succ]
                  refine wpT (i := 6) (v := undef) rfl rfl (by kernel_rfl) (by kernel_rfl) (by kernel_rfl) (fun _ _ _ h => h) (Or.inr ⟨by rfl, rfl⟩) hS ?_
                  simp only [List.setIfInBounds_toArray, List.set_cons_zero, List.set_cons_succ]
                  refine wpT (i := 7) (v := undef) rfl rfl (by kernel_rfl) (by kernel_rfl) (by kernel_rfl) (fun _ _ _ h => h) (Or.inr ⟨by rfl, rfl⟩) hS ?_
                  simp only [List.setIfInBounds_toArray, List.set_cons_zero, List.set_cons_succ]
                  refine wpT (i := 8) (v := undef) rfl rfl (by kernel_rfl) (by kernel_rfl) (by kernel_rfl) (fun _ _ _ h => h) (Or.inr ⟨by rfl, rfl⟩) hS ?_
                  simp only [List.setIfInBounds_toArray, List.set_cons_zero, List.set_cons_succ]
                  refine wpT (i := 9) (v := undef) rfl rfl (by kernel_rfl) (by kernel_rfl) (by kernel_rfl) (fun _ _ _ h => h) (Or.inr ⟨by rfl, rfl⟩) hS ?_
                  simp only [List.setIfInBounds_toArray, List.set_cons_zero, List.set_cons_succ]
                  refine wpT (i := 10) (v := ?_) rfl rfl (by kernel_rfl) (by kernel_rfl) (by kernel_rfl) (fun _ _ _ h => h) (Or.inl ⟨by rfl, ?_⟩) hS ?_
                  rotate_left
                  · (intro w hSw; (try dsimp only at hSw); go_simp; first | done | with_reducible rfl)
                  simp only [List.setIfInBounds_toArray, List.set_cons_zero, List.set_cons_succ]
                  refine wpT (i := 11) (v := ?_) rfl rfl (by kernel_rfl) (by kernel_rfl) (by kernel_rfl) (fun _ _ _ h => h) (Or.inl ⟨by rfl, ?_⟩) hS ?_
                  rotate_left
                  · (intro w hSw; (try dsimp only at hSw); go_simp; first | done | with_reducible rfl)
                  simp only [List.setIfInBounds_toArray, List.set_cons_zero, List.set_cons_succ]
                  refine wpT (i := 12) (v := undef) rfl rfl (by kernel_rfl) (by kernel_rfl) (by kernel_rfl) (fun _ _ _ h => h) (Or.inr ⟨by rfl, rfl⟩) hS ?_
                  simp only [List.setIfInBounds_toArray, List.set_cons_zero, List.set_cons_succ]
                  refine wpT (i := 13) (v := undef) rfl rfl (by kernel_rfl) (by kernel_rfl) (by kernel_rfl) (fun _ _ _ h => h) (Or.inr ⟨by rfl, rfl⟩) hS ?_
                  simp only [List.setIfInBounds_toArray, List.set_cons_zero, List.set_cons_succ]
                  refine wpT (i := 14) (v := undef) rfl rfl (by kernel_rfl) (by kernel_rfl) (by kernel_rfl) (fun _ _ _ h => h) (Or.inr ⟨by rfl, rfl⟩) hS ?_
                  simp only [List.setIfInBounds_toArray, List.set_cons_zero, List.set_cons_succ]
                  refine wpT (i := 15) (v := undef) rfl rfl (by kernel_rfl) (by kernel_rfl) (by kernel_rfl) (fun _ _ _ h => h) (Or.inr ⟨by rfl, rfl⟩) hS ?_
                  simp only [List.setIfInBounds_toArray, List.set_cons_zero, List.set_cons_succ]
                  refine wpT (i := 16) (v := undef) rfl rfl (by kernel_rfl) (by kernel_rfl) (by kernel_rfl) (fun _ _ _ h => h) (Or.inr ⟨by rfl, rfl⟩) hS ?_
                  simp only [List.setIfInBounds_toArray, List.set_cons_zero, List.set_cons_succ]
                  refine wpT (i := 17) (v := undef) rfl rfl (by kernel_rfl) (by kernel_rfl) (by kernel_rfl) (fun _ _ _ h => h) (Or.inr ⟨by rfl, rfl⟩) hS ?_
                  simp only [List.setIfInBounds_toArray, List.set_cons_zero, List.set_cons_succ]
                  refine wpT (i := 18) (v := undef) rfl rfl (by kernel_rfl) (by kernel_rfl) (by kernel_rfl) (fun _ _ _ h => h) (Or.inr ⟨by rfl, rfl⟩) hS ?_
                  simp only [List.setIfInBounds_toArray, List.set_cons_zero, List.set_cons_succ]
                  refine wpT (i := 19) (v := undef) rfl rfl (by kernel_rfl) (by kernel_rfl) (by kernel_rfl) (fun _ _ _ h => h) (Or.inr ⟨by rfl, rfl⟩) hS ?_
                  simp only [List.setIfInBounds_toArray, List.set_cons_zero, List.set_cons_succ]
                  refine wpT (i := 20) (v := undef) rfl rfl (by kernel_rfl) (by kernel_rfl) (by kernel_rfl) (fun _ _ _ h => h) (Or.inr ⟨by rfl, rfl⟩) hS ?_
                  simp only [List.setIfInBounds_toArray, List.set_cons_zero, List.set_cons_succ]
                  refine wpT (i := 21) (v := ?_) rfl rfl (by kernel_rfl) (by kernel_rfl) (by kernel_rfl) (fun _ _ _ h => h) (Or.inl ⟨by rfl, ?_⟩) hS ?_
                  rotate_left
                  · (intro w hSw; (try dsimp only at hSw); go_simp; first | done | with_reducible rfl)
                  simp only [List.setIfInBounds_toArray, List.set_cons_zero, List.set_cons_succ]
                  refine wpAnyH_done (by kernel_rfl) ?_ _
                  refine NoPanic.normal ?_
                  go_wp2_with fail
                  go_meet
                  exact ⟨rfl, (by (repeat (first | with_reducible exact Below.refl _ _ | with_reducible assumption | with_reducible apply bel_alloc | with_reducible apply bel_drew | with_reducible apply bel_drewN | ((with_reducible refine bel_set ?_ ?_); rotate_left; (simp <;> omega)) | (with_reducible refine bel_trans ?_ (by with_reducible assumption)))))⟩
                | true =>
                  cases f2 with
                  | true =>
                    refine wp_region_noPanic ?_
                    refine wp_region_held_drew (S := (fun w' => w'.cell? ⟨w.heap.size, k, none⟩ = some (.bool true) ∧ w'.cell? ⟨w.heap.size, j, none⟩ = some (.bool true) ∧ w'.cell? ⟨g, off + k * 2, none⟩ = some (.int .i64 x) ∧ w'.cell? ⟨g, off + k * 2 + 1, none⟩ = some (.int .i64 y) ∧ w'.cell? ⟨g, off + j * 2, none⟩ = some (.int .i64 x') ∧ w'.cell? ⟨g, off + j * 2 + 1, none⟩ = some (.int .i64 y'))) (by kernel_rfl) ?_ (fun hS => ?_)
                    · ((go_split_ands; (try dsimp only); (repeat' (with_reducible apply And.intro)) <;> (repeat (first | with_reducible assumption | with_reducible apply keep_alloc | with_reducible apply keep_drew | with_reducible refine keep_below hb1 ?_ | ((with_reducible refine keep_set ?_ ?_); rotate_left; (simp <;> omega))))))
                    refine wpT (i := 0) (v := ?_) rfl rfl (by kernel_rfl) (by kernel_rfl) (by kernel_rfl) (fun _ _ _ h => h) (Or.inl ⟨by rfl, ?_⟩) hS ?_
                    rotate_left
                    · (intro w hSw; (try dsimp only at hSw); go_simp; first | done | with_reducible rfl)
                    simp only [List.setIfInBounds_toArray, List.set_cons_zero, List.set_cons_succ]
                    refine wpT (i := 1) (v := ?_) rfl rfl (by kernel_rfl) (by kernel_rfl) (by kernel_rfl) (fun _ _ _ h => h) (Or.inl ⟨by rfl, ?_⟩) hS ?_
                    rotate_left
                    · (intro w hSw; (try dsimp only at hSw); go_simp; first | done | with_reducible rfl)
                    simp only [List.setIfInBounds_toArray, List.set_cons_zero, List.set_cons_succ]
                    refine wpT (i := 2) (v := ?_) rfl rfl (by kernel_rfl) (by kernel_rfl) (by kernel_rfl) (fun _ _ _ h => h) (Or.inl ⟨by rfl, ?_⟩) hS ?_
                    rotate_left
                    · (intro w hSw; (try dsimp only at hSw); go_simp; first | done | with_reducible rfl)
                    simp only [List.setIfInBounds_toArray, List.set_cons_zero, List.set_cons_succ]
                    refine wpT (i := 3) (v := ?_) rfl rfl (by kernel_rfl) (by kernel_rfl) (by kernel_rfl) (fun _ _ _ h => h) (Or.inl ⟨by rfl, ?_⟩) hS ?_
                    rotate_left
                    · (intro w hSw; (try dsimp only at hSw); go_simp; first | done | with_reducible rfl)
                    simp only [List.setIfInBounds_toArray, List.set_cons_zero, List.set_cons_succ]
                    refine wpT (i := 4) (v := ?_) rfl rfl (by kernel_rfl) (by kernel_rfl) (by kernel_rfl) (fun _ _ _ h => h) (Or.inl ⟨by rfl, ?_⟩) hS ?_
                    rotate_left
                    · (intro w hSw; (try dsimp only at hSw); go_simp; first | done | with_reducible rfl)
                    simp only [List.setIfInBounds_toArray, List.set_cons_zero, List.set_cons_succ]
                    refine wpT (i := 5) (v := ?_) rfl rfl (by kernel_rfl) (by kernel_rfl) (by kernel_rfl) (fun _ _ _ h => h) (Or.inl ⟨by rfl, ?_⟩) hS ?_
                    rotate_left
                    · (intro w hSw; (try dsimp only at hSw); go_simp; first | done | with_reducible rfl)
                    simp only [List.setIfInBounds_toArray, List.set_cons_zero, List.set_cons_succ]
                    refine wpT (i := 6) (v := ?_) rfl rfl (by kernel_rfl) (by kernel_rfl) (by kernel_rfl) (fun _ _ _ h => h) (Or.inl ⟨by rfl, ?_⟩) hS ?_
                    rotate_left
                    · (intro w hSw; (try dsimp only at hSw); go_simp; first | done | with_reducible rfl)
                    simp only [List.setIfInBounds_toArray, List.set_cons_zero, List.set_cons_succ]
                    refine wpT (i := 7) (v := ?_) rfl rfl (by kernel_rfl) (by kernel_rfl) (by kernel_rfl) (fun _ _ _ h => h) (Or.inl ⟨by rfl, ?_⟩) hS ?_
                    rotate_left
                    · (intro w hSw; (try dsimp only at hSw); go_simp; first | done | with_reducible rfl)
                    simp only [List.setIfInBounds_toArray, List.set_cons_zero, List.set_cons_succ]
                    refine wpT (i := 8) (v := ?_) rfl rfl (by kernel_rfl) (by kernel_rfl) (by kernel_rfl) (fun _ _ _ h => h) (Or.inl ⟨by rfl, ?_⟩) hS ?_
                    rotate_left
                    · (intro w hSw; (try dsimp only at hSw); go_simp; first | done | with_reducible rfl)
                    simp only [List.setIfInBounds_toArray, List.set_cons_zero, List.set_cons_succ]
                    refine wpT (i := 9) (v := ?_) rfl rfl (by kernel_rfl) (by kernel_rfl) (by kernel_rfl) (fun _ _ _ h => h) (Or.inl ⟨by rfl, ?_⟩) hS ?_
                    rotate_left
                    · (intro w hSw; (try dsimp only at hSw); go_simp; first | done | with_reducible rfl)
                    simp only [List.setIfInBounds_toArray, List.set_cons_zero, List.set_cons_succ]
                    refine wpT (i := 10) (v := ?_) rfl rfl (by kernel_rfl) (by kernel_rfl) (by kernel_rfl) (fun _ _ _ h => h) (Or.inl ⟨by rfl, ?_⟩) hS ?_
                    rotate_left
                    · (intro w hSw; (try dsimp only at hSw); go_simp; first | done | with_reducible rfl)
                    simp only [List.setIfInBounds_toArray, List.set_cons_zero, List.set_cons_succ]
                    refine wpT (i := 11) (v := ?_) rfl rfl (by kernel_rfl) (by kernel_rfl) (by kernel_rfl) (fun _ _ _ h => h) (Or.inl ⟨by rfl, ?_⟩) hS ?_
                    rotate_left
                    · (intro w hSw; (try dsimp only at hSw); go_simp; first | done | with_reducible rfl)
                    simp only [List.setIfInBounds_toArray, List.set_cons_zero, List.set_cons_succ]
                    refine wpT (i := 12) (v := undef) rfl rfl (by kernel_rfl) (by kernel_rfl) (by kernel_rfl) (fun _ _ _ h => h) (Or.inr ⟨by rfl, rfl⟩) hS ?_
                    simp only [List.setIfInBounds_toArray, List.set_cons_zero, List.set_cons_succ]
                    refine wpT (i := 13) (v := undef) rfl rfl (by kernel_rfl) (by kernel_rfl) (by kernel_rfl) (fun _ _ _ h => h) (Or.inr ⟨by rfl, rfl⟩) hS ?_
                    simp only [List.setIfInBounds_toArray, List.set_cons_zero, List.set_cons_succ]
                    refine wpT (i := 14) (v := undef) rfl rfl (by kernel_rfl) (by kernel_rfl) (by kernel_rfl) (fun _ _ _ h => h) (Or.inr ⟨by rfl, rfl⟩) hS ?_
                    simp only [List.setIfInBounds_toArray, List.set_cons_zero, List.set_cons_succ]
                    refine wpT (i := 15) (v := undef) rfl rfl (by kernel_rfl) (by kernel_rfl) (by kernel_rfl) (fun _ _ _ h => h) (Or.inr ⟨by rfl, rfl⟩) hS ?_
                    simp only [List.setIfInBounds_toArray, List.set_cons_zero, List.set_cons_succ]
                    refine wpT (i := 16) (v := undef) rfl rfl (by kernel_rfl) (by kernel_rfl) (by kernel_rfl) (fun _ _ _ h => h) (Or.inr ⟨by rfl, rfl⟩) hS ?_
                    simp only [List.setIfInBounds_toArray, List.set_cons_zero, List.set_cons_succ]
                    refine wpT (i := 17) (v := undef) rfl rfl (by kernel_rfl) (by kernel_rfl) (by kernel_rfl) (fun _ _ _ h => h) (Or.inr ⟨by rfl, rfl⟩) hS ?_
                    simp only [List.setIfInBounds_toArray, List.set_cons_zero, List.set_cons_succ]
                    refine wpT (i := 18) (v := undef) rfl rfl (by kernel_rfl) (by kernel_rfl) (by kernel_rfl) (fun _ _ _ h => h) (Or.inr ⟨by rfl, rfl⟩) hS ?_
                    simp only [List.setIfInBounds_toArray, List.set_cons_zero, List.set_cons_succ]
                    refine wpT (i := 19) (v := undef) rfl rfl (by kernel_rfl) (by kernel_rfl) (by kernel_rfl) (fun _ _ _ h => h) (Or.inr ⟨by rfl, rfl⟩) hS ?_
                    simp only [List.setIfInBounds_toArray, List.set_cons_zero, List.set_cons_succ]
                    refine wpT (i := 20) (v := undef) rfl rfl (by kernel_rfl) (by kernel_rfl) (by kernel_rfl) (fun _ _ _ h => h) (Or.inr ⟨by rfl, rfl⟩) hS ?_
                    simp only [List.setIfInBounds_toArray, List.set_cons_zero, List.set_cons_succ]
                    refine wpT (i := 21) (v := ?_) rfl rfl (by kernel_rfl) (by kernel_rfl) (by kernel_rfl) (fun _ _ _ h => h) (Or.inl ⟨by rfl, ?_⟩) hS ?_
                    rotate_left
                    · (intro w hSw; (try dsimp only at hSw); go_simp; first | done | with_reducible rfl)
                    simp only [List.setIfInBounds_toArray, List.set_cons_zero, List.set_cons_succ]
                    refine wpAnyH_done (by kernel_rfl) ?_ _
                    refine NoPanic.normal ?_
                    go_wp2_with fail
                    go_meet
                    exact ⟨rfl, (by (repeat (first | with_reducible exact Below.refl _ _ | with_reducible assumption | with_reducible apply bel_alloc | with_reducible apply bel_drew | with_reducible apply bel_drewN | ((with_reducible refine bel_set ?_ ?_); rotate_left; (simp <;> omega)) | (with_reducible refine bel_trans ?_ (by with_reducible assumption)))))⟩
                  | false =>
                    refine wp_region_noPanic ?_
                    refine wp_region_held_drew (S := (fun w' => w'.cell? ⟨w.heap.size, k, none⟩ = some (.bool true) ∧ w'.cell? ⟨w.heap.size, j, none⟩ = some (.bool false) ∧ w'.cell? ⟨g, off + k * 2, none⟩ = some (.int .i64 x) ∧ w'.cell? ⟨g, off + k * 2 + 1, none⟩ = some (.int .i64 y) ∧ w'.cell? ⟨g, off + j * 2, none⟩ = some (.int .i64 x') ∧ w'.cell? ⟨g, off + j * 2 + 1, none⟩ = some (.int .i64 y'))) (by kernel_rfl) ?_ (fun hS => ?_)
                    · ((go_split_ands; (try dsimp only); (repeat' (with_reducible apply And.intro)) <;> (repeat (first | with_reducible assumption | with_reducible apply keep_alloc | with_reducible apply keep_drew | with_reducible refine keep_below hb1 ?_ | ((with_reducible refine keep_set ?_ ?_); rotate_left; (simp <;> omega))))))
                    refine wpT (i := 0) (v := ?_) rfl rfl (by kernel_rfl) (by kernel_rfl) (by kernel_rfl) (fun _ _ _ h => h) (Or.inl ⟨by rfl, ?_⟩) hS ?_
                    rotate_left
                    · (intro w hSw; (try dsimp only at hSw); go_simp; first | done | with_reducible rfl)
                    simp only [List.setIfInBounds_toArray, List.set_cons_zero, List.set_cons_succ]
                    refine wpT (i := 1) (v := ?_) rfl rfl (by kernel_rfl) (by kernel_rfl) (by kernel_rfl) (fun _ _ _ h => h) (Or.inl ⟨by rfl, ?_⟩) hS ?_
                    rotate_left
                    · (intro w hSw; (try dsimp only at hSw); go_simp; first | done | with_reducible rfl)
                    simp only [List.setIfInBounds_toArray, List.set_cons_zero, List.set_cons_succ]
                    refine wpT (i := 2) (v := ?_) rfl rfl (by kernel_rfl) (by kernel_rfl) (by kernel_rfl) (fun _ _ _ h => h) (Or.inl ⟨by rfl, ?_⟩) hS ?_
                    rotate_left
                    · (intro w hSw; (try dsimp only at hSw); go_simp; first | done | with_reducible rfl)
                    simp only [List.setIfInBounds_toArray, List.set_cons_zero, List.set_cons_succ]
                    refine wpT (i := 3) (v := ?_) rfl rfl (by kernel_rfl) (by kernel_rfl) (by kernel_rfl) (fun _ _ _ h => h) (Or.inl ⟨by rfl, ?_⟩) hS ?_
                    rotate_left
                    · (intro w hSw; (try dsimp only at hSw); go_simp; first | done | with_reducible rfl)
                    simp only [List.setIfInBounds_toArray, List.set_cons_zero, List.set_cons_succ]
                    refine wpT (i := 4) (v := ?_) rfl rfl (by kernel_rfl) (by kernel_rfl) (by kernel_rfl) (fun _ _ _ h => h) (Or.inl ⟨by rfl, ?_⟩) hS ?_
                    rotate_left
                    · (intro w hSw; (try dsimp only at hSw); go_simp; first | done | with_reducible rfl)
                    simp only [List.setIfInBounds_toArray, List.set_cons_zero, List.set_cons_succ]
                    refine wpT (i := 5) (v := ?_) rfl rfl (by kernel_rfl) (by kernel_rfl) (by kernel_rfl) (fun _ _ _ h => h) (Or.inl ⟨by rfl, ?_⟩) hS ?_
                    rotate_left
                    · (intro w hSw; (try dsimp only at hSw); go_simp; first | done | with_reducible rfl)
                    simp only [List.setIfInBounds_toArray, List.set_cons_zero, List.set_cons_succ]
                    refine wpT (i := 6) (v := ?_) rfl rfl (by kernel_rfl) (by kernel_rfl) (by kernel_rfl) (fun _ _ _ h => h) (Or.inl ⟨by rfl, ?_⟩) hS ?_
                    rotate_left
                    · (intro w hSw; (try dsimp only at hSw); go_simp; first | done | with_reducible rfl)
                    simp only [List.setIfInBounds_toArray, List.set_cons_zero, List.set_cons_succ]
                    refine wpT (i := 7) (v := ?_) rfl rfl (by kernel_rfl) (by kernel_rfl) (by kernel_rfl) (fun _ _ _ h => h) (Or.inl ⟨by rfl, ?_⟩) hS ?_
                    rotate_left
                    · (intro w hSw; (try dsimp only at hSw); go_simp; first | done | with_reducible rfl)
                    simp only [List.setIfInBounds_toArray, List.set_cons_zero, List.set_cons_succ]
                    refine wpT (i := 8) (v := ?_) rfl rfl (by kernel_rfl) (by kernel_rfl) (by kernel_rfl) (fun _ _ _ h => h) (Or.inl ⟨by rfl, ?_⟩) hS ?_
                    rotate_left
                    · (intro w hSw; (try dsimp only at hSw); go_simp; first | done | with_reducible rfl)
                    simp only [List.setIfInBounds_toArray, List.set_cons_zero, List.set_cons_succ]
                    refine wpT (i := 9) (v := ?_) rfl rfl (by kernel_rfl) (by kernel_rfl) (by kernel_rfl) (fun _ _ _ h => h) (Or.inl ⟨by rfl, ?_⟩) hS ?_
                    rotate_left
                    · (intro w hSw; (try dsimp only at hSw); go_simp; first | done | with_reducible rfl)
                    simp only [List.setIfInBounds_toArray, List.set_cons_zero, List.set_cons_succ]
                    refine wpT (i := 10) (v := ?_) rfl rfl (by kernel_rfl) (by kernel_rfl) (by kernel_rfl) (fun _ _ _ h => h) (Or.inl ⟨by rfl, ?_⟩) hS ?_
                    rotate_left
                    · (intro w hSw; (try dsimp only at hSw); go_simp; first | done | with_reducible rfl)
                    simp only [List.setIfInBounds_toArray, List.set_cons_zero, List.set_cons_succ]
                    refine wpT (i := 11) (v := ?_) rfl rfl (by kernel_rfl) (by kernel_rfl) (by kernel_rfl) (fun _ _ _ h => h) (Or.inl ⟨by rfl, ?_⟩) hS ?_
                    rotate_left
                    · (intro w hSw; (try dsimp only at hSw); go_simp; first | done | with_reducible rfl)
                    simp only [List.setIfInBounds_toArray, List.set_cons_zero, List.set_cons_succ]
                    refine wpT (i := 12) (v := ?_) rfl rfl (by kernel_rfl) (by kernel_rfl) (by kernel_rfl) (fun _ _ _ h => h) (Or.inl ⟨by rfl, ?_⟩) hS ?_
                    rotate_left
                    · (intro w hSw; (try dsimp only at hSw); go_simp; first | done | with_reducible rfl)
                    simp only [List.setIfInBounds_toArray, List.set_cons_zero, List.set_cons_succ]
                    refine wpT (i := 13) (v := ?_) rfl rfl (by kernel_rfl) (by kernel_rfl) (by kernel_rfl) (fun _ _ _ h => h) (Or.inl ⟨by rfl, ?_⟩) hS ?_
                    rotate_left
                    · (intro w hSw; (try dsimp only at hSw); go_simp; first | done | with_reducible rfl)
                    simp only [List.setIfInBounds_toArray, List.set_cons_zero, List.set_cons_succ]
                    refine wpT (i := 14) (v := ?_) rfl rfl (by kernel_rfl) (by kernel_rfl) (by kernel_rfl) (fun _ _ _ h => h) (Or.inl ⟨by rfl, ?_⟩) hS ?_
                    rotate_left
                    · (intro w hSw; (try dsimp only at hSw); go_simp; first | done | with_reducible rfl)
                    simp only [List.setIfInBounds_toArray, List.set_cons_zero, List.set_cons_succ]
                    refine wpT (i := 15) (v := ?_) rfl rfl (by kernel_rfl) (by kernel_rfl) (by kernel_rfl) (fun _ _ _ h => h) (Or.inl ⟨by rfl, ?_⟩) hS ?_
                    rotate_left
                    · (intro w hSw; (try dsimp only at hSw); go_simp; first | done | with_reducible rfl)
                    simp only [List.setIfInBounds_toArray, List.set_cons_zero, List.set_cons_succ]
                    refine wpT (i := 16) (v := ?_) rfl rfl (by kernel_rfl) (by kernel_rfl) (by kernel_rfl) (fun _ _ _ h => h) (Or.inl ⟨by rfl, ?_⟩) hS ?_
                    rotate_left
                    · (intro w hSw; (try dsimp only at hSw); go_simp; first | done | with_reducible rfl)
                    simp only [List.setIfInBounds_toArray, List.set_cons_zero, List.set_cons_succ]
                    refine wpT (i := 17) (v := ?_) rfl rfl (by kernel_rfl) (by kernel_rfl) (by kernel_rfl) (fun _ _ _ h => h) (Or.inl ⟨by rfl, ?_⟩) hS ?_
                    rotate_left
                    · (intro w hSw; (try dsimp only at hSw); go_simp; first | done | with_reducible rfl)
                    simp only [List.setIfInBounds_toArray, List.set_cons_zero, List.set_cons_succ]
                    refine wpT (i := 18) (v := ?_) rfl rfl (by kernel_rfl) (by kernel_rfl) (by kernel_rfl) (fun _ _ _ h => h) (Or.inl ⟨by rfl, ?_⟩) hS ?_
                    rotate_left
                    · (intro w hSw; (try dsimp only at hSw); go_simp; first | done | with_reducible rfl)
                    simp only [List.setIfInBounds_toArray, List.set_cons_zero, List.set_cons_succ]
                    refine wpT (i := 19) (v := ?_) rfl rfl (by kernel_rfl) (by kernel_rfl) (by kernel_rfl) (fun _ _ _ h => h) (Or.inl ⟨by rfl, ?_⟩) hS ?_
                    rotate_left
                    · (intro w hSw; (try dsimp only at hSw); go_simp; first | done | with_reducible rfl)
                    simp only [List.setIfInBounds_toArray, List.set_cons_zero, List.set_cons_succ]
                    refine wpAnyH_ready (rs := [20]) (by kernel_rfl) (by simp) ?_
                    refine AllReadyH.cons rfl (fun K hK => ?_) AllReadyH.nil
                    go_simp
                    (go_at_call 149; refine (beside_i _ _ _ _ _).mono ?_; rw [HW.out]; rintro e w1 ⟨rfl, hb1⟩)
                    try go_wp2_with fail
                    refine hK.out _ _ ?_ (fun hS2 => ?_)
                    · (clear hK K; ((go_split_ands; (try dsimp only); (repeat' (with_reducible apply And.intro)) <;> (repeat (first | with_reducible assumption | with_reducible apply keep_alloc | with_reducible apply keep_drew | with_reducible refine keep_below hb1 ?_ | ((with_reducible refine keep_set ?_ ?_); rotate_left; (simp <;> omega)))))))
                    clear hS hK K
                    have hS := hS2
                    clear hS2
                    refine wpT (i := 21) (v := ?_) rfl rfl (by kernel_rfl) (by kernel_rfl) (by kernel_rfl) (fun _ _ _ h => h) (Or.inl ⟨by rfl, ?_⟩) hS ?_
                    rotate_left
                    · (intro w hSw; (try dsimp only at hSw); go_simp; first | done | with_reducible rfl)
                    simp only [List.setIfInBounds_toArray, List.set_cons_zero, List.set_cons_succ]
                    refine wpAnyH_done (by kernel_rfl) ?_ _
                    refine NoPanic.normal ?_
                    go_wp2_with fail
                    go_meet
                    exact ⟨by simp, (by (repeat (first | with_reducible exact Below.refl _ _ | with_reducible assumption | with_reducible apply bel_alloc | with_reducible apply bel_drew | with_reducible apply bel_drewN | ((with_reducible refine bel_set ?_ ?_); rotate_left; (simp <;> omega)) | (with_reducible refine bel_trans ?_ (by with_reducible assumption)))))⟩
              case rest =>
                obtain ⟨rfl, hb3⟩ := hcut
                cases hv : (f1 && (!f2 && near (x, y) (x', y'))) with
                | true =>
                  simp only [Bool.and_eq_true, Bool.not_eq_true'] at hv
                  obtain ⟨v1, v2, v3⟩ := hv
                  have hM2 := HNX.out v1 v3
                  have HC2 := Lib.hid (HCT.out v2)
                  have HL2 := HLE.out hM2 v2
                  have HM2 := Lib.hid hM2
                  have hB2 := HB.out.below hb3
                  have e1 := keep_below hb3 b2
                  have e2 := hB2.frozen j
                  have HB3 := Lib.hid (blkL_set hB2 j true)
                  clear hM2 hB2 v1 v2 v3 b1 b2 c1 c2 d1 d2 hfz
                  go_wp2_with fail
                  exact ⟨⟨j + 1, _, true, p + 1, by omega, by go_num, rfl, by go_num, HC2.out.symm, HL2, by omega, fun _ => by omega, HM2.out, by simp, HB3.out, (by (repeat (first | with_reducible exact Below.refl _ _ | with_reducible assumption | with_reducible apply bel_alloc | with_reducible apply bel_drew | with_reducible apply bel_drewN | ((with_reducible refine bel_set ?_ ?_); rotate_left; (simp <;> omega)) | (with_reducible refine bel_trans ?_ (by with_reducible assumption)))))⟩, by simp [intOf]; omega⟩
                | false =>
                  have HCN2 := Lib.hid (HCN.out hv)
                  have HB2 := Lib.hid (HB.out.below hb3)
                  clear hv b1 b2 c1 c2 d1 d2 hfz
                  go_wp2_with fail
                  exact ⟨⟨j + 1, fl, b, p, by omega, by go_num, rfl, rfl, HP.out, hpn, hqp, HBQ.out, HM.out, HCN2.out, HB2.out, (by (repeat (first | with_reducible exact Below.refl _ _ | with_reducible assumption | with_reducible apply bel_alloc | with_reducible apply bel_drew | with_reducible apply bel_drewN | ((with_reducible refine bel_set ?_ ?_); rotate_left; (simp <;> omega)) | (with_reducible refine bel_trans ?_ (by with_reducible assumption)))))⟩, by simp [intOf]; omega⟩
            · have hjn : j = n := by omega
              have HP := Lib.hid hp
              have HM := Lib.hid hM
              have HB := Lib.hid hB
              have HC : Hid (b = false → Cl xs fl (k + 1) 0) := fun h => (hC h).row (by rw [HL.out]; omega)
              have HBQ := Lib.hid hbq
              have hj5 : ¬ (j : Int) < (n : Int) := by omega
              clear hjn hp hM hB hC hbq
              go_wp2
              exact ⟨⟨k + 1, fl, b, p, by omega, by go_num, rfl, rfl, HP.out, hpn, hqp, HBQ.out, HM.out, HC.out, HB.out, (by (repeat (first | with_reducible exact Below.refl _ _ | with_reducible assumption | with_reducible apply bel_alloc | with_reducible apply bel_drew | with_reducible apply bel_drewN | ((with_reducible refine bel_set ?_ ?_); rotate_left; (simp <;> omega)) | (with_reducible refine bel_trans ?_ (by with_reducible assumption)))))⟩, by simp [intOf]; omega⟩
        · have hkn : k = n := by omega
          have HP := Lib.hid hp
          have HM := Lib.hid hM
          have HB := Lib.hid hB
          have HC : Hid (b = false → Cl xs fl n 0) := by rw [← hkn]; exact hC
          have HBQ := Lib.hid hbq
          have hj5 : ¬ (k : Int) < (n : Int) := by omega
          clear hkn hp hM hB hC hbq
          go_wp2
          exact ⟨⟨fl, b, p, rfl, rfl, HP.out, hpn, HM.out, HC.out, HB.out, (by (repeat (first | with_reducible exact Below.refl _ _ | with_reducible assumption | with_reducible apply bel_alloc | with_reducible apply bel_drew | with_reducible apply bel_drewN | ((with_reducible refine bel_set ?_ ?_); rotate_left; (simp <;> omega)) | (with_reducible refine bel_trans ?_ (by with_reducible assumption)))))⟩, by have := HBQ.out; cases b <;> simp [intOf, boolOf] at * <;> omega⟩
end Go.Proofs.YtkcgdnnipohehaaGreatDoor

/- The reference's search by breadth: what is known on the way. No program is in sight. -/
namespace Go.Proofs.YtkcgdnnipohehaaGreatDoor
open Go.RowKit
set_option linter.unusedVariables false
structure Bfs (xs seen : List C) (i j : Nat) : Prop where
  h0 : s0 xs ∈ seen
  sub : ∀ c ∈ seen, c ∈ xs
  nd : seen.Nodup
  rch : ∀ c ∈ seen, Rch xs (s0 xs) c
  cl : ∀ a (ha : a < seen.length) c, c ∈ xs → near seen[a] c = true → (a < i ∨ a = i ∧ ∃ b, b < j ∧ xs[b]? = some c) → c ∈ seen
theorem Bfs.init (xs : List C) (h : 1 ≤ xs.length) : Bfs xs [s0 xs] 0 0 := by
  have h0 : s0 xs ∈ xs := by
    cases xs with
    | nil => simp at h
    | cons a t => simp [s0]
  refine ⟨by simp, fun c hc => ?_, by simp, fun c hc => ?_, fun a ha c _ _ h1 => ?_⟩
  · simp only [List.mem_singleton] at hc; rw [hc]; exact h0
  · simp only [List.mem_singleton] at hc; rw [hc]; exact .base
  · rcases h1 with h1 | ⟨_, b, h1, _⟩ <;> omega
theorem Bfs.len {xs seen : List C} {i j : Nat} (h : Bfs xs seen i j) : seen.length ≤ xs.length := nodup_len seen xs h.nd h.sub
theorem Bfs.skip {xs seen : List C} {i j : Nat} (h : Bfs xs seen i j) (hi : i < seen.length) (hj : j < xs.length) (hn : near seen[i] xs[j] = true → hasC seen xs[j].1 xs[j].2 = true) : Bfs xs seen i (j + 1) := by
  refine ⟨h.h0, h.sub, h.nd, h.rch, fun a ha c hc hnr h1 => ?_⟩
  by_cases e : a = i ∧ xs[j]? = some c
  · obtain ⟨rfl, e⟩ := e
    rw [List.getElem?_eq_getElem hj] at e
    injection e with e
    subst e
    exact (hasC_iff _ _).1 (hn hnr)
  · refine h.cl a ha c hc hnr ?_
    rcases h1 with h1 | ⟨h1, b, hb, hbc⟩
    · exact .inl h1
    · refine .inr ⟨h1, b, ?_, hbc⟩
      rcases Nat.lt_or_ge b j with h2 | h2
      · exact h2
      · obtain rfl : b = j := by omega
        exact absurd ⟨h1, hbc⟩ e
theorem Bfs.push {xs seen : List C} {i j : Nat} (h : Bfs xs seen i j) (hi : i < seen.length) (hj : j < xs.length) (hn : near seen[i] xs[j] = true) (hh : hasC seen xs[j].1 xs[j].2 = false) : Bfs xs (seen ++ [xs[j]]) i (j + 1) := by
  have hnot : xs[j] ∉ seen := fun hm => by rw [(hasC_iff _ _).2 hm] at hh; cases hh
  refine ⟨by simp [h.h0], fun c hc => ?_, ?_, fun c hc => ?_, fun a ha c hc hnr h1 => ?_⟩
  · rcases List.mem_append.1 hc with hc | hc
    · exact h.sub c hc
    · simp only [List.mem_singleton] at hc; rw [hc]; exact List.getElem_mem hj
  · rw [List.nodup_append]
    refine ⟨h.nd, by simp, fun a ha b hb => ?_⟩
    simp only [List.mem_singleton] at hb
    subst hb
    rintro rfl
    exact hnot ha
  · rcases List.mem_append.1 hc with hc | hc
    · exact h.rch c hc
    · simp only [List.mem_singleton] at hc; rw [hc]; exact .step (h.rch _ (List.getElem_mem hi)) (List.getElem_mem hj) hn
  · rw [List.mem_append, List.mem_singleton]
    by_cases ha' : a < seen.length
    · rw [List.getElem_append_left ha'] at hnr
      by_cases e : c = xs[j]
      · exact .inr e
      · refine .inl (h.cl a ha' c hc hnr ?_)
        rcases h1 with h1 | ⟨h1, b, hb, hbc⟩
        · exact .inl h1
        · refine .inr ⟨h1, b, ?_, hbc⟩
          rcases Nat.lt_or_ge b j with h2 | h2
          · exact h2
          · obtain rfl : b = j := by omega
            rw [List.getElem?_eq_getElem hj] at hbc
            injection hbc with hbc
            exact absurd hbc.symm e
    · rcases h1 with h1 | ⟨h1, _⟩ <;> omega
theorem Bfs.row {xs seen : List C} {i j : Nat} (h : Bfs xs seen i j) (hj : xs.length ≤ j) : Bfs xs seen (i + 1) 0 := by
  refine ⟨h.h0, h.sub, h.nd, h.rch, fun a ha c hc hnr h1 => h.cl a ha c hc hnr ?_⟩
  rcases h1 with h1 | ⟨_, b, hb, _⟩
  · rcases Nat.lt_or_ge a i with h2 | h2
    · exact .inl h2
    · obtain ⟨b, hb, e⟩ := List.mem_iff_getElem.1 hc
      exact .inr ⟨by omega, b, by omega, by rw [List.getElem?_eq_getElem hb, e]⟩
  · omega
theorem Bfs.fin {xs seen : List C} {i j : Nat} (h : Bfs xs seen i j) (hs : xs.Nodup) (hi : seen.length ≤ i) : conn xs = decide (seen.length = xs.length) :=
  conn_of_list xs seen h.h0 h.sub h.nd hs h.rch fun b hb c hc hn => by
    obtain ⟨a, ha, rfl⟩ := List.mem_iff_getElem.1 hb
    exact h.cl a ha c hc hn (.inl (by omega))
end Go.Proofs.YtkcgdnnipohehaaGreatDoor

/- The reference's IsConnectedShape. -/
namespace Go.Proofs.YtkcgdnnipohehaaGreatDoor
open Go.RowKit
set_option linter.unusedVariables false
attribute [local go_sem ↓] Go.wp_at_zero Go.wp_at_succ

set_option maxHeartbeats 1600000 in
theorem IsConnectedShape_s (A : Option Addr) (n c : Nat) (xs : List C) (w : World) (hr : Rd w A (vC xs)) (hl : xs.length = n) (hn : n ≤ 1099511627776) :
    Calls Tryz.prog 42 #[.slice A n c] w (Ret w (.bool (isConn xs))) := by
  have HL := Lib.hid hl
  cases hs : isShape xs with
  | false =>
    have HV : Hid (isConn xs = false) := by show isConn xs = false; unfold isConn; rw [hs]; rfl
    have HS := Lib.hid hs
    clear hs hl
    go_enter Tryz.func42, Tryz.ntmps42
    go_wp2_with (go_at_call 91; refine (IsShape_s _ _ _ xs _ hr HL.out (by omega)).mono ?_; rw [HS.out]; rintro e w1 ⟨rfl, hb1⟩)
    go_ret
    exact ⟨by rw [HV.out]; rfl, (by (repeat (first | with_reducible exact Below.refl _ _ | with_reducible assumption | with_reducible apply bel_alloc | with_reducible apply bel_drew | with_reducible apply bel_drewN | ((with_reducible refine bel_set ?_ ?_); rotate_left; (simp <;> omega)) | (with_reducible refine bel_trans ?_ (by with_reducible assumption)))))⟩
  | true =>
    have HV : Hid (isConn xs = conn xs) := by show isConn xs = conn xs; unfold isConn; rw [hs]; rfl
    have hlen := shape_len hs
    have hsm := shape_small hs
    have hn8 : n ≤ 8 := by omega
    have hn1 : 1 ≤ n := by omega
    have hnp : (0 : Int) < (n : Int) := by omega
    have h0x : 0 < xs.length := by omega
    have hI := Bfs.init xs (by omega)
    have hs0 : xs[0] = s0 xs := by simp [s0, List.getD_eq_getElem?_getD, h0x]
    have HS := Lib.hid hs
    have HSM := Lib.hid hsm
    have HI := Lib.hid hI
    have HS0 := Lib.hid hs0
    clear hs hlen hsm hl hn hI hs0
    go_enter Tryz.func42, Tryz.ntmps42
    go_wp2_with (go_at_call 91; refine (IsShape_s _ _ _ xs _ hr HL.out (by omega)).mono ?_; rw [HS.out]; rintro e w1 ⟨rfl, hb1⟩; obtain ⟨g0, off0, hA0, hg0, z1, z2⟩ := RdC.at_ (hr.below hb1) h0x; rw [HS0.out] at z1 z2; simp only [Nat.zero_mul, Nat.add_zero] at z1 z2; obtain ⟨⟨zx, zy⟩, hz⟩ : ∃ p, s0 xs = p := ⟨_, rfl⟩; rw [hz] at z1 z2; have HZ := Lib.hid hz; clear hz; subst hA0)
    have hbs := hb1.size
    go_loopw [4, 3] (fun l e wr => ∃ (i m cap : Nat) (B : Option Addr) (seen : List C), i ≤ m ∧ l = .int .i64 i ∧ seen.length = m ∧ e = .slice B m cap ∧ Bfs xs seen i 0 ∧ wr.ownsRow w.heap.size 87 2 (.slice B m cap) m (vC seen) ∧ Below w.heap.size w wr) (fun l _ _ => n - (intOf l).toNat)
    case atStart => exact ⟨0, 1, 1, _, [s0 xs], by omega, rfl, rfl, rfl, HI.out, by rw [HZ.out]; exact own_newC _ _ _ _ hbs, (by (repeat (first | with_reducible exact Below.refl _ _ | with_reducible assumption | with_reducible apply bel_alloc | with_reducible apply bel_drew | with_reducible apply bel_drewN | ((with_reducible refine bel_set ?_ ?_); rotate_left; (simp <;> omega)) | (with_reducible refine bel_trans ?_ (by with_reducible assumption)))))⟩
    case round =>
      clear HI HZ hb1 z1 z2 hg0 hbs
      obtain ⟨i, m, cap, B, seen, him, rfl, hm, rfl, hF, hown, hb⟩ := hrel
      have hmn : m ≤ n := by have := hF.len; have := HL.out; omega
      by_cases hlt : i < m
      · have HM := Lib.hid hm
        have HF := Lib.hid hF
        have HO := Lib.hid hown
        clear hm hF hown
        go_wp2
        go_loopw [5, 3] (fun l e wr => ∃ (j m cap : Nat) (B : Option Addr) (seen : List C), j ≤ n ∧ i < m ∧ l = .int .i64 j ∧ seen.length = m ∧ e = .slice B m cap ∧ Bfs xs seen i j ∧ wr.ownsRow w.heap.size 87 2 (.slice B m cap) m (vC seen) ∧ Below w.heap.size w wr) (fun l _ _ => n - (intOf l).toNat)
        case atStart => exact ⟨0, m, cap, B, seen, Nat.zero_le _, hlt, rfl, HM.out, rfl, HF.out, HO.out, hb⟩
        case round =>
          clear HM HF HO hb hmn him hlt
          obtain ⟨j, m, cap, B, seen, hj, him, rfl, hm, rfl, hF, hown, hb⟩ := hrel
          have hmn : m ≤ n := by have := hF.len; have := HL.out; omega
          by_cases hlj : j < n
          · have hix : i < seen.length := by omega
            have hjx : j < xs.length := by rw [HL.out]; omega
            have hrw := hr.below hb
            obtain ⟨g, off, hA, hgw, d1, d2⟩ := RdC.at_ hrw hjx
            simp only [Option.some.injEq, Addr.mk.injEq, and_true] at hA
            obtain ⟨rfl, rfl⟩ := hA
            have hrs := Rd.of_own hown
            obtain ⟨g2, off2, rfl, hgw2, c1, c2⟩ := RdC.at_ hrs hix
            have hne := nearS_eq (HSM.out _ (hF.sub _ (List.getElem_mem hix))) (HSM.out _ (List.getElem_mem hjx))
            have HPU : Hid (near seen[i] xs[j] = true → hasC seen xs[j].1 xs[j].2 = false → Bfs xs (seen ++ [xs[j]]) i (j + 1)) := fun h1 h2 => hF.push hix hjx h1 h2
            have HSK : Hid ((near seen[i] xs[j] && !hasC seen xs[j].1 xs[j].2) = false → Bfs xs seen i (j + 1)) := fun h1 => hF.skip hix hjx fun h2 => by rw [h2] at h1; simpa using h1
            obtain ⟨⟨x, y⟩, hx⟩ : ∃ p, seen[i] = p := ⟨_, rfl⟩
            obtain ⟨⟨x', y'⟩, hx'⟩ : ∃ p, xs[j] = p := ⟨_, rfl⟩
            rw [hx] at c1 c2
            rw [hx'] at d1 d2
            rw [hx, hx'] at hne HPU HSK
            have hi0 : (0 : Int) ≤ (i : Int) := by omega
            have hi1 : (i : Int) < (m : Int) := by omega
            have hi2 : (0 : Int) ≤ (j : Int) := by omega
            have hi3 : (j : Int) < (n : Int) := by omega
            have HM := Lib.hid hm
            have HO := Lib.hid hown
            have HW := Lib.hid hne
            have HRS := Lib.hid hrs
            clear hm hF hown hne hx hx' hrs
            go_upto_region 10 with fail
            go_cut [48] (fun s wx => s = .bool (near (x, y) (x', y') && !hasC seen x' y') ∧ Below wr.heap.size wr wx)
            case first =>
              cases hv : near (x, y) (x', y') with
              | false =>
                rw [hv] at HW
                have HVV := Lib.hid hv
                clear hv
                refine wp_region_noPanic ?_
                refine wp_region_held_drew (S := (fun w' => w'.cell? ⟨g2, off2 + i * 2, none⟩ = some (.int .i64 x) ∧ w'.cell? ⟨g2, off2 + i * 2 + 1, none⟩ = some (.int .i64 y) ∧ w'.cell? ⟨g0, off0 + j * 2, none⟩ = some (.int .i64 x') ∧ w'.cell? ⟨g0, off0 + j * 2 + 1, none⟩ = some (.int .i64 y'))) (by kernel_rfl) ?_ (fun hS => ?_)
                · ((go_split_ands; (try dsimp only); (repeat' (with_reducible apply And.intro)) <;> (repeat (first | with_reducible assumption | with_reducible apply keep_alloc | with_reducible apply keep_drew | with_reducible refine keep_below hb1 ?_ | ((with_reducible refine keep_set ?_ ?_); rotate_left; (simp <;> omega))))))
                refine wpT (i := 0) (v := ?_) rfl rfl (by kernel_rfl) (by kernel_rfl) (by kernel_rfl) (fun _ _ _ h => h) (Or.inl ⟨by rfl, ?_⟩) hS ?_
                rotate_left
                · (intro w hSw; (try dsimp only at hSw); go_simp; first | done | with_reducible rfl)
                simp only [List.setIfInBounds_toArray, List.set_cons_zero, List.set_cons_succ]
                refine wpT (i := 1) (v := ?_) rfl rfl (by kernel_rfl) (by kernel_rfl) (by kernel_rfl) (fun _ _ _ h => h) (Or.inl ⟨by rfl, ?_⟩) hS ?_
                rotate_left
                · (intro w hSw; (try dsimp only at hSw); go_simp; first | done | with_reducible rfl)
                simp only [List.setIfInBounds_toArray, List.set_cons_zero, List.set_cons_succ]
                refine wpT (i := 2) (v := ?_) rfl rfl (by kernel_rfl) (by kernel_rfl) (by kernel_rfl) (fun _ _ _ h => h) (Or.inl ⟨by rfl, ?_⟩) hS ?_
                rotate_left
                · (intro w hSw; (try dsimp only at hSw); go_simp; first | done | with_reducible rfl)
                simp only [List.setIfInBounds_toArray, List.set_cons_zero, List.set_cons_succ]
                refine wpT (i := 3) (v := ?_) rfl rfl (by kernel_rfl) (by kernel_rfl) (by kernel_rfl) (fun _ _ _ h => h) (Or.inl ⟨by rfl, ?_⟩) hS ?_
                rotate_left
                · (intro w hSw; (try dsimp only at hSw); go_simp; first | done | with_reducible rfl)
                simp only [List.setIfInBounds_toArray, List.set_cons_zero, List.set_cons_succ]
                refine wpT (i := 4) (v := ?_) rfl rfl (by kernel_rfl) (by kernel_rfl) (by kernel_rfl) (fun _ _ _ h => h) (Or.inl ⟨by rfl, ?_⟩) hS ?_
                rotate_left
                · (intro w hSw; (try dsimp only at hSw); go_simp; first | done | with_reducible rfl)
                simp only [List.setIfInBounds_toArray, List.set_cons_zero, List.set_cons_succ]
                refine wpT (i := 5) (v := ?_) rfl rfl (by kernel_rfl) (by kernel_rfl) (by kernel_rfl) (fun _ _ _ h => h) (Or.inl ⟨by rfl, ?_⟩) hS ?_
                rotate_left
                · (intro w hSw; (try dsimp only at hSw); go_simp; first | done | with_reducible rfl)
                simp only [List.setIfInBounds_toArray, List.set_cons_zero, List.set_cons_succ]
                refine wpT (i := 6) (v := ?_) rfl rfl (by kernel_rfl) (by kernel_rfl) (by kernel_rfl) (fun _ _ _ h => h) (Or.inl ⟨by rfl, ?_⟩) hS ?_
                rotate_left
                · (intro w hSw; (try dsimp only at hSw); go_simp; first | done | with_reducible rfl)
                simp only [List.setIfInBounds_toArray, List.set_cons_zero, List.set_cons_succ]
                refine wpT (i := 7) (v := ?_) rfl rfl (by kernel_rfl) (by kernel_rfl) (by kernel_rfl) (fun _ _ _ h => h) (Or.inl ⟨by rfl, ?_⟩) hS ?_
                rotate_left
                · (intro w hSw; (try dsimp only at hSw); go_simp; first | done | with_reducible rfl)
                simp only [List.setIfInBounds_toArray, List.set_cons_zero, List.set_cons_succ]
                refine wpAnyH_ready (rs := [8]) (by kernel_rfl) (by simp) ?_
                refine AllReadyH.cons rfl (fun K hK => ?_) AllReadyH.nil
                go_simp
                (go_at_call 105; refine (l2Near_s _ _ _ _ _).mono ?_; rw [HW.out]; rintro e w1 ⟨rfl, hb1⟩)
                try go_wp2_with fail
                refine hK.out _ _ ?_ (fun hS2 => ?_)
                · (clear hK K; ((go_split_ands; (try dsimp only); (repeat' (with_reducible apply And.intro)) <;> (repeat (first | with_reducible assumption | with_reducible apply keep_alloc | with_reducible apply keep_drew | with_reducible refine keep_below hb1 ?_ | ((with_reducible refine keep_set ?_ ?_); rotate_left; (simp <;> omega)))))))
                clear hS hK K
                have hS := hS2
                clear hS2
                refine wpT (i := 9) (v := ?_) rfl rfl (by kernel_rfl) (by kernel_rfl) (by kernel_rfl) (fun _ _ _ h => h) (Or.inl ⟨by rfl, ?_⟩) hS ?_
                rotate_left
                · (intro w hSw; (try dsimp only at hSw); go_simp; first | done | with_reducible rfl)
                simp only [List.setIfInBounds_toArray, List.set_cons_zero, List.set_cons_succ]
                refine wpT (i := 10) (v := undef) rfl rfl (by kernel_rfl) (by kernel_rfl) (by kernel_rfl) (fun _ _ _ h => h) (Or.inr ⟨by rfl, rfl⟩) hS ?_
                simp only [List.setIfInBounds_toArray, List.set_cons_zero, List.set_cons_succ]
                refine wpT (i := 11) (v := undef) rfl rfl (by kernel_rfl) (by kernel_rfl) (by kernel_rfl) (fun _ _ _ h => h) (Or.inr ⟨by rfl, rfl⟩) hS ?_
                simp only [List.setIfInBounds_toArray, List.set_cons_zero, List.set_cons_succ]
                refine wpT (i := 12) (v := undef) rfl rfl (by kernel_rfl) (by kernel_rfl) (by kernel_rfl) (fun _ _ _ h => h) (Or.inr ⟨by rfl, rfl⟩) hS ?_
                simp only [List.setIfInBounds_toArray, List.set_cons_zero, List.set_cons_succ]
                refine wpT (i := 13) (v := undef) rfl rfl (by kernel_rfl) (by kernel_rfl) (by kernel_rfl) (fun _ _ _ h => h) (Or.inr ⟨by rfl, rfl⟩) hS ?_
                simp only [List.setIfInBounds_toArray, List.set_cons_zero, List.set_cons_succ]
                refine wpT (i := 14) (v := undef) rfl rfl (by kernel_rfl) (by kernel_rfl) (by kernel_rfl) (fun _ _ _ h => h) (Or.inr ⟨by rfl, rfl⟩) hS ?_
                simp only [List.setIfInBounds_toArray, List.set_cons_zero, List.set_cons_succ]
                refine wpT (i := 15) (v := undef) rfl rfl (by kernel_rfl) (by kernel_rfl) (by kernel_rfl) (fun _ _ _ h => h) (Or.inr ⟨by rfl, rfl⟩) hS ?_
                simp only [List.setIfInBounds_toArray, List.set_cons_zero, List.set_cons_succ]
                refine wpT (i := 16) (v := undef) rfl rfl (by kernel_rfl) (by kernel_rfl) (by kernel_rfl) (fun _ _ _ h => h) (Or.inr ⟨by rfl, rfl⟩) hS ?_
                simp only [List.setIfInBounds_toArray, List.set_cons_zero, List.set_cons_succ]
                refine wpT (i := 17) (v := undef) rfl rfl (by kernel_rfl) (by kernel_rfl) (by kernel_rfl) (fun _ _ _ h => h) (Or.inr ⟨by rfl, rfl⟩) hS ?_
                simp only [List.setIfInBounds_toArray, List.set_cons_zero, List.set_cons_succ]
                refine wpT (i := 18) (v := undef) rfl rfl (by kernel_rfl) (by kernel_rfl) (by kernel_rfl) (fun _ _ _ h => h) (Or.inr ⟨by rfl, rfl⟩) hS ?_
                simp only [List.setIfInBounds_toArray, List.set_cons_zero, List.set_cons_succ]
                refine wpT (i := 19) (v := undef) rfl rfl (by kernel_rfl) (by kernel_rfl) (by kernel_rfl) (fun _ _ _ h => h) (Or.inr ⟨by rfl, rfl⟩) hS ?_
                simp only [List.setIfInBounds_toArray, List.set_cons_zero, List.set_cons_succ]
                refine wpT (i := 20) (v := undef) rfl rfl (by kernel_rfl) (by kernel_rfl) (by kernel_rfl) (fun _ _ _ h => h) (Or.inr ⟨by rfl, rfl⟩) hS ?_
                simp only [List.setIfInBounds_toArray, List.set_cons_zero, List.set_cons_succ]
                refine wpT (i := 21) (v := undef) rfl rfl (by kernel_rfl) (by kernel_rfl) (by kernel_rfl) (fun _ _ _ h => h) (Or.inr ⟨by rfl, rfl⟩) hS ?_
                simp only [List.setIfInBounds_toArray, List.set_cons_zero, List.set_cons_succ]
                refine wpT (i := 22) (v := undef) rfl rfl (by kernel_rfl) (by kernel_rfl) (by kernel_rfl) (fun _ _ _ h => h) (Or.inr ⟨by rfl, rfl⟩) hS ?_
                simp only [List.setIfInBounds_toArray, List.set_cons_zero, List.set_cons_succ]
                refine wpT (i := 23) (v := ?_) rfl rfl (by kernel_rfl) (by kernel_rfl) (by kernel_rfl) (fun _ _ _ h => h) (Or.inl ⟨by rfl, ?_⟩) hS ?_
                rotate_left
                · (intro w hSw; (try dsimp only at hSw); go_simp; first | done | with_reducible rfl)
                simp only [List.setIfInBounds_toArray, List.set_cons_zero, List.set_cons_succ]
                refine wpAnyH_done (by kernel_rfl) ?_ _
                refine NoPanic.normal ?_
                go_wp2_with fail
                go_meet
                exact ⟨by rw [HVV.out]; rfl, (by (repeat (first | with_reducible exact Below.refl _ _ | with_reducible assumption | with_reducible apply bel_alloc | with_reducible apply bel_drew | with_reducible apply bel_drewN | ((with_reducible refine bel_set ?_ ?_); rotate_left; (simp <;> omega)) | (with_reducible refine bel_trans ?_ (by with_reducible assumption)))))⟩
              | true =>
                rw [hv] at HW
                have HVV := Lib.hid hv
                clear hv
                refine wp_region_noPanic ?_
                refine wp_region_held_drew (S := (fun w' => w'.cell? ⟨g2, off2 + i * 2, none⟩ = some (.int .i64 x) ∧ w'.cell? ⟨g2, off2 + i * 2 + 1, none⟩ = some (.int .i64 y) ∧ w'.cell? ⟨g0, off0 + j * 2, none⟩ = some (.int .i64 x') ∧ w'.cell? ⟨g0, off0 + j * 2 + 1, none⟩ = some (.int .i64 y'))) (by kernel_rfl) ?_ (fun hS => ?_)
                · ((go_split_ands; (try dsimp only); (repeat' (with_reducible apply And.intro)) <;> (repeat (first | with_reducible assumption | with_reducible apply keep_alloc | with_reducible apply keep_drew | with_reducible refine keep_below hb1 ?_ | ((with_reducible refine keep_set ?_ ?_); rotate_left; (simp <;> omega))))))
                refine wpT (i := 0) (v := ?_) rfl rfl (by kernel_rfl) (by kernel_rfl) (by kernel_rfl) (fun _ _ _ h => h) (Or.inl ⟨by rfl, ?_⟩) hS ?_
                rotate_left
                · (intro w hSw; (try dsimp only at hSw); go_simp; first | done | with_reducible rfl)
                simp only [List.setIfInBounds_toArray, List.set_cons_zero, List.set_cons_succ]
                refine wpT (i := 1) (v := ?_) rfl rfl (by kernel_rfl) (by kernel_rfl) (by kernel_rfl) (fun _ _ _ h => h) (Or.inl ⟨by rfl, ?_⟩) hS ?_
                rotate_left
                · (intro w hSw; (try dsimp only at hSw); go_simp; first | done | with_reducible rfl)
                simp only [List.setIfInBounds_toArray, List.set_cons_zero, List.set_cons_succ]
                refine wpT (i := 2) (v := ?_) rfl rfl (by kernel_rfl) (by kernel_rfl) (by kernel_rfl) (fun _ _ _ h => h) (Or.inl ⟨by rfl, ?_⟩) hS ?_
                rotate_left
                · (intro w hSw; (try dsimp only at hSw); go_simp; first | done | with_reducible rfl)
                simp only [List.setIfInBounds_toArray, List.set_cons_zero, List.set_cons_succ]
                refine wpT (i := 3) (v := ?_) rfl rfl (by kernel_rfl) (by kernel_rfl) (by kernel_rfl) (fun _ _ _ h => h) (Or.inl ⟨by rfl, ?_⟩) hS ?_
                rotate_left
                · (intro w hSw; (try dsimp only at hSw); go_simp; first | done | with_reducible rfl)
                simp only [List.setIfInBounds_toArray, List.set_cons_zero, List.set_cons_succ]
                refine wpT (i := 4) (v := ?_) rfl rfl (by kernel_rfl) (by kernel_rfl) (by kernel_rfl) (fun _ _ _ h => h) (Or.inl ⟨by rfl, ?_⟩) hS ?_
                rotate_left
                · (intro w hSw; (try dsimp only at hSw); go_simp; first | done | with_reducible rfl)
                simp only [List.setIfInBounds_toArray, List.set_cons_zero, List.set_cons_succ]
                refine wpT (i := 5) (v := ?_) rfl rfl (by kernel_rfl) (by kernel_rfl) (by kernel_rfl) (fun _ _ _ h => h) (Or.inl ⟨by rfl, ?_⟩) hS ?_
                rotate_left
                · (intro w hSw; (try dsimp only at hSw); go_simp; first | done | with_reducible rfl)
                simp only [List.setIfInBounds_toArray, List.set_cons_zero, List.set_cons_succ]
                refine wpT (i := 6) (v := ?_) rfl rfl (by kernel_rfl) (by kernel_rfl) (by kernel_rfl) (fun _ _ _ h => h) (Or.inl ⟨by rfl, ?_⟩) hS ?_
                rotate_left
                · (intro w hSw; (try dsimp only at hSw); go_simp; first | done | with_reducible rfl)
                simp only [List.setIfInBounds_toArray, List.set_cons_zero, List.set_cons_succ]
                refine wpT (i := 7) (v := ?_) rfl rfl (by kernel_rfl) (by kernel_rfl) (by kernel_rfl) (fun _ _ _ h => h) (Or.inl ⟨by rfl, ?_⟩) hS ?_
                rotate_left
                · (intro w hSw; (try dsimp only at hSw); go_simp; first | done | with_reducible rfl)
                simp only [List.setIfInBounds_toArray, List.set_cons_zero, List.set_cons_succ]
                refine wpAnyH_ready (rs := [8]) (by kernel_rfl) (by simp) ?_
                refine AllReadyH.cons rfl (fun K hK => ?_) AllReadyH.nil
                go_simp
                (go_at_call 105; refine (l2Near_s _ _ _ _ _).mono ?_; rw [HW.out]; rintro e w1 ⟨rfl, hb1⟩)
                try go_wp2_with fail
                refine hK.out _ _ ?_ (fun hS2 => ?_)
                · (clear hK K; ((go_split_ands; (try dsimp only); (repeat' (with_reducible apply And.intro)) <;> (repeat (first | with_reducible assumption | with_reducible apply keep_alloc | with_reducible apply keep_drew | with_reducible refine keep_below hb1 ?_ | ((with_reducible refine keep_set ?_ ?_); rotate_left; (simp <;> omega)))))))
                clear hS hK K
                have hS := hS2
                clear hS2
                refine wpT (i := 9) (v := ?_) rfl rfl (by kernel_rfl) (by kernel_rfl) (by kernel_rfl) (fun _ _ _ h => h) (Or.inl ⟨by rfl, ?_⟩) hS ?_
                rotate_left
                · (intro w hSw; (try dsimp only at hSw); go_simp; first | done | with_reducible rfl)
                simp only [List.setIfInBounds_toArray, List.set_cons_zero, List.set_cons_succ]
                refine wpT (i := 10) (v := ?_) rfl rfl (by kernel_rfl) (by kernel_rfl) (by kernel_rfl) (fun _ _ _ h => h) (Or.inl ⟨by rfl, ?_⟩) hS ?_
                rotate_left
                · (intro w hSw; (try dsimp only at hSw); go_simp; first | done | with_reducible rfl)
                simp only [List.setIfInBounds_toArray, List.set_cons_zero, List.set_cons_succ]
                refine wpT (i := 11) (v := ?_) rfl rfl (by kernel_rfl) (by kernel_rfl) (by kernel_rfl) (fun _ _ _ h => h) (Or.inl ⟨by rfl, ?_⟩) hS ?_
                rotate_left
                · (intro w hSw; (try dsimp only at hSw); go_simp; first | done | with_reducible rfl)
                simp only [List.setIfInBounds_toArray, List.set_cons_zero, List.set_cons_succ]
                refine wpT (i := 12) (v := ?_) rfl rfl (by kernel_rfl) (by kernel_rfl) (by kernel_rfl) (fun _ _ _ h => h) (Or.inl ⟨by rfl, ?_⟩) hS ?_
                rotate_left
                · (intro w hSw; (try dsimp only at hSw); go_simp; first | done | with_reducible rfl)
                simp only [List.setIfInBounds_toArray, List.set_cons_zero, List.set_cons_succ]
                refine wpT (i := 13) (v := ?_) rfl rfl (by kernel_rfl) (by kernel_rfl) (by kernel_rfl) (fun _ _ _ h => h) (Or.inl ⟨by rfl, ?_⟩) hS ?_
                rotate_left
                · (intro w hSw; (try dsimp only at hSw); go_simp; first | done | with_reducible rfl)
                simp only [List.setIfInBounds_toArray, List.set_cons_zero, List.set_cons_succ]
                refine wpT (i := 14) (v := ?_) rfl rfl (by kernel_rfl) (by kernel_rfl) (by kernel_rfl) (fun _ _ _ h => h) (Or.inl ⟨by rfl, ?_⟩) hS ?_
                rotate_left
                · (intro w hSw; (try dsimp only at hSw); go_simp; first | done | with_reducible rfl)
                simp only [List.setIfInBounds_toArray, List.set_cons_zero, List.set_cons_succ]
                refine wpT (i := 15) (v := ?_) rfl rfl (by kernel_rfl) (by kernel_rfl) (by kernel_rfl) (fun _ _ _ h => h) (Or.inl ⟨by rfl, ?_⟩) hS ?_
                rotate_left
                · (intro w hSw; (try dsimp only at hSw); go_simp; first | done | with_reducible rfl)
                simp only [List.setIfInBounds_toArray, List.set_cons_zero, List.set_cons_succ]
                refine wpT (i := 16) (v := ?_) rfl rfl (by kernel_rfl) (by kernel_rfl) (by kernel_rfl) (fun _ _ _ h => h) (Or.inl ⟨by rfl, ?_⟩) hS ?_
                rotate_left
                · (intro w hSw; (try dsimp only at hSw); go_simp; first | done | with_reducible rfl)
                simp only [List.setIfInBounds_toArray, List.set_cons_zero, List.set_cons_succ]
                refine wpT (i := 17) (v := ?_) rfl rfl (by kernel_rfl) (by kernel_rfl) (by kernel_rfl) (fun _ _ _ h => h) (Or.inl ⟨by rfl, ?_⟩) hS ?_
                rotate_left
                · (intro w hSw; (try dsimp only at hSw); go_simp; first | done | with_reducible rfl)
                simp only [List.setIfInBounds_toArray, List.set_cons_zero, List.set_cons_succ]
                refine wpT (i := 18) (v := ?_) rfl rfl (by kernel_rfl) (by kernel_rfl) (by kernel_rfl) (fun _ _ _ h => h) (Or.inl ⟨by rfl, ?_⟩) hS ?_
                rotate_left
                · (intro w hSw; (try dsimp only at hSw); go_simp; first | done | with_reducible rfl)
                simp only [List.setIfInBounds_toArray, List.set_cons_zero, List.set_cons_succ]
                refine wpT (i := 19) (v := ?_) rfl rfl (by kernel_rfl) (by kernel_rfl) (by kernel_rfl) (fun _ _ _ h => h) (Or.inl ⟨by rfl, ?_⟩) hS ?_
                rotate_left
                · (intro w hSw; (try dsimp only at hSw); go_simp; first | done | with_reducible rfl)
                simp only [List.setIfInBounds_toArray, List.set_cons_zero, List.set_cons_succ]
                refine wpT (i := 20) (v := ?_) rfl rfl (by kernel_rfl) (by kernel_rfl) (by kernel_rfl) (fun _ _ _ h => h) (Or.inl ⟨by rfl, ?_⟩) hS ?_
                rotate_left
                · (intro w hSw; (try dsimp only at hSw); go_simp; first | done | with_reducible rfl)
                simp only [List.setIfInBounds_toArray, List.set_cons_zero, List.set_cons_succ]
                refine wpAnyH_ready (rs := [21]) (by kernel_rfl) (by simp) ?_
                refine AllReadyH.cons rfl (fun K hK => ?_) AllReadyH.nil
                go_simp
                (go_at_call 98; refine (HasCell_s _ _ _ seen _ _ _ (HRS.out.drew.below hb1) HM.out (by omega)).mono ?_; rintro e w3 ⟨rfl, hb3⟩)
                try go_wp2_with fail
                refine hK.out _ _ ?_ (fun hS2 => ?_)
                · (clear hK K; ((go_split_ands; (try dsimp only); (repeat' (with_reducible apply And.intro)) <;> (repeat (first | with_reducible assumption | with_reducible apply keep_alloc | with_reducible apply keep_drew | with_reducible refine keep_below hb3 ?_ | ((with_reducible refine keep_set ?_ ?_); rotate_left; (simp <;> omega)))))))
                clear hS hK K
                have hS := hS2
                clear hS2
                refine wpT (i := 22) (v := ?_) rfl rfl (by kernel_rfl) (by kernel_rfl) (by kernel_rfl) (fun _ _ _ h => h) (Or.inl ⟨by rfl, ?_⟩) hS ?_
                rotate_left
                · (intro w hSw; (try dsimp only at hSw); go_simp; first | done | with_reducible rfl)
                simp only [List.setIfInBounds_toArray, List.set_cons_zero, List.set_cons_succ]
                refine wpT (i := 23) (v := ?_) rfl rfl (by kernel_rfl) (by kernel_rfl) (by kernel_rfl) (fun _ _ _ h => h) (Or.inl ⟨by rfl, ?_⟩) hS ?_
                rotate_left
                · (intro w hSw; (try dsimp only at hSw); go_simp; first | done | with_reducible rfl)
                simp only [List.setIfInBounds_toArray, List.set_cons_zero, List.set_cons_succ]
                refine wpAnyH_done (by kernel_rfl) ?_ _
                refine NoPanic.normal ?_
                go_wp2_with fail
                go_meet
                exact ⟨by simp [HVV.out], (by (repeat (first | with_reducible exact Below.refl _ _ | with_reducible assumption | with_reducible apply bel_alloc | with_reducible apply bel_drew | with_reducible apply bel_drewN | ((with_reducible refine bel_set ?_ ?_); rotate_left; (simp <;> omega)) | (with_reducible refine bel_trans ?_ (by with_reducible assumption)))))⟩
            case rest =>
              obtain ⟨rfl, hb3⟩ := hcut
              cases hv : (near (x, y) (x', y') && !hasC seen x' y') with
              | true =>
                simp only [Bool.and_eq_true, Bool.not_eq_true'] at hv
                have HB2 := Lib.hid (HPU.out hv.1 hv.2)
                have e1 := keep_below hb3 d1
                have e2 := keep_below hb3 d2
                have hbw := bel_trans hb hb3
                have HO2 := Lib.hid (own_keep HO.out hb3)
                clear hv c1 c2 d1 d2 HO HRS HPU HSK
                have hbsz := hbw.size
                go_wp2_with ((at_builtin; go_must (refine app_C _ rfl _ _ rfl w.heap.size _ _ _ seen rfl (HO2.out.alloc _) _ _ _ [(x', y')] rfl (rd_newC _ _ _ _) rfl (by omega) (by simp; omega) ?_); intro A' c' w' hown' hg' hat'; have HO3 := Lib.hid hown'; have HBG := Lib.hid (bel_app (bel_alloc hbw _) hg' (fun g' hg1 => ((own_lt HO2.out) g' hg1).1)); clear hown' hg' hat'))
                exact ⟨⟨j + 1, m + 1, c', A', _, by omega, by omega, by go_num, by rw [List.length_append, HM.out]; rfl, rfl, HB2.out, HO3.out, HBG.out⟩, by simp [intOf]; omega⟩
              | false =>
                have HB2 := Lib.hid (HSK.out hv)
                have HO2 := Lib.hid (own_keep HO.out hb3)
                clear hv c1 c2 d1 d2 HO HRS HPU HSK
                go_wp2_with fail
                exact ⟨⟨j + 1, m, cap, _, seen, by omega, by omega, by go_num, HM.out, rfl, HB2.out, HO2.out, (by (repeat (first | with_reducible exact Below.refl _ _ | with_reducible assumption | with_reducible apply bel_alloc | with_reducible apply bel_drew | with_reducible apply bel_drewN | ((with_reducible refine bel_set ?_ ?_); rotate_left; (simp <;> omega)) | (with_reducible refine bel_trans ?_ (by with_reducible assumption)))))⟩, by simp [intOf]; omega⟩
          · have hjn : j = n := by omega
            have HM := Lib.hid hm
            have HF : Hid (Bfs xs seen (i + 1) 0) := hF.row (by rw [HL.out]; omega)
            have HO := Lib.hid hown
            have hj5 : ¬ (j : Int) < (n : Int) := by omega
            clear hjn hm hF hown
            go_wp2
            exact ⟨⟨i + 1, m, cap, B, seen, by omega, by go_num, HM.out, rfl, HF.out, HO.out, (by (repeat (first | with_reducible exact Below.refl _ _ | with_reducible assumption | with_reducible apply bel_alloc | with_reducible apply bel_drew | with_reducible apply bel_drewN | ((with_reducible refine bel_set ?_ ?_); rotate_left; (simp <;> omega)) | (with_reducible refine bel_trans ?_ (by with_reducible assumption)))))⟩, by simp [intOf]; omega⟩
      · have hv := hF.fin (shape_nodup HS.out) (by omega)
        have hv2 : conn xs = ((m : Int) == (n : Int)) := by
          rw [hv, hm, HL.out, Bool.eq_iff_iff, decide_eq_true_eq, beq_iff_eq]; omega
        have HV2 := Lib.hid hv2
        clear hv hv2 hF hm hown
        go_wp2
        go_ret
        exact ⟨by rw [HV.out, HV2.out]; rfl, (by (repeat (first | with_reducible exact Below.refl _ _ | with_reducible assumption | with_reducible apply bel_alloc | with_reducible apply bel_drew | with_reducible apply bel_drewN | ((with_reducible refine bel_set ?_ ?_); rotate_left; (simp <;> omega)) | (with_reducible refine bel_trans ?_ (by with_reducible assumption)))))⟩
end Go.Proofs.YtkcgdnnipohehaaGreatDoor

/- Shapes with one cell more, with one less: the program's and the reference's; lists of shapes compared. -/
namespace Go.Proofs.YtkcgdnnipohehaaGreatDoor
open Go.RowKit
set_option linter.unusedVariables false
attribute [local go_sem ↓] Go.wp_at_zero Go.wp_at_succ

def offD (off c k : Nat) : Nat := if c = k then off else off + k * 2
theorem run_uptoD (w : World) (A : Option Addr) (m c k : Nat) (hk : k ≤ c) : (Instr.slice 52 (.slice A m c) none (some (.int .i64 (k : Int))) none).run Tryz.prog w = .ok (.slice A k c) w := by
  have h2 : (k : Int) ≤ (c : Int) := by omega
  simp [go_sem, h2]
theorem run_fromD (w : World) (g off m c k : Nat) (hk : k ≤ m) : (Instr.slice 52 (.slice (some ⟨g, off, none⟩) m c) (some (.int .i64 (k : Int))) none none).run Tryz.prog w = .ok (.slice (some ⟨g, offD off c k, none⟩) (m - k) (c - k)) w := by
  have h1 : (0 : Int) ≤ (k : Int) := by omega
  have h2 : (k : Int) ≤ (m : Int) := by omega
  unfold offD
  by_cases hc : c = k
  · subst hc
    simp [go_sem, h2]
  · simp [go_sem, h2, hc]
theorem Rd.fromD {w : World} {g off c k m : Nat} {l : List C} (h : Rd w (some ⟨g, off, none⟩) (vC l)) (hl : l.length = m) (hmc : m ≤ c) : Rd w (some ⟨g, offD off c k, none⟩) (vC (l.drop k)) := by
  rcases h with h | ⟨g', off', he, h⟩
  · have : l = [] := by
      have := congrArg List.length h
      rw [vC_length] at this
      exact List.eq_nil_of_length_eq_zero (by simp at this; omega)
    subst this
    simp [Rd, vC]
  · injection he with he
    injection he with h1 h2 h3
    subst h1 h2
    unfold offD
    split
    · next e =>
      have : l.drop k = [] := List.drop_of_length_le (by omega)
      rw [this]
      exact .inl rfl
    · refine .inr ⟨g, off + k * 2, rfl, fun j u hu => ?_⟩
      rw [vC_drop, List.getElem?_drop] at hu
      have := h _ _ hu
      rw [← Nat.add_assoc] at this
      exact this
theorem Rd.uptoD {w : World} {A : Option Addr} {l : List C} (h : Rd w A (vC l)) (k : Nat) : Rd w A (vC (l.take k)) := by rw [vC_take]; exact h.take _
section
variable (w : World) {ops : Array Oper} {o : Oper} {a : Act} {Q : Exit → Act → World → Prop}
theorem wpCE (s x : Operand) {K : Act → World → Prop} {d : Nat} (hd : o.dst = some d) (ho : o.op = .call { callee := .builtin .append, args := #[s, x], argTypes := #[52, 52] })
    (base : Nat) (A : Option Addr) (n c : Nat) (l : List C) (hs : a.eval s = .slice A n c) (hown : w.ownsRow base 87 2 (.slice A n c) n (vC l))
    (A2 : Option Addr) (m c2 : Nat) (l2 : List C) (hx : a.eval x = .slice A2 m c2) (hr : Rd w A2 (vC l2)) (hl : l2.length = m) (hb : n + m ≤ 1099511627776) (hbase : base ≤ w.heap.size)
    (h : ∀ A' c' w', w'.ownsRow base 87 2 (.slice A' (n + m) c') (n + m) (vC (l ++ l2)) → w.grownBy w' (ob A) → (ob A' = ob A ∨ ob A' = some w.heap.size) → K { tmps := a.tmps.setIfInBounds d (.slice A' (n + m) c'), defers := a.defers } w') :
    o.wp Tryz.prog a w K Q := by
  obtain ⟨i0, hi, hz0, hz1, hz2⟩ := info_parts infoC
  refine wp_app w s x _ ho base _ i0 _ 2 16 Tryz.underlying52 hi hz0 hz1 hz2 rfl (by omega) A n c _ hs hown A2 m c2 _ hx hr (by rw [vC_length, hl]) (vC_one _) (by unfold maxLen; omega) (by omega) hbase ?_
  intro A' c' w' h1
  rw [← vC_append] at h1
  intro h2 h3
  have h4 := h A' c' w' h1 h2 h3
  rw [hd]
  exact h4
end
theorem extR_len (s : List C) : (extR s).length ≤ 32 ∧ ∀ x ∈ extR s, isShape x = true := by
  unfold extR
  split
  · next h =>
    have h1 := extV_len s
    have h2 := (shape_len h.1).2
    exact ⟨by omega, (extTo_fine _ _ _).2⟩
  · exact ⟨by simp, by simp⟩
set_option maxHeartbeats 800000 in
theorem ExtensionsOf_i (A : Option Addr) (n c : Nat) (xs : List C) (w : World) (hr : Rd w A (vC xs)) (hl : xs.length = n) (hn : n ≤ 1048576) :
    Calls Tryz.prog 38 #[.slice A n c] w (RetF w (extR xs)) := by
  have HL := Lib.hid hl
  have HR := Lib.hid hr
  cases hs : isShape xs with
  | false =>
    have HV : Hid (extR xs = []) := by show _ = _; unfold extR; rw [hs]; simp
    have HS := Lib.hid hs
    clear hl hr hs
    go_enter Tryz.func38, Tryz.ntmps38
    go_wp2_with fail
    refine (IsShape_i A n c xs _ HR.out HL.out (by omega)).mono ?_
    rw [HS.out]
    rintro e w1 ⟨rfl, hb1⟩
    go_wp2_with fail
    go_ret
    exact ⟨none, 0, 0, [], rfl, by rw [HV.out]; exact OwnF.nil _ _, hb1⟩
  | true =>
    have hn8 := (shape_len hs).2
    rw [hl] at hn8
    have HS := Lib.hid hs
    by_cases h8 : n = 8
    · have h8I : (n : Int) ≥ 8 := by omega
      have HV : Hid (extR xs = []) := by show _ = _; unfold extR; rw [if_neg (by rw [hl, h8]; simp)]
      clear hl hr hs h8 hn8
      go_enter Tryz.func38, Tryz.ntmps38
      go_wp2_with fail
      refine (IsShape_i A n c xs _ HR.out HL.out (by omega)).mono ?_
      rw [HS.out]
      rintro e w1 ⟨rfl, hb1⟩
      go_wp2_with fail
      go_ret
      exact ⟨none, 0, 0, [], rfl, by rw [HV.out]; exact OwnF.nil _ _, hb1⟩
    · have h8I : ¬ (n : Int) ≥ 8 := by omega
      have HV : Hid (extR xs = extV xs) := by show _ = _; unfold extR; rw [if_pos ⟨hs, by rw [hl]; exact h8⟩]
      clear hl hr hs h8
      go_enter Tryz.func38, Tryz.ntmps38
      go_wp2_with fail
      refine (IsShape_i A n c xs _ HR.out HL.out (by omega)).mono ?_
      rw [HS.out]
      rintro e w1 ⟨rfl, hb1⟩
      go_wp2_with fail
      refine (extensions_i A n c xs _ (HR.out.below hb1) HL.out HS.out).mono ?_
      rintro e w2 ⟨B, m, d, hs, rfl, hO, hb2⟩
      have HO := Lib.hid (hO.mono hb1.size)
      have HB := Lib.hid (bel_trans hb1 hb2)
      clear hO hb1 hb2
      go_wp2_with fail
      go_ret
      exact ⟨B, m, d, hs, rfl, by rw [HV.out]; exact HO.out, HB.out⟩
theorem hangs_0 (A : Option Addr) (c : Nat) (w : World) : Calls Tryz.prog 102 #[.slice A 0 c] w (Ret w (.bool false)) := by
  go_enter Tryz.func102, Tryz.ntmps102
  go_wp2_with fail
  go_ret
  exact ⟨rfl, Below.refl _ _⟩
theorem conn_0 : isConn [] = false := by unfold isConn; rfl
/-- What the program asks of the rest of a shape. -/
theorem hangs_drop (A : Option Addr) (m c : Nat) (t : List C) (w : World) (hr : Rd w A (vC t)) (hl : t.length = m) (hs : m = 0 ∨ isShape t = true) : Calls Tryz.prog 102 #[.slice A m c] w (Ret w (.bool (isConn t))) := by
  rcases hs with rfl | hs
  · rw [List.eq_nil_of_length_eq_zero hl, conn_0]
    exact hangs_0 A c w
  · have e : isConn t = conn t := by unfold isConn; rw [hs, Bool.true_and]
    rw [e]
    exact hangs_i A m c t w hr hl hs
theorem parTo_succ (s : List C) (k : Nat) : parTo s (k + 1) = if isConn (dropC s k) then putG ltS (parTo s k) (cornI (dropC s k)) else parTo s k := rfl
set_option maxRecDepth 100000 in
set_option maxHeartbeats 6400000 in
theorem ParentsOf_i (A : Option Addr) (n c : Nat) (xs : List C) (w : World) (hr : Rd w A (vC xs)) (hl : xs.length = n) (hn : n ≤ 1048576) (hc : n ≤ c) :
    Calls Tryz.prog 40 #[.slice A n c] w (RetF w (parV xs)) := by
  have HL := Lib.hid hl
  have HR := Lib.hid hr
  cases hs : isShape xs with
  | false =>
    have HV : Hid (parV xs = []) := by show _ = _; unfold parV; rw [hs]; simp
    have HS := Lib.hid hs
    clear hl hr hs
    go_enter Tryz.func40, Tryz.ntmps40
    go_wp2_with fail
    refine (IsShape_i A n c xs _ HR.out HL.out (by omega)).mono ?_
    rw [HS.out]
    rintro e w1 ⟨rfl, hb1⟩
    go_wp2_with fail
    go_ret
    exact ⟨none, 0, 0, [], rfl, by rw [HV.out]; exact OwnF.nil _ _, hb1⟩
  | true =>
    have hn8 := (shape_len hs).2
    have hn1 := (shape_len hs).1
    rw [hl] at hn8 hn1
    have HV : Hid (parV xs = parTo xs n) := by show _ = _; unfold parV; rw [if_pos hs, hl]
    have HS := Lib.hid hs
    obtain ⟨g, off, hAe, hg, hx1, hx2⟩ := RdC.at_ hr (show 0 < xs.length by omega)
    clear hx1 hx2
    subst hAe
    clear hl hr hs
    go_enter Tryz.func40, Tryz.ntmps40
    go_wp2_with fail
    refine (IsShape_i _ n c xs _ HR.out HL.out (by omega)).mono ?_
    rw [HS.out]
    rintro e w1 ⟨rfl, hb1⟩
    have HB1 := Lib.hid hb1
    clear hb1
    go_wp2_with fail
    go_loopw [11, 3] (fun e11 e3 wr => ∃ (i q cq : Nat) (D : Option Addr) (hs : List H), i ≤ n ∧ e11 = .int .i64 i ∧ e3 = .slice D q cq ∧ OwnF w.heap.size wr D q cq hs (parTo xs i) ∧ Below w.heap.size w wr) (fun e11 _ _ => n - (intOf e11).toNat)
    case atStart => exact ⟨0, 0, 0, none, [], Nat.zero_le _, rfl, rfl, OwnF.nil _ _, HB1.out⟩
    case round =>
      clear HB1
      obtain ⟨i, q, cq, D, hs, hi, rfl, rfl, hO, hb⟩ := hrel
      have hq8 : q ≤ 8 := by have h1 := parTo_len xs i; have h2 := hO.flen; omega
      have HO := Lib.hid hO
      have HB := Lib.hid hb
      have hbs := hb.size
      clear hO hb
      by_cases hlt : i < n
      · have hi0 : (0 : Int) ≤ (i : Int) := by omega
        have hi1 : (i : Int) < (n : Int) := by omega
        have hic : (i : Int) ≤ (c : Int) := by omega
        obtain ⟨j, hj⟩ : ∃ j, i + 1 = j := ⟨_, rfl⟩
        have hjI : (i : Int) + 1 = (j : Int) := by omega
        have ej : IntKind.i64.wrap (j : Int) = (j : Int) := Go.IntWalk.i64_in _ (by omega)
        have hj0 : (0 : Int) ≤ (j : Int) := by omega
        have hjn : (j : Int) ≤ (n : Int) := by omega
        have hjl : j ≤ n := by omega
        have hu1 : ∀ wq, (Instr.slice 52 (.slice (some ⟨g, off, none⟩) n c) none (some (.int .i64 (i : Int))) none).run Tryz.prog wq = .ok (.slice (some ⟨g, off, none⟩) i c) wq := fun wq => run_uptoD wq _ n c i (by omega)
        have hu2 : ∀ wq, (Instr.slice 52 (.slice (some ⟨g, off, none⟩) n c) (some (.int .i64 (j : Int))) none none).run Tryz.prog wq = .ok (.slice (some ⟨g, offD off c j, none⟩) (n - j) (c - j)) wq := fun wq => run_fromD wq g off n c j hjl
        obtain ⟨r, hrq⟩ : ∃ r, n - j = r := ⟨_, rfl⟩
        obtain ⟨cr, hcr⟩ : ∃ cr, c - j = cr := ⟨_, rfl⟩
        obtain ⟨o2, ho2⟩ : ∃ o2, offD off c j = o2 := ⟨_, rfl⟩
        have HT1 : Hid (Rd w (some ⟨g, off, none⟩) (vC (xs.take i))) := HR.out.uptoD i
        have HT2 : Hid (Rd w (some ⟨g, o2, none⟩) (vC (xs.drop j))) := by have h := HR.out.fromD (k := j) HL.out hc; rw [ho2] at h; exact h
        have HT1L : Hid ((xs.take i).length = i) := by show _ = _; rw [List.length_take, HL.out]; omega
        have HT2L : Hid ((xs.drop j).length = r) := by show _ = _; rw [List.length_drop, HL.out]; exact hrq
        rw [ho2, hrq, hcr] at hu2
        have HDR : Hid (xs.take i ++ xs.drop j = dropC xs i) := by show _ = _; rw [← hj]; rfl
        have hsd : i + r = 0 ∨ isShape (dropC xs i) = true := by
          by_cases h2 : 2 ≤ n
          · exact .inr (dropC_shape HS.out (by rw [HL.out]; exact hlt) (by rw [HL.out]; exact h2))
          · exact .inl (by omega)
        have hst := parTo_succ xs i
        have hfi := parTo_fine xs i
        have hir : i + r ≤ 8 := by omega
        obtain ⟨F, hF⟩ : ∃ F, parTo xs i = F := ⟨_, rfl⟩
        obtain ⟨t, ht⟩ : ∃ t, dropC xs i = t := ⟨_, rfl⟩
        rw [hF, ht] at hst
        rw [hF] at hfi HO
        rw [ht] at hsd HDR
        obtain ⟨b, hbv⟩ : ∃ b, isConn t = b := ⟨_, rfl⟩
        rw [hbv] at hst
        have HBV := Lib.hid hbv
        have HST := Lib.hid hst
        have HFI := Lib.hid hfi
        have HSD := Lib.hid hsd
        have HFL : Hid (∀ x ∈ F, x.length ≤ 1048576) := fun x hx => by have := hfi.len x hx; omega
        have HJ := Lib.hid hj
        clear hst hfi hsd hF ht hbv hrq hcr ho2 hj
        go_wp2_with fail
        refine wp_region_rg 10 rfl (by kernel_rfl) ?_
        (refine rgT (i := 0) (v := ?_) rfl rfl (by kernel_rfl) (by kernel_rfl) (by kernel_rfl) (by rfl) (fun w' hcw => ?_) ?_; rotate_left; ((try dsimp only at hcw); have hbc := hcw.cells; go_simp; first | done | with_reducible rfl); simp only [List.setIfInBounds_toArray, List.set_cons_zero, List.set_cons_succ])
        (refine rgT (i := 1) (v := ?_) rfl rfl (by kernel_rfl) (by kernel_rfl) (by kernel_rfl) (by rfl) (fun w' hcw => ?_) ?_; rotate_left; ((try dsimp only at hcw); have hbc := hcw.cells; go_simp; first | done | with_reducible rfl); simp only [List.setIfInBounds_toArray, List.set_cons_zero, List.set_cons_succ])
        (refine rgT (i := 2) (v := ?_) rfl rfl (by kernel_rfl) (by kernel_rfl) (by kernel_rfl) (by rfl) (fun w' hcw => ?_) ?_; rotate_left; ((try dsimp only at hcw); have hbc := hcw.cells; go_simp; first | done | with_reducible rfl); simp only [List.setIfInBounds_toArray, List.set_cons_zero, List.set_cons_succ])
        (refine rgT (i := 4) (v := ?_) rfl rfl (by kernel_rfl) (by kernel_rfl) (by kernel_rfl) (by rfl) (fun w' hcw => ?_) ?_; rotate_left; ((try dsimp only at hcw); have hbc := hcw.cells; go_simp; first | done | with_reducible rfl); simp only [List.setIfInBounds_toArray, List.set_cons_zero, List.set_cons_succ])
        (refine rgT (i := 5) (v := ?_) rfl rfl (by kernel_rfl) (by kernel_rfl) (by kernel_rfl) (by rfl) (fun w' hcw => ?_) ?_; rotate_left; ((try dsimp only at hcw); have hbc := hcw.cells; go_simp; first | done | with_reducible rfl); simp only [List.setIfInBounds_toArray, List.set_cons_zero, List.set_cons_succ])
        (refine rgT (i := 6) (v := ?_) rfl rfl (by kernel_rfl) (by kernel_rfl) (by kernel_rfl) (by rfl) (fun w' hcw => ?_) ?_; rotate_left; ((try dsimp only at hcw); have hbc := hcw.cells; go_simp; first | done | with_reducible rfl); simp only [List.setIfInBounds_toArray, List.set_cons_zero, List.set_cons_succ])
        (refine rgT (i := 7) (v := ?_) rfl rfl (by kernel_rfl) (by kernel_rfl) (by kernel_rfl) (by rfl) (fun w' hcw => ?_) ?_; rotate_left; ((try dsimp only at hcw); have hbc := hcw.cells; go_simp; first | done | with_reducible rfl); simp only [List.setIfInBounds_toArray, List.set_cons_zero, List.set_cons_succ])
        refine rgK_one (i := 3) (by kernel_rfl) rfl rfl (fun ua hca hea K hK => ?_)
        go_simp
        refine (copyCells_i2 (some ⟨g, off, none⟩) i c (xs.take i) _ (HT1.out.below (bel_trans HB.out hca)) HT1L.out (by omega)).mono ?_
        rintro e ub ⟨E, i2, ce, rfl, hE, hbb⟩
        obtain rfl : i2 = i := by have h := own_len hE; rw [vC_length, HT1L.out] at h; omega
        have hcb : Below wr.heap.size wr ub := bel_trans hca hbb
        refine hK _ _ hcb ?_
        clear hK K
        refine rgK_one (i := 8) (by kernel_rfl) rfl rfl (fun uc hcc hec K hK => ?_)
        refine wpCE uc _ _ rfl rfl ua.heap.size E i2 ce (xs.take i2) rfl (own_keep hE hec) (some ⟨g, o2, none⟩) r cr (xs.drop j) rfl (HT2.out.below (bel_trans HB.out hcc)) HT2L.out (by omega) (by have h1 := hbb.size; have h2 := hec.size; omega) ?_
        intro E2 ce2 ud hE2 hgd _
        rw [HDR.out] at hE2
        simp only [List.setIfInBounds_toArray, List.set_cons_zero, List.set_cons_succ]
        have hcd : Below wr.heap.size wr ud := bel_app hcc hgd (fun b e => by have h1 := (own_lt hE b e).1; have h2 := hca.size; omega)
        refine hK _ _ hcd ?_
        clear hK K
        (refine rgT (i := 9) (v := ?_) rfl rfl (by kernel_rfl) (by kernel_rfl) (by kernel_rfl) (by rfl) (fun w' hcw => ?_) ?_; rotate_left; ((try dsimp only at hcw); have hbc := hcw.cells; go_simp; first | done | with_reducible rfl); simp only [List.setIfInBounds_toArray, List.set_cons_zero, List.set_cons_succ])
        refine ⟨by kernel_rfl, fun wz hcz hez => NoPanic.normal ?_⟩
        have HE := Lib.hid ((CRow.of_own hE2).below hez)
        have HBZ := Lib.hid (bel_trans HB.out hcz)
        have HOZ := Lib.hid (HO.out.below hcz)
        have hzs := hcz.size
        clear hca hea hbb hcb hcc hec hcd hez hcz hE hE2 hgd hu1 hu2
        obtain ⟨m, hm⟩ : ∃ m, i2 + r = m := ⟨_, rfl⟩
        rw [hm] at HE hir HSD ⊢
        clear hm
        go_wp2_with fail
        refine (hangs_drop E2 m ce2 t _ HE.out.2.1 HE.out.1 HSD.out).mono ?_
        rw [HBV.out]
        rintro e wh ⟨rfl, hbh⟩
        have HEH := Lib.hid (HE.out.below hbh)
        have HBH := Lib.hid (bel_trans HBZ.out hbh)
        have HOH := Lib.hid (HOZ.out.below hbh)
        clear hbh
        cases b with
        | false =>
          have HNX : Hid (parTo xs (i2 + 1) = F) := by show _ = _; rw [HST.out]; rfl
          go_wp2_with fail
          exact ⟨⟨i2 + 1, q, cq, D, hs, by omega, by go_num, rfl, by rw [HNX.out]; exact HOH.out, HBH.out⟩, by simp [intOf]; omega⟩
        | true =>
          have hsh := conn_shape HBV.out
          have hm1 : 1 ≤ m := by have h1 := (shape_len hsh).1; have h2 := HE.out.1; dsimp only at h2; omega
          have hcs := (shape_len (corn_conn HBV.out)).2
          obtain ⟨u, hu⟩ : ∃ u, cornI t = u := ⟨_, rfl⟩
          have HNX : Hid (parTo xs (i2 + 1) = putB ltS F u) := by show _ = _; rw [HST.out, if_pos rfl, putB_eq ltS_sto HFI.out.1, hu]
          have HSM := Lib.hid (shape_small hsh)
          have HCO : Hid (∀ w', Rd w' E2 (vC t) → Calls Tryz.prog 104 #[.slice E2 m ce2] w' (RetS w' 87 2 (vC u))) := fun w' h => hu ▸ corner_i E2 m ce2 t w' h HEH.out.1 hm1 (by omega) (shape_small hsh)
          rw [hu] at hcs
          clear hu hsh
          go_wp2_with fail
          refine (HCO.out _ HEH.out.2.1).mono ?_
          rintro e wk ⟨G, mg, cg, rfl, hG, hbk⟩
          have hgl : u.length = mg := by have h := own_len hG; rw [vC_length] at h; omega
          have HG := Lib.hid (CRow.of_own hG)
          have HOK := Lib.hid (HOH.out.below hbk)
          have HBK := Lib.hid (bel_trans HBH.out hbk)
          have hks := HBK.out.size
          have hmg : mg ≤ 1048576 := by omega
          clear hG hbk hgl
          go_wp2_with fail
          refine (putShape_i D q cq hs F G mg cg u w.heap.size _ HOK.out HG.out HFI.out.1 HFL.out hmg (by omega) hks).mono ?_
          rintro e w3 ⟨D3, n3, c3, hs3, rfl, hO3, hg3, hD3⟩
          have HO3 := Lib.hid hO3
          have HB3 := Lib.hid (bel_app HBK.out hg3 (fun g e => (own_lt HOK.out.own g e).1))
          clear hO3 hg3 hD3
          go_wp2_with fail
          exact ⟨⟨i2 + 1, n3, c3, D3, hs3, by omega, by go_num, rfl, by rw [HNX.out]; exact HO3.out, HB3.out⟩, by simp [intOf]; omega⟩
      · obtain rfl : i = n := by omega
        have hi1 : ¬ (i : Int) < (i : Int) := by omega
        go_wp2_with fail
        go_ret
        exact ⟨D, q, cq, hs, rfl, by rw [HV.out]; exact HO.out, HB.out⟩
set_option maxRecDepth 100000 in
set_option maxHeartbeats 6400000 in
theorem ParentsOf_s (A : Option Addr) (n c : Nat) (xs : List C) (w : World) (hr : Rd w A (vC xs)) (hl : xs.length = n) (hn : n ≤ 1048576) (hc : n ≤ c) :
    Calls Tryz.prog 41 #[.slice A n c] w (RetFA w (parV xs)) := by
  have HL := Lib.hid hl
  have HR := Lib.hid hr
  have hO0 : OwnF w.heap.size (w.alloc (.cells #[] 52)) (some ⟨w.heap.size, 0, none⟩) 0 0 [] [] := OwnF.none_ (own_new w 52 1 0 #[] rfl (by simp [maxLen]) (Nat.le_refl _))
  have HO0 := Lib.hid hO0
  clear hO0
  cases hs : isShape xs with
  | false =>
    have HV : Hid (parV xs = []) := by show _ = _; unfold parV; rw [hs]; simp
    have HS := Lib.hid hs
    clear hl hr hs
    have HB0 := Lib.hid (bel_alloc (Below.refl w.heap.size w) (.cells #[] 52))
    go_enter Tryz.func41, Tryz.ntmps41
    go_wp2_with fail
    go_loopw [4, 3] (fun e4 e3 wr => e4 = .int .i64 0 ∧ e3 = .slice (some ⟨w.heap.size, 0, none⟩) 0 0 ∧ wr = w.alloc (.cells #[] 52)) (fun _ _ _ => 0)
    case atStart => exact ⟨rfl, rfl, rfl⟩
    case round =>
      obtain ⟨rfl, rfl, rfl⟩ := hrel
      by_cases h0 : 0 < n
      · have h0I : (0 : Int) < (n : Int) := by omega
        clear h0
        go_wp2_with fail
        refine (IsShape_s A n c xs _ (HR.out.below HB0.out) HL.out (by omega)).mono ?_
        rw [HS.out]
        rintro e w1 ⟨rfl, hb1⟩
        have HO1 := Lib.hid (HO0.out.below hb1)
        have HB1 := Lib.hid (bel_trans HB0.out hb1)
        clear hb1
        go_wp2_with fail
        go_ret
        exact ⟨_, 0, 0, [], rfl, by rw [HV.out]; exact HO1.out, HB1.out⟩
      · have h0I : ¬ (0 : Int) < (n : Int) := by omega
        clear h0
        go_wp2_with fail
        go_ret
        exact ⟨_, 0, 0, [], rfl, by rw [HV.out]; exact HO0.out, HB0.out⟩
  | true =>
    have hn8 := (shape_len hs).2
    have hn1 := (shape_len hs).1
    rw [hl] at hn8 hn1
    have HV : Hid (parV xs = parTo xs n) := by show _ = _; unfold parV; rw [if_pos hs, hl]
    have HS := Lib.hid hs
    obtain ⟨g, off, hAe, hg, hx1, hx2⟩ := RdC.at_ hr (show 0 < xs.length by omega)
    clear hx1 hx2
    subst hAe
    clear hl hr hs
    have HB0 := Lib.hid (bel_alloc (Below.refl w.heap.size w) (.cells #[] 52))
    go_enter Tryz.func41, Tryz.ntmps41
    go_wp2_with fail
    go_loopw [4, 3] (fun e4 e3 wr => ∃ (i q cq : Nat) (gd : Nat) (hs : List H), i ≤ n ∧ e4 = .int .i64 i ∧ e3 = .slice (some ⟨gd, 0, none⟩) q cq ∧ OwnF w.heap.size wr (some ⟨gd, 0, none⟩) q cq hs (parTo xs i) ∧ Below w.heap.size w wr) (fun e4 _ _ => n - (intOf e4).toNat)
    case atStart => exact ⟨0, 0, 0, _, [], Nat.zero_le _, rfl, rfl, HO0.out, HB0.out⟩
    case round =>
      clear HB0 HO0
      obtain ⟨i, q, cq, gd, hs, hi, rfl, rfl, hO, hb⟩ := hrel
      have hq8 : q ≤ 8 := by have h1 := parTo_len xs i; have h2 := hO.flen; omega
      have HO := Lib.hid hO
      have HB := Lib.hid hb
      have hbs := hb.size
      clear hO hb
      by_cases hlt : i < n
      · have hi0 : (0 : Int) ≤ (i : Int) := by omega
        have hi1 : (i : Int) < (n : Int) := by omega
        have hic : (i : Int) ≤ (c : Int) := by omega
        obtain ⟨j, hj⟩ : ∃ j, i + 1 = j := ⟨_, rfl⟩
        have hjI : (i : Int) + 1 = (j : Int) := by omega
        have ej : IntKind.i64.wrap (j : Int) = (j : Int) := Go.IntWalk.i64_in _ (by omega)
        have hj0 : (0 : Int) ≤ (j : Int) := by omega
        have hjn : (j : Int) ≤ (n : Int) := by omega
        have hjl : j ≤ n := by omega
        have hu1 : ∀ wq, (Instr.slice 52 (.slice (some ⟨g, off, none⟩) n c) none (some (.int .i64 (i : Int))) none).run Tryz.prog wq = .ok (.slice (some ⟨g, off, none⟩) i c) wq := fun wq => run_uptoD wq _ n c i (by omega)
        have hu2 : ∀ wq, (Instr.slice 52 (.slice (some ⟨g, off, none⟩) n c) (some (.int .i64 (j : Int))) none none).run Tryz.prog wq = .ok (.slice (some ⟨g, offD off c j, none⟩) (n - j) (c - j)) wq := fun wq => run_fromD wq g off n c j hjl
        obtain ⟨r, hrq⟩ : ∃ r, n - j = r := ⟨_, rfl⟩
        obtain ⟨cr, hcr⟩ : ∃ cr, c - j = cr := ⟨_, rfl⟩
        obtain ⟨o2, ho2⟩ : ∃ o2, offD off c j = o2 := ⟨_, rfl⟩
        have HT1 : Hid (Rd w (some ⟨g, off, none⟩) (vC (xs.take i))) := HR.out.uptoD i
        have HT2 : Hid (Rd w (some ⟨g, o2, none⟩) (vC (xs.drop j))) := by have h := HR.out.fromD (k := j) HL.out hc; rw [ho2] at h; exact h
        have HT1L : Hid ((xs.take i).length = i) := by show _ = _; rw [List.length_take, HL.out]; omega
        have HT2L : Hid ((xs.drop j).length = r) := by show _ = _; rw [List.length_drop, HL.out]; exact hrq
        rw [ho2, hrq, hcr] at hu2
        have HDR : Hid (xs.take i ++ xs.drop j = dropC xs i) := by show _ = _; rw [← hj]; rfl
        have hsd : i + r = 0 ∨ isShape (dropC xs i) = true := by
          by_cases h2 : 2 ≤ n
          · exact .inr (dropC_shape HS.out (by rw [HL.out]; exact hlt) (by rw [HL.out]; exact h2))
          · exact .inl (by omega)
        have hst := parTo_succ xs i
        have hfi := parTo_fine xs i
        have hir : i + r ≤ 8 := by omega
        obtain ⟨F, hF⟩ : ∃ F, parTo xs i = F := ⟨_, rfl⟩
        obtain ⟨t, ht⟩ : ∃ t, dropC xs i = t := ⟨_, rfl⟩
        rw [hF, ht] at hst
        rw [hF] at hfi HO
        rw [ht] at hsd HDR
        obtain ⟨b, hbv⟩ : ∃ b, isConn t = b := ⟨_, rfl⟩
        rw [hbv] at hst
        have HBV := Lib.hid hbv
        have HST := Lib.hid hst
        have HFI := Lib.hid hfi
        have HSD := Lib.hid hsd
        have HFL : Hid (∀ x ∈ F, x.length ≤ 1048576) := fun x hx => by have := hfi.len x hx; omega
        have HJ := Lib.hid hj
        clear hst hfi hsd hF ht hbv hrq hcr ho2 hj
        go_wp2_with fail
        refine (IsShape_s _ n c xs _ (HR.out.below HB.out) HL.out (by omega)).mono ?_
        rw [HS.out]
        rintro e ws ⟨rfl, hbs1⟩
        have HBs := Lib.hid (bel_trans HB.out hbs1)
        have HOs := Lib.hid (HO.out.below hbs1)
        have hss := hbs1.size
        clear hbs1 HB HO
        have HB := HBs
        have HO := HOs
        clear HBs HOs
        go_wp2_with fail
        refine wp_region_rg 11 rfl (by kernel_rfl) ?_
        (refine rgT (i := 1) (v := ?_) rfl rfl (by kernel_rfl) (by kernel_rfl) (by kernel_rfl) (by rfl) (fun w' hcw => ?_) ?_; rotate_left; ((try dsimp only at hcw); have hbc := hcw.cells; go_simp; first | done | with_reducible rfl); simp only [List.setIfInBounds_toArray, List.set_cons_zero, List.set_cons_succ])
        (refine rgT (i := 2) (v := ?_) rfl rfl (by kernel_rfl) (by kernel_rfl) (by kernel_rfl) (by rfl) (fun w' hcw => ?_) ?_; rotate_left; ((try dsimp only at hcw); have hbc := hcw.cells; go_simp; first | done | with_reducible rfl); simp only [List.setIfInBounds_toArray, List.set_cons_zero, List.set_cons_succ])
        (refine rgT (i := 3) (v := ?_) rfl rfl (by kernel_rfl) (by kernel_rfl) (by kernel_rfl) (by rfl) (fun w' hcw => ?_) ?_; rotate_left; ((try dsimp only at hcw); have hbc := hcw.cells; go_simp; first | done | with_reducible rfl); simp only [List.setIfInBounds_toArray, List.set_cons_zero, List.set_cons_succ])
        (refine rgT (i := 5) (v := ?_) rfl rfl (by kernel_rfl) (by kernel_rfl) (by kernel_rfl) (by rfl) (fun w' hcw => ?_) ?_; rotate_left; ((try dsimp only at hcw); have hbc := hcw.cells; go_simp; first | done | with_reducible rfl); simp only [List.setIfInBounds_toArray, List.set_cons_zero, List.set_cons_succ])
        (refine rgT (i := 6) (v := ?_) rfl rfl (by kernel_rfl) (by kernel_rfl) (by kernel_rfl) (by rfl) (fun w' hcw => ?_) ?_; rotate_left; ((try dsimp only at hcw); have hbc := hcw.cells; go_simp; first | done | with_reducible rfl); simp only [List.setIfInBounds_toArray, List.set_cons_zero, List.set_cons_succ])
        (refine rgT (i := 7) (v := ?_) rfl rfl (by kernel_rfl) (by kernel_rfl) (by kernel_rfl) (by rfl) (fun w' hcw => ?_) ?_; rotate_left; ((try dsimp only at hcw); have hbc := hcw.cells; go_simp; first | done | with_reducible rfl); simp only [List.setIfInBounds_toArray, List.set_cons_zero, List.set_cons_succ])
        (refine rgT (i := 8) (v := ?_) rfl rfl (by kernel_rfl) (by kernel_rfl) (by kernel_rfl) (by rfl) (fun w' hcw => ?_) ?_; rotate_left; ((try dsimp only at hcw); have hbc := hcw.cells; go_simp; first | done | with_reducible rfl); simp only [List.setIfInBounds_toArray, List.set_cons_zero, List.set_cons_succ])
        refine rgK_one (i := 0) (by kernel_rfl) rfl rfl (fun u0 hc0 he0 K hK => ?_)
        go_simp
        have hN0 : (u0.alloc (.cells #[] 87)).ownsRow u0.heap.size 87 2 (.slice (some ⟨u0.heap.size, 0, none⟩) 0 0) 0 (vC []) := own_new u0 _ 2 0 #[] rfl (by simp [maxLen]) (Nat.le_refl _)
        refine hK _ _ (bel_alloc hc0 _) ?_
        clear hK K
        refine rgK_one (i := 4) (by kernel_rfl) rfl rfl (fun ua hca hea K hK => ?_)
        refine wpCE ua _ _ rfl rfl u0.heap.size (some ⟨u0.heap.size, 0, none⟩) 0 0 [] rfl (own_keep hN0 hea) (some ⟨g, off, none⟩) i c (xs.take i) rfl (HT1.out.below (bel_trans HB.out hca)) HT1L.out (by omega) (Nat.le_trans (Nat.le_of_lt (by simp)) hea.size) ?_
        intro E ce ub hE hgb _
        rw [List.nil_append, Nat.zero_add] at hE
        simp only [Nat.zero_add, List.setIfInBounds_toArray, List.set_cons_zero, List.set_cons_succ]
        have hcb : Below ws.heap.size ws ub := bel_app hca hgb (fun b e => by simp only [ob, Option.map_some, Option.some.injEq] at e; have h2 := hc0.size; omega)
        refine hK _ _ hcb ?_
        clear hK K
        refine rgK_one (i := 9) (by kernel_rfl) rfl rfl (fun uc hcc hec K hK => ?_)
        refine wpCE uc _ _ rfl rfl u0.heap.size E i ce (xs.take i) rfl (own_keep hE hec) (some ⟨g, o2, none⟩) r cr (xs.drop j) rfl (HT2.out.below (bel_trans HB.out hcc)) HT2L.out (by omega) (by have h1 : u0.heap.size ≤ ua.heap.size := Nat.le_trans (Nat.le_of_lt (by simp)) hea.size; have h2 := hgb.size; have h3 := hec.size; omega) ?_
        intro E2 ce2 ud hE2 hgd _
        rw [HDR.out] at hE2
        simp only [List.setIfInBounds_toArray, List.set_cons_zero, List.set_cons_succ]
        have hcd : Below ws.heap.size ws ud := bel_app hcc hgd (fun b e => by have h1 := (own_lt hE b e).1; have h2 := hc0.size; omega)
        refine hK _ _ hcd ?_
        clear hK K
        (refine rgT (i := 10) (v := ?_) rfl rfl (by kernel_rfl) (by kernel_rfl) (by kernel_rfl) (by rfl) (fun w' hcw => ?_) ?_; rotate_left; ((try dsimp only at hcw); have hbc := hcw.cells; go_simp; first | done | with_reducible rfl); simp only [List.setIfInBounds_toArray, List.set_cons_zero, List.set_cons_succ])
        refine ⟨by kernel_rfl, fun wz hcz hez => NoPanic.normal ?_⟩
        have HE := Lib.hid ((CRow.of_own hE2).below hez)
        have HBZ := Lib.hid (bel_trans HB.out hcz)
        have HOZ := Lib.hid (HO.out.below hcz)
        have hzs := hcz.size
        clear hc0 he0 hN0 hca hea hcb hcc hec hcd hez hcz hE hE2 hgd hgb hu1 hu2
        obtain ⟨m, hm⟩ : ∃ m, i + r = m := ⟨_, rfl⟩
        rw [hm] at HE hir HSD ⊢
        clear hm
        go_wp2_with fail
        refine (IsConnectedShape_s E2 m ce2 t _ HE.out.2.1 HE.out.1 (by omega)).mono ?_
        rw [HBV.out]
        rintro e wh ⟨rfl, hbh⟩
        have HEH := Lib.hid (HE.out.below hbh)
        have HBH := Lib.hid (bel_trans HBZ.out hbh)
        have HOH := Lib.hid (HOZ.out.below hbh)
        clear hbh
        cases b with
        | false =>
          have HNX : Hid (parTo xs (i + 1) = F) := by show _ = _; rw [HST.out]; rfl
          go_wp2_with fail
          exact ⟨⟨i + 1, q, cq, gd, hs, by omega, by go_num, rfl, by rw [HNX.out]; exact HOH.out, HBH.out⟩, by simp [intOf]; omega⟩
        | true =>
          have hsh := conn_shape HBV.out
          have hcs := (shape_len (corn_conn HBV.out)).2
          have hce : cornS t = cornI t := (cornI_shape hsh).symm
          obtain ⟨u, hu⟩ : ∃ u, cornI t = u := ⟨_, rfl⟩
          have HNX : Hid (parTo xs (i + 1) = putG ltS F u) := by show _ = _; rw [HST.out, if_pos rfl, hu]
          have HCO : Hid (∀ w', Rd w' E2 (vC t) → Calls Tryz.prog 99 #[.slice E2 m ce2] w' (RetS w' 87 2 (vC u))) := fun w' h => by have h2 := l2Corner_s E2 m ce2 t w' h HEH.out.1 (by omega) (shape_small hsh); rw [hce, hu] at h2; exact h2
          rw [hu] at hcs
          clear hu hsh hce
          go_wp2_with fail
          refine (HCO.out _ HEH.out.2.1).mono ?_
          rintro e wk ⟨G, mg, cg, rfl, hG, hbk⟩
          have hgl : u.length = mg := by have h := own_len hG; rw [vC_length] at h; omega
          have HG := Lib.hid (CRow.of_own hG)
          have HOK := Lib.hid (HOH.out.below hbk)
          have HBK := Lib.hid (bel_trans HBH.out hbk)
          have hks := HBK.out.size
          have hmg : mg ≤ 1048576 := by omega
          clear hG hbk hgl
          go_wp2_with fail
          refine (l3Put_s gd q cq hs F G mg cg u w.heap.size _ HOK.out HG.out HFL.out hmg (by omega) hks).mono ?_
          rintro e w3 ⟨D3, n3, c3, hs3, rfl, hO3, hb3⟩
          have HO3 := Lib.hid hO3
          have HB3 := Lib.hid (bel_trans HBK.out hb3)
          clear hO3 hb3
          go_wp2_with fail
          exact ⟨⟨i + 1, n3, c3, D3, hs3, by omega, by go_num, rfl, by rw [HNX.out]; exact HO3.out, HB3.out⟩, by simp [intOf]; omega⟩
      · obtain rfl : i = n := by omega
        have hi1 : ¬ (i : Int) < (i : Int) := by omega
        go_wp2_with fail
        go_ret
        exact ⟨gd, q, cq, hs, rfl, by rw [HV.out]; exact HO.out, HB.out⟩
set_option maxRecDepth 100000 in
set_option maxHeartbeats 3200000 in
theorem sameShapes_t (A B : Option Addr) (n c m d : Nat) (hs1 hs2 : List H) (F : List (List C)) (w : World) (h1 : RdF w A n hs1 F) (h2 : RdF w B m hs2 F) (hn : n ≤ 1048576) (hF : ∀ x ∈ F, x.length ≤ 1048576) :
    Calls Tryz.prog 29 #[.slice A n c, .slice B m d] w (Ret w (.bool true)) := by
  obtain rfl : n = m := h1.flen.symm.trans h2.flen
  have H1 := Lib.hid h1
  have H2 := Lib.hid h2
  have HF := Lib.hid hF
  have hne : ((n : Int) != (n : Int)) = false := by simp
  clear h1 h2 hF
  go_enter Tryz.func29, Tryz.ntmps29
  go_wp2_with fail
  go_loopw [5] (fun e5 wr => ∃ j : Nat, j ≤ n ∧ e5 = .int .i64 j ∧ Below w.heap.size w wr) (fun e5 _ => n - (intOf e5).toNat)
  case atStart => exact ⟨0, Nat.zero_le _, rfl, Below.refl _ _⟩
  case round =>
    obtain ⟨j, hj, rfl, hb⟩ := hrel
    by_cases hlt : j < n
    · have hj0 : (0 : Int) ≤ (j : Int) := by omega
      have hj1 : (j : Int) < (n : Int) := by omega
      obtain ⟨x, f, g, off, _, hf, hA, hg, d1, hcr⟩ := (H1.out.below hb).at_ hlt
      obtain ⟨x2, f2, g2, off2, _, hf2, hA2, hg2, d2, hcr2⟩ := (H2.out.below hb).at_ hlt
      obtain rfl : f = f2 := Option.some.inj (hf.symm.trans hf2)
      have hfl := HF.out f (List.mem_of_getElem? hf)
      obtain ⟨E, m1, k1⟩ := x
      obtain ⟨E2, m2, k2⟩ := x2
      dsimp only at d1 d2
      have hm1 := hcr.1
      have hm2 := hcr2.1
      dsimp only at hm1 hm2
      have HC1 := Lib.hid hcr
      have HC2 := Lib.hid hcr2
      have hl1 : m1 ≤ 1099511627776 := by omega
      have hl2 : m2 ≤ 1099511627776 := by omega
      have HEQ : Hid (∀ w', Below wr.heap.size wr w' → Calls Tryz.prog 43 #[.slice E m1 k1, .slice E2 m2 k2] w' (Ret w' (.bool true))) := fun w' hb' => by
        have h := EqualShapes_s E E2 m1 k1 m2 k2 f f w' (HC1.out.below hb').2.1 (HC2.out.below hb').2.1 HC1.out.1 HC2.out.1 hl1 hl2
        rwa [decide_eq_true rfl] at h
      subst hA hA2
      clear hf hf2 hcr hcr2 hfl hm1 hm2
      go_wp2_with fail
      (refine wp_region_below (by kernel_rfl) (by kernel_rfl) ?_; (repeat (first | go_big_quiet_skip | (refine quietV (v := ?_) (by rfl) rfl (fun w' hbw => ?_) ?_; rotate_left; ((try dsimp only at hbw); have hbc := (bcell hbw).1; have hbf := (bcell hbw).2; go_simp; first | done | with_reducible rfl | (with_reducible exact callsB (v := .bool true) (HEQ.out _ (by with_reducible assumption)) hbw)); simp only [List.setIfInBounds_toArray, List.set_cons_zero, List.set_cons_succ]))); refine wpQuiet_nil ?_; intro wq hbq)
      go_wp2_with fail
      exact ⟨⟨j + 1, by omega, by go_num, bel_trans hb hbq⟩, by simp [intOf]; omega⟩
    · have hj1 : ¬ (j : Int) < (n : Int) := by omega
      go_wp2_with fail
      go_ret
      exact ⟨rfl, hb⟩
end Go.Proofs.YtkcgdnnipohehaaGreatDoor

/- Shapes counted by growth: the reference. -/
namespace Go.Proofs.YtkcgdnnipohehaaGreatDoor
open Go.RowKit
set_option linter.unusedVariables false
attribute [local go_sem ↓] Go.wp_at_zero Go.wp_at_succ

theorem run_uptoG (w : World) (A : Option Addr) (m c k : Nat) (hk : k ≤ c) (hA : 0 < m → ∃ g o, A = some ⟨g, o, none⟩) (hm : 0 < m) : (Instr.slice 52 (.slice A m c) none (some (.int .i64 (k : Int))) none).run Tryz.prog w = .ok (.slice A k c) w := by
  obtain ⟨g, o, rfl⟩ := hA hm
  have h2 : (k : Int) ≤ (c : Int) := by omega
  simp [go_sem, h2]
theorem own_lit (w : World) {base : Nat} (h : base ≤ w.heap.size) : (w.alloc (.cells #[] 87)).ownsRow base 87 2 (.slice (some ⟨w.heap.size, 0, none⟩) 0 0) 0 (vC []) := own_new w _ 2 0 #[] rfl (by simp [maxLen]) h
theorem own_kept3 {w w' : World} {base e size n c : Nat} {A : Option Addr} {xs : List Value} {X : Option Addr} (h : w.ownsRow base e size (.slice A n c) n xs) (hg : w.grownBy w' (ob X)) (hn : ∀ g, ob A = some g → ob X ≠ some g) : w'.ownsRow base e size (.slice A n c) n xs :=
  h.kept hg (by
    rw [ownBlock_slice]
    cases hA : ob A with
    | none => exact .inl rfl
    | some g => right; intro e; exact hn g hA e.symm)
theorem own_ext {w w' : World} {o : Obj} (h : (w.alloc o).grownBy w' (ob (some ⟨w.heap.size, 0, none⟩))) : Below w.heap.size w w' :=
  ⟨h.os, h.tape, h.output, by have := h.size; simp at this; omega, fun k hk => (h.block k (by simp; omega) (by simp [ob]; omega)).trans (Below.heap_alloc w o k hk)⟩
theorem own_cap2 {w : World} {base e n c : Nat} {A : Option Addr} {xs : List Value} (h : w.ownsRow base e 2 (.slice A n c) n xs) : n ≤ c ∧ c ≤ 9223372036854775807 := by
  rcases h.2 with ⟨hv, rfl⟩ | ⟨g', cap, cur, hv, _, _, h1, h2, _⟩
  · injection hv with _ _ h3; omega
  · injection hv with _ _ h3
    unfold maxLen at h2
    omega
/-- The length of a slice. -/
def lenOf1 (v : Value) : Nat := match v with
  | .slice _ n _ => n
  | _ => 0
set_option maxRecDepth 100000 in
set_option maxHeartbeats 6400000 in
theorem l25Grow_s : ∀ (l : Nat) (A : Option Addr) (n c : Nat) (u : List C) (B : Option Addr) (m d : Nat) (s : List C) (w : World) (hr : Rd w A (vC u)) (hr2 : Rd w B (vC s)) (hl : u.length = n) (hl2 : s.length = m) (hnc : n ≤ c) (hc : c ≤ 9223372036854775807)
    (hb1 : n + 4 * l ≤ 24) (hb2 : m + 4 * l ≤ 100) (hu : ∀ x ∈ u, near0 (20 - l) x) (hs : ∀ x ∈ s, near0 (20 - l) x) (hl5 : l ≤ 5),
    Calls Tryz.prog 115 #[.int .i64 ((l + 1 : Nat) : Int), .slice A n c, .slice B m d] w (Ret w (.int .i64 (growC l u s : Nat))) := by
  intro l
  induction l with
  | zero =>
    intro A n c u B m d s w hr hr2 hl hl2 hnc hc hb1 hb2 hu hs hl5
    have HL := Lib.hid hl
    have HV : Hid (growC 0 u s = n) := hl
    have hr' := Lib.hid hr
    clear hr2 hl hl2 hu hs
    go_enter Tryz.func115, Tryz.ntmps115
    go_wp2
    go_loopw [1, 7] (fun e1 e7 wr => ∃ (k a : Nat), k ≤ n ∧ e1 = .slice A k c ∧ e7 = .int .i64 a ∧ a + k = n ∧ Below w.heap.size w wr) (fun e1 _ _ => (lenOf1 e1))
    case atStart => exact ⟨n, 0, Nat.le_refl _, rfl, rfl, by omega, Below.refl _ _⟩
    case round =>
      obtain ⟨k, a, hk, rfl, rfl, ha, hb⟩ := hrel
      by_cases hk0 : 0 < k
      · obtain ⟨j, hj⟩ : ∃ j, k = j + 1 := ⟨k - 1, by omega⟩
        have hjl : j < u.length := by rw [HL.out]; omega
        obtain ⟨g, off, hA, hg, d1, d2⟩ := RdC.at_ (hr'.out.below hb) hjl
        subst hA
        obtain ⟨x, hx⟩ : ∃ x, u[j].1 = x := ⟨_, rfl⟩
        obtain ⟨y, hy⟩ : ∃ y, u[j].2 = y := ⟨_, rfl⟩
        rw [hx] at d1
        rw [hy] at d2
        have hj1 : (k : Int) - 1 = (j : Int) := by omega
        have hjw : IntKind.i64.wrap (j : Int) = (j : Int) := Go.IntWalk.i64_in _ (by omega)
        have hj0 : (0 : Int) ≤ (j : Int) := by omega
        have hjk : (j : Int) < (k : Int) := by omega
        have hsl : ∀ w', (Instr.slice 52 (.slice (some ⟨g, off, none⟩) k c) none (some (.int .i64 (j : Int))) none).run Tryz.prog w' = .ok (.slice (some ⟨g, off, none⟩) j c) w' := fun w' => run_uptoG w' _ k c j (by omega) (fun _ => ⟨_, _, rfl⟩) hk0
        have haw : IntKind.i64.wrap ((a : Int) + 1) = (a : Int) + 1 := Go.IntWalk.i64_in _ (by omega)
        have HJ := Lib.hid hj
        clear hx hy hj
        go_wp2_with fail
        exact ⟨⟨j, a + 1, by omega, rfl, by go_num, by have := HJ.out; omega, bel_alloc hb _⟩, by simp [lenOf1]; have := HJ.out; omega⟩
      · obtain rfl : k = 0 := by omega
        have HN : Hid (a = n) := by show a = n; omega
        clear hk0
        go_wp2
        go_ret
        exact ⟨by rw [HV.out, ← HN.out]; rfl, hb⟩
  | succ l ih =>
    intro A n c u B m d s w hr hr2 hl hl2 hnc hc hb1 hb2 hu hs hl5
    obtain ⟨q, hq⟩ : ∃ q : Nat, l + 1 + 1 = q := ⟨_, rfl⟩
    obtain ⟨p, hp⟩ : ∃ p : Nat, l + 1 = p := ⟨_, rfl⟩
    have hqp : (q : Int) - 1 = (p : Int) := by omega
    have hpw : IntKind.i64.wrap (p : Int) = (p : Int) := Go.IntWalk.i64_in _ (by omega)
    have hq1 : ((q : Int) == 1) = false := by rw [beq_eq_false_iff_ne]; omega
    have HIH := Lib.hid ih
    have HP := Lib.hid hp
    have HL := Lib.hid hl
    have HL2 := Lib.hid hl2
    have HR := Lib.hid hr
    have HR2 := Lib.hid hr2
    have HU := Lib.hid hu
    have HS := Lib.hid hs
    have hgle := growC_le (l + 1) u s (by omega)
    have h25 : 25 ^ (l + 1 + 1) ≤ 244140625 := by
      have : 25 ^ (l + 1 + 1) ≤ 25 ^ 6 := Nat.pow_le_pow_right (by omega) (by omega)
      simpa using this
    have htot : growK (l + 1) u s n = growC (l + 1) u s := by rw [← hl]; exact growK_all _ _ _
    obtain ⟨tot, htt⟩ : ∃ tot, growC (l + 1) u s = tot := ⟨_, rfl⟩
    rw [htt] at hgle htot
    have HT := Lib.hid htt
    have HTOT := Lib.hid htot
    have htb : tot ≤ 244140625 := by omega
    have hmm100 : m ≤ 100 := by omega
    rw [hq]
    clear ih hl hl2 hr hr2 hu hs hp hq hgle h25 htot htt
    go_enter Tryz.func115, Tryz.ntmps115
    go_wp2
    go_loopw [1, 7] (fun e1 e7 wr => ∃ (k a : Nat), k ≤ n ∧ e1 = .slice A k c ∧ e7 = .int .i64 a ∧ a + growK (l + 1) u s k = tot ∧ Below w.heap.size w wr) (fun e1 _ _ => (lenOf1 e1))
    case atStart => exact ⟨n, 0, Nat.le_refl _, rfl, rfl, by rw [Nat.zero_add]; exact HTOT.out, Below.refl _ _⟩
    case round =>
      obtain ⟨k, a, hk, rfl, rfl, ha, hb⟩ := hrel
      obtain ⟨v, hv⟩ : ∃ v, v = wr := ⟨_, rfl⟩
      subst hv
      have HA := Lib.hid ha
      clear ha
      by_cases hk0 : 0 < k
      · obtain ⟨j, hj⟩ : ∃ j, k = j + 1 := ⟨k - 1, by omega⟩
        have hjl : j < u.length := by rw [HL.out]; omega
        obtain ⟨g, off, hA, hg, d1, d2⟩ := RdC.at_ (HR.out.below hb) hjl
        subst hA
        have hgs := growK_succ (l + 1) u s j
        have htm : termC (l + 1) u s j = 1 + growC l (more4 (u.getD j default) (u.take j) s 4).1 (more4 (u.getD j default) (u.take j) s 4).2 := rfl
        have hnx := HU.out _ (List.getElem_mem hjl)
        obtain ⟨px, hx⟩ : ∃ x, u[j].1 = x := ⟨_, rfl⟩
        obtain ⟨py, hy⟩ : ∃ y, u[j].2 = y := ⟨_, rfl⟩
        have hxy : u[j] = (px, py) := Prod.ext hx hy
        rw [hx] at d1
        rw [hy] at d2
        rw [hxy] at hnx
        rw [getD_in u hjl, hxy] at htm
        rw [htm] at hgs
        have hj1 : (k : Int) - 1 = (j : Int) := by omega
        have hjw : IntKind.i64.wrap (j : Int) = (j : Int) := Go.IntWalk.i64_in _ (by omega)
        have hj0 : (0 : Int) ≤ (j : Int) := by omega
        have hjk : (j : Int) < (k : Int) := by omega
        have hsl : ∀ w', (Instr.slice 52 (.slice (some ⟨g, off, none⟩) k c) none (some (.int .i64 (j : Int))) none).run Tryz.prog w' = .ok (.slice (some ⟨g, off, none⟩) j c) w' := fun w' => run_uptoG w' _ k c j (by omega) (fun _ => ⟨_, _, rfl⟩) hk0
        have hat : a < tot := by have h1 := HA.out; rw [hj, hgs] at h1; omega
        have haw : IntKind.i64.wrap ((a : Int) + 1) = (a : Int) + 1 := Go.IntWalk.i64_in _ (by omega)
        have hml4 := more4_len (px, py) (u.take j) s
        have hmn4 := more4_near hnx (a := u.take j) (b := s) (fun c hc => by have := HU.out c (List.mem_of_mem_take hc); unfold near0 at this ⊢; omega) (fun c hc => by have := HS.out c hc; unfold near0 at this ⊢; omega)
        have HJ := Lib.hid hj
        have HGS := Lib.hid hgs
        have HM4 := Lib.hid hml4
        have HN4 := Lib.hid hmn4
        have HNX := Lib.hid hnx
        have HRT : Hid (Rd v (some ⟨g, off, none⟩) (vC (u.take j))) := by show Rd _ _ _; rw [vC_take]; exact Rd.take (HR.out.below hb) _
        have HTL : Hid ((u.take j).length = j) := by show _ = j; rw [List.length_take]; omega
        have HR2v := Lib.hid (HR2.out.below hb)
        have hvz := hb.size
        have HLIT : Hid (((v.alloc (.cells #[.int .i64 px, .int .i64 py] 87)).alloc (.cells #[] 87)).ownsRow (v.heap.size + 1) 87 2 (.slice (some ⟨v.heap.size + 1, 0, none⟩) 0 0) 0 (vC [])) := by
          have := own_lit (v.alloc (.cells #[.int .i64 px, .int .i64 py] 87)) (base := v.heap.size + 1) (by simp)
          exact Lib.hid (by simpa using this)
        clear hx hy hxy hj hgs htm hml4 hmn4 hnx
        go_wp2_with (at_builtin; first
          | (refine app_C _ rfl _ _ rfl (v.heap.size + 1) _ 0 0 [] rfl HLIT.out _ _ _ (u.take j) rfl (HRT.out.below (bel_alloc (bel_alloc (Below.refl _ _) _) _)) HTL.out (by omega) (by simp <;> omega) ?_; intro M cm w2 ho2 hg2 hat2; simp only [Nat.zero_add, List.nil_append] at ho2; have HM := Lib.hid ho2; have HX2 : Hid (Below v.heap.size v w2) := bel_app (bel_alloc (bel_alloc (Below.refl _ _) _) _) hg2 (fun g h => by simp [ob] at h; omega); have HBX2 := Lib.hid (((Blk.new v 87 #[.int .i64 px, .int .i64 py]).alloc (.cells #[] 87)).grown hg2 (by simp [ob])); have HML := Lib.hid (own_lt ho2); have hz2 := hg2.size; clear ho2 hg2 hat2)
          | (refine app_C _ rfl _ _ rfl (v.heap.size + 1) _ 0 0 [] rfl (own_lit _ (by (try simp at hz2); (try simp); omega)) _ _ _ s rfl (HR2v.out.below (bel_alloc HX2.out _)) HL2.out (by omega) (by (try simp at hz2); (try simp); omega) ?_; intro K ck w3 ho3 hg3 hat3; simp only [Nat.zero_add, List.nil_append] at ho3; have HK := Lib.hid ho3; have HG3 := Lib.hid hg3; have HAT3 := Lib.hid hat3; clear ho3 hg3 hat3))
        (try simp only [World.size_alloc] at hz2)
        have hM3 := own_keep HM.out (own_ext HG3.out)
        have HSEP : Hid (∀ g, ob M = some g → ob K ≠ some g) := fun g e r => by
          have h1 := (HML.out g e).2
          rcases HAT3.out with h | h
          · rw [h] at r; simp [ob] at r; omega
          · rw [h] at r; simp at r; omega
        have HM3 := Lib.hid hM3
        have HBX3 := Lib.hid ((HBX2.out.alloc (.cells #[] 87)).grown HG3.out (by simp [ob]; omega))
        have HBI3 : Hid (Below w.heap.size w w3) := bel_trans hb (bel_trans HX2.out (own_ext HG3.out))
        clear hM3
        go_loopw [11, 9, 10] (fun e11 e9 e10 wr2 => ∃ (i mm cm : Nat) (M : Option Addr) (mk ck : Nat) (K : Option Addr) (ml kl : List C), i ≤ 4 ∧ e11 = .int .i64 i ∧ e9 = .slice M mm cm ∧ e10 = .slice K mk ck ∧ more4 (px, py) (u.take j) s i = (ml, kl) ∧
            wr2.ownsRow (v.heap.size + 1) 87 2 (.slice M mm cm) mm (vC ml) ∧ wr2.ownsRow (v.heap.size + 1) 87 2 (.slice K mk ck) mk (vC kl) ∧ (∀ g, ob M = some g → ob K ≠ some g) ∧ Blk wr2 v.heap.size 87 #[.int .i64 px, .int .i64 py] ∧ Below w.heap.size w wr2) (fun e11 _ _ _ => 4 - (intOf e11).toNat)
        case atStart => exact ⟨0, j, cm, M, m, ck, K, u.take j, s, Nat.zero_le _, rfl, rfl, rfl, rfl, HM3.out, HK.out, HSEP.out, HBX3.out, HBI3.out⟩
        case round =>
          clear HM HX2 HBX2 HML HK HG3 HAT3 hz2 HSEP HM3 HBX3 HBI3 d1 d2 hg hsl HLIT HR2v
          obtain ⟨i, mm, cm, M, mk, ck, K, ml, kl, hi4, rfl, rfl, rfl, hmk, hM, hK, hsep, hBX, hbi⟩ := hrel
          have hmll : ml.length = mm := by have := own_len hM; rw [vC_length] at this; omega
          have hkll : kl.length = mk := by have := own_len hK; rw [vC_length] at this; omega
          have hlen4 := HM4.out i hi4
          rw [hmk] at hlen4
          have hmmb : mm ≤ j + i := by have := hlen4.1; rw [HTL.out] at this; simp only at this; omega
          have hmkb : mk ≤ m + i := by have := hlen4.2; rw [HL2.out] at this; simp only at this; omega
          have hjn : j + 1 ≤ n := by have := HJ.out; omega
          have HKL := Lib.hid hkll
          have HMLL := Lib.hid hmll
          have HMK := Lib.hid hmk
          have HOM := Lib.hid hM
          have HOK2 := Lib.hid hK
          have HSEP := Lib.hid hsep
          have HBX := Lib.hid hBX
          clear hmll hkll hlen4 hM hK hsep
          by_cases hlt4 : i < 4
          · have hi0 : (0 : Int) ≤ (i : Int) := by omega
            have hi1 : (i : Int) < 4 := by omega
            have x0 : wr.cell? ⟨v.heap.size, 0, none⟩ = some (.int .i64 px) := by simpa using hBX.cell 0
            have x1 : wr.cell? ⟨v.heap.size, 1, none⟩ = some (.int .i64 py) := by simpa using hBX.cell 1
            have xl := hBX.lt
            have hstep := more4_succ (px, py) (u.take j) s i hlt4
            rw [hmk] at hstep
            obtain ⟨da, db, e1, e2, hd1, hd2, hab⟩ : ∃ da db : Int, ((1 : Int) - (i : Int)).tmod 2 = da ∧ ((2 : Int) - (i : Int)).tmod 2 = db ∧ (-1 ≤ da ∧ da ≤ 1) ∧ (-1 ≤ db ∧ db ≤ 1) ∧ (sidesS (px, py)).getD i default = (px + da, py + db) := by
              rcases (by omega : i = 0 ∨ i = 1 ∨ i = 2 ∨ i = 3) with rfl | rfl | rfl | rfl
              · exact ⟨1, 0, by decide, by decide, by omega, by omega, by simp [sidesS]⟩
              · exact ⟨0, 1, by decide, by decide, by omega, by omega, by simp [sidesS]⟩
              · exact ⟨-1, 0, by decide, by decide, by omega, by omega, by simp [sidesS]; omega⟩
              · exact ⟨0, -1, by decide, by decide, by omega, by omega, by simp [sidesS]; omega⟩
            rw [hab] at hstep
            have hnear := HNX.out
            unfold near0 at hnear
            simp only at hnear
            obtain ⟨a0, ha0⟩ : ∃ a0, px + da = a0 := ⟨_, rfl⟩
            obtain ⟨b, hbb⟩ : ∃ b, py + db = b := ⟨_, rfl⟩
            rw [ha0, hbb] at hstep
            have w1 : IntKind.i64.wrap ((1 : Int) - (i : Int)) = (1 : Int) - (i : Int) := Go.IntWalk.i64_in _ (by omega)
            have w2 : IntKind.i64.wrap ((2 : Int) - (i : Int)) = (2 : Int) - (i : Int) := Go.IntWalk.i64_in _ (by omega)
            have w3 : IntKind.i64.wrap a0 = a0 := Go.IntWalk.i64_in _ (by omega)
            have w4 : IntKind.i64.wrap b = b := Go.IntWalk.i64_in _ (by omega)
            have w5 : IntKind.i64.wrap da = da := Go.IntWalk.i64_in _ (by omega)
            have w6 : IntKind.i64.wrap db = db := Go.IntWalk.i64_in _ (by omega)
            have HSTEP := Lib.hid hstep
            clear hstep hab hnear hd1 hd2 hBX hmk
            cases hokb : okY (a0, b) with
            | true =>
              have HOK := Lib.hid hokb
              have hok : b > 0 ∨ b = 0 ∧ a0 ≥ 0 := by unfold okY at hokb; simp at hokb; omega
              clear hokb
              rcases hok with hok | hok
              · have hbp : b > 0 := hok
                cases hh : hasC kl a0 b with
                | true =>
                  have HST2 : Hid (more4 (px, py) (u.take j) s (i + 1) = (ml, kl)) := by show _ = _; rw [HSTEP.out]; unfold stepM; simp only [HOK.out, hh]; rfl
                  have HH := Lib.hid hh
                  clear hh
                  go_wp2_with fail
                  refine (HasCell_s K mk ck kl a0 b _ ((Rd.of_own HOK2.out).alloc _) HKL.out (by omega)).mono ?_
                  rw [show hasC kl a0 b = true from HH.out]
                  rintro e w4 ⟨rfl, hb4⟩
                  have hx4 := bel_trans (bel_alloc (Below.refl _ _) _) hb4
                  go_wp2_with fail
                  exact ⟨⟨i + 1, mm, cm, M, mk, ck, K, ml, kl, by omega, by go_num, rfl, rfl, HST2.out, own_keep HOM.out hx4, own_keep HOK2.out hx4, HSEP.out, HBX.out.below hx4, bel_trans hbi hx4⟩, by simp [intOf]; omega⟩
                | false =>
                  have HST2 : Hid (more4 (px, py) (u.take j) s (i + 1) = (ml ++ [(a0, b)], kl ++ [(a0, b)])) := by show _ = _; rw [HSTEP.out]; unfold stepM; simp only [HOK.out, hh]; rfl
                  have HH := Lib.hid hh
                  clear hh
                  go_wp2_with fail
                  refine (HasCell_s K mk ck kl a0 b _ ((Rd.of_own HOK2.out).alloc _) HKL.out (by omega)).mono ?_
                  rw [show hasC kl a0 b = false from HH.out]
                  rintro e w4 ⟨rfl, hb4⟩
                  have hx4 := bel_trans (bel_alloc (Below.refl _ _) _) hb4
                  have hB4 := (Blk.new wr 87 #[.int .i64 a0, .int .i64 b]).below hb4
                  have y0 : w4.cell? ⟨wr.heap.size, 0, none⟩ = some (.int .i64 a0) := by simpa using hB4.cell 0
                  have y1 : w4.cell? ⟨wr.heap.size, 1, none⟩ = some (.int .i64 b) := by simpa using hB4.cell 1
                  have yl := hB4.lt
                  have HB4 := Lib.hid hB4
                  have HOM4 := Lib.hid (own_keep HOM.out hx4)
                  have HOK4 := Lib.hid (own_keep HOK2.out hx4)
                  have hz4 := hx4.size
                  have HML2 := Lib.hid (fun g (e : ob M = some g) => (own_lt HOM.out g e))
                  have HKL2 := Lib.hid (fun g (e : ob K = some g) => (own_lt HOK2.out g e))
                  clear hB4
                  go_wp2_with (at_builtin; first
                    | (refine app_C _ rfl _ _ rfl (v.heap.size + 1) M mm cm ml rfl (HOM4.out.alloc _) _ _ _ [(a0, b)] rfl (rd_newC _ _ _ _) rfl (by omega) (by simp <;> omega) ?_; intro M2 cm2 w5 ho5 hg5 hat5; have HO5 := Lib.hid ho5; have HG5 := Lib.hid hg5; have HAT5 := Lib.hid hat5; have hB5 := (HB4.out.alloc (.cells #[.int .i64 a0, .int .i64 b] 87)).grown hg5 (fun e => by have := (HML2.out _ e.symm).2; omega); have z0 : w5.cell? ⟨wr.heap.size, 0, none⟩ = some (.int .i64 a0) := (by simpa using hB5.cell 0); have z1 : w5.cell? ⟨wr.heap.size, 1, none⟩ = some (.int .i64 b) := (by simpa using hB5.cell 1); have zl := hB5.lt; have hz5 := hg5.size; have HK5 := Lib.hid (own_kept3 (HOK4.out.alloc (.cells #[.int .i64 a0, .int .i64 b] 87)) hg5 (fun g e r => HSEP.out g r e)); have HBX5 := Lib.hid (((HBX.out.below hx4).alloc (.cells #[.int .i64 a0, .int .i64 b] 87)).grown hg5 (fun e => by have := (HML2.out _ e.symm).1; omega)); have HBI5 : Hid (Below w.heap.size w w5) := bel_app (bel_alloc (bel_trans hbi hx4) _) hg5 (fun g e => by have := (HML2.out g e).1; omega); clear ho5 hg5 hat5 hB5 y0 y1 yl)
                    | (refine app_C _ rfl _ _ rfl (v.heap.size + 1) K mk ck kl rfl (HK5.out.alloc _) _ _ _ [(a0, b)] rfl (rd_newC _ _ _ _) rfl (by omega) (by (try simp at hz5); (try simp); omega) ?_; intro K2 ck2 w6 ho6 hg6 hat6; have HO6 := Lib.hid ho6; have HG6 := Lib.hid hg6; have HAT6 := Lib.hid hat6; clear ho6 hg6 hat6))
                  (try simp only [World.size_alloc] at hz5)
                  have HSEP5 : Hid (∀ g, ob M2 = some g → ob K ≠ some g) := fun g e r => by
                    rcases HAT5.out with h | h
                    · exact HSEP.out g (h ▸ e) r
                    · rw [h] at e
                      simp only [World.size_alloc, Option.some.injEq] at e
                      have := (HKL2.out g r).2
                      omega
                  have HM6 := Lib.hid (own_kept3 (HO5.out.alloc (.cells #[.int .i64 a0, .int .i64 b] 87)) HG6.out (fun g e r => HSEP5.out g e r))
                  have HSEP6 : Hid (∀ g, ob M2 = some g → ob K2 ≠ some g) := fun g e r => by
                    rcases HAT6.out with h | h
                    · exact HSEP5.out g e (h ▸ r)
                    · rw [h] at r
                      simp only [World.size_alloc, Option.some.injEq] at r
                      have := (own_lt HO5.out g e).2
                      omega
                  have HBX6 := Lib.hid ((HBX5.out.alloc (.cells #[.int .i64 a0, .int .i64 b] 87)).grown HG6.out (fun e => by have := (HKL2.out _ e.symm).1; omega))
                  have HBI6 : Hid (Below w.heap.size w w6) := bel_app (bel_alloc HBI5.out _) HG6.out (fun g e => by have := (HKL2.out g e).1; omega)
                  exact ⟨⟨i + 1, mm + 1, cm2, M2, mk + 1, ck2, K2, ml ++ [(a0, b)], kl ++ [(a0, b)], by omega, by go_num, rfl, rfl, HST2.out, HM6.out, HO6.out, HSEP6.out, HBX6.out, HBI6.out⟩, by simp [intOf]; omega⟩
              · obtain ⟨hb0, ha0⟩ := hok
                have hbp : decide (b > 0) = false := by simp; omega
                have hbe : (b == 0) = true := by rw [beq_iff_eq]; exact hb0
                have hbz : b = 0 := hb0
                have hap : a0 ≥ 0 := ha0
                clear hb0 ha0 hbz
                cases hh : hasC kl a0 b with
                | true =>
                  have HST2 : Hid (more4 (px, py) (u.take j) s (i + 1) = (ml, kl)) := by show _ = _; rw [HSTEP.out]; unfold stepM; simp only [HOK.out, hh]; rfl
                  have HH := Lib.hid hh
                  clear hh
                  go_wp2_with fail
                  refine (HasCell_s K mk ck kl a0 b _ ((Rd.of_own HOK2.out).alloc _) HKL.out (by omega)).mono ?_
                  rw [show hasC kl a0 b = true from HH.out]
                  rintro e w4 ⟨rfl, hb4⟩
                  have hx4 := bel_trans (bel_alloc (Below.refl _ _) _) hb4
                  go_wp2_with fail
                  exact ⟨⟨i + 1, mm, cm, M, mk, ck, K, ml, kl, by omega, by go_num, rfl, rfl, HST2.out, own_keep HOM.out hx4, own_keep HOK2.out hx4, HSEP.out, HBX.out.below hx4, bel_trans hbi hx4⟩, by simp [intOf]; omega⟩
                | false =>
                  have HST2 : Hid (more4 (px, py) (u.take j) s (i + 1) = (ml ++ [(a0, b)], kl ++ [(a0, b)])) := by show _ = _; rw [HSTEP.out]; unfold stepM; simp only [HOK.out, hh]; rfl
                  have HH := Lib.hid hh
                  clear hh
                  go_wp2_with fail
                  refine (HasCell_s K mk ck kl a0 b _ ((Rd.of_own HOK2.out).alloc _) HKL.out (by omega)).mono ?_
                  rw [show hasC kl a0 b = false from HH.out]
                  rintro e w4 ⟨rfl, hb4⟩
                  have hx4 := bel_trans (bel_alloc (Below.refl _ _) _) hb4
                  have hB4 := (Blk.new wr 87 #[.int .i64 a0, .int .i64 b]).below hb4
                  have y0 : w4.cell? ⟨wr.heap.size, 0, none⟩ = some (.int .i64 a0) := by simpa using hB4.cell 0
                  have y1 : w4.cell? ⟨wr.heap.size, 1, none⟩ = some (.int .i64 b) := by simpa using hB4.cell 1
                  have yl := hB4.lt
                  have HB4 := Lib.hid hB4
                  have HOM4 := Lib.hid (own_keep HOM.out hx4)
                  have HOK4 := Lib.hid (own_keep HOK2.out hx4)
                  have hz4 := hx4.size
                  have HML2 := Lib.hid (fun g (e : ob M = some g) => (own_lt HOM.out g e))
                  have HKL2 := Lib.hid (fun g (e : ob K = some g) => (own_lt HOK2.out g e))
                  clear hB4
                  go_wp2_with (at_builtin; first
                    | (refine app_C _ rfl _ _ rfl (v.heap.size + 1) M mm cm ml rfl (HOM4.out.alloc _) _ _ _ [(a0, b)] rfl (rd_newC _ _ _ _) rfl (by omega) (by simp <;> omega) ?_; intro M2 cm2 w5 ho5 hg5 hat5; have HO5 := Lib.hid ho5; have HG5 := Lib.hid hg5; have HAT5 := Lib.hid hat5; have hB5 := (HB4.out.alloc (.cells #[.int .i64 a0, .int .i64 b] 87)).grown hg5 (fun e => by have := (HML2.out _ e.symm).2; omega); have z0 : w5.cell? ⟨wr.heap.size, 0, none⟩ = some (.int .i64 a0) := (by simpa using hB5.cell 0); have z1 : w5.cell? ⟨wr.heap.size, 1, none⟩ = some (.int .i64 b) := (by simpa using hB5.cell 1); have zl := hB5.lt; have hz5 := hg5.size; have HK5 := Lib.hid (own_kept3 (HOK4.out.alloc (.cells #[.int .i64 a0, .int .i64 b] 87)) hg5 (fun g e r => HSEP.out g r e)); have HBX5 := Lib.hid (((HBX.out.below hx4).alloc (.cells #[.int .i64 a0, .int .i64 b] 87)).grown hg5 (fun e => by have := (HML2.out _ e.symm).1; omega)); have HBI5 : Hid (Below w.heap.size w w5) := bel_app (bel_alloc (bel_trans hbi hx4) _) hg5 (fun g e => by have := (HML2.out g e).1; omega); clear ho5 hg5 hat5 hB5 y0 y1 yl)
                    | (refine app_C _ rfl _ _ rfl (v.heap.size + 1) K mk ck kl rfl (HK5.out.alloc _) _ _ _ [(a0, b)] rfl (rd_newC _ _ _ _) rfl (by omega) (by (try simp at hz5); (try simp); omega) ?_; intro K2 ck2 w6 ho6 hg6 hat6; have HO6 := Lib.hid ho6; have HG6 := Lib.hid hg6; have HAT6 := Lib.hid hat6; clear ho6 hg6 hat6))
                  (try simp only [World.size_alloc] at hz5)
                  have HSEP5 : Hid (∀ g, ob M2 = some g → ob K ≠ some g) := fun g e r => by
                    rcases HAT5.out with h | h
                    · exact HSEP.out g (h ▸ e) r
                    · rw [h] at e
                      simp only [World.size_alloc, Option.some.injEq] at e
                      have := (HKL2.out g r).2
                      omega
                  have HM6 := Lib.hid (own_kept3 (HO5.out.alloc (.cells #[.int .i64 a0, .int .i64 b] 87)) HG6.out (fun g e r => HSEP5.out g e r))
                  have HSEP6 : Hid (∀ g, ob M2 = some g → ob K2 ≠ some g) := fun g e r => by
                    rcases HAT6.out with h | h
                    · exact HSEP5.out g e (h ▸ r)
                    · rw [h] at r
                      simp only [World.size_alloc, Option.some.injEq] at r
                      have := (own_lt HO5.out g e).2
                      omega
                  have HBX6 := Lib.hid ((HBX5.out.alloc (.cells #[.int .i64 a0, .int .i64 b] 87)).grown HG6.out (fun e => by have := (HKL2.out _ e.symm).1; omega))
                  have HBI6 : Hid (Below w.heap.size w w6) := bel_app (bel_alloc HBI5.out _) HG6.out (fun g e => by have := (HKL2.out g e).1; omega)
                  exact ⟨⟨i + 1, mm + 1, cm2, M2, mk + 1, ck2, K2, ml ++ [(a0, b)], kl ++ [(a0, b)], by omega, by go_num, rfl, rfl, HST2.out, HM6.out, HO6.out, HSEP6.out, HBX6.out, HBI6.out⟩, by simp [intOf]; omega⟩
            | false =>
              have HOK := Lib.hid hokb
              clear hokb
              have HST2 : Hid (more4 (px, py) (u.take j) s (i + 1) = (ml, kl)) := by show _ = _; rw [HSTEP.out]; unfold stepM; simp only [HOK.out]; rfl
              have hbp : decide (b > 0) = false := by
                cases hd : decide (b > 0) with
                | false => rfl
                | true =>
                  have := HOK.out
                  unfold okY at this
                  simp only [hd, Bool.true_or] at this
                  cases this
              by_cases hb0 : b = 0
              · have hbe : (b == 0) = true := by rw [beq_iff_eq]; exact hb0
                have hap : decide (a0 ≥ 0) = false := by
                  have := HOK.out
                  unfold okY at this
                  simp only [hbp, hbe, Bool.false_or, Bool.true_and] at this
                  exact this
                have hapn : ¬ a0 ≥ 0 := by simpa using hap
                clear hb0
                go_wp2_with fail
                exact ⟨⟨i + 1, mm, cm, M, mk, ck, K, ml, kl, by omega, by go_num, rfl, rfl, HST2.out, HOM.out.alloc _, HOK2.out.alloc _, HSEP.out, HBX.out.alloc _, bel_alloc hbi _⟩, by simp [intOf]; omega⟩
              · have hbe : (b == 0) = false := by rw [beq_eq_false_iff_ne]; exact hb0
                clear hb0
                go_wp2_with fail
                exact ⟨⟨i + 1, mm, cm, M, mk, ck, K, ml, kl, by omega, by go_num, rfl, rfl, HST2.out, HOM.out.alloc _, HOK2.out.alloc _, HSEP.out, HBX.out.alloc _, bel_alloc hbi _⟩, by simp [intOf]; omega⟩
          · obtain rfl : i = 4 := by omega
            have hcap : mm ≤ cm ∧ cm ≤ 9223372036854775807 := own_cap2 HOM.out
            have hnear := HN4.out 4 (Nat.le_refl _)
            rw [hmk] at hnear
            have hgs := HGS.out
            rw [hmk] at hgs
            obtain ⟨tt, htt⟩ : ∃ tt, growC l ml kl = tt := ⟨_, rfl⟩
            simp only at hgs
            rw [htt] at hgs
            have hsum : a + (1 + tt) + growK (l + 1) u s j = tot := by have := HA.out; rw [HJ.out, hgs] at this; omega
            have HSUM := Lib.hid hsum
            have hcall := HIH.out M mm cm ml K mk ck kl wr (Rd.of_own HOM.out) (Rd.of_own HOK2.out) HMLL.out HKL.out hcap.1 hcap.2 (by omega) (by omega)
              (fun c hc => by have := hnear.1 c hc; unfold near0 at this ⊢; omega) (fun c hc => by have := hnear.2 c hc; unfold near0 at this ⊢; omega) (by omega)
            rw [htt, HP.out] at hcall
            have HCALL := Lib.hid hcall
            have haw2 : IntKind.i64.wrap ((a : Int) + 1 + (tt : Int)) = (a : Int) + 1 + (tt : Int) := Go.IntWalk.i64_in _ (by omega)
            clear hcall hnear hgs hmk hBX htt hsum hcap
            go_wp2_with fail
            refine HCALL.out.mono ?_
            rintro e w9 ⟨rfl, hb9⟩
            go_wp2_with fail
            exact ⟨⟨j, a + (1 + tt), by omega, rfl, by go_num, HSUM.out, bel_trans hbi hb9⟩, by simp [lenOf1]; have := HJ.out; omega⟩
      · obtain rfl : k = 0 := by omega
        have HN : Hid (a = tot) := by have := HA.out; simp only [growK, List.range_zero, List.map_nil, List.sum_nil, Nat.add_zero] at this; exact this
        clear hk0
        go_wp2
        go_ret
        exact ⟨by rw [HT.out, ← HN.out]; rfl, hb⟩
end Go.Proofs.YtkcgdnnipohehaaGreatDoor

/- Shapes counted by growth: the reference's number, the two numbers, the law. -/
namespace Go.Proofs.YtkcgdnnipohehaaGreatDoor
open Go.RowKit
set_option linter.unusedVariables false
attribute [local go_sem ↓] Go.wp_at_zero Go.wp_at_succ

theorem len_fix0 : (fixV 0).length = 1 := rfl
theorem len_fix1 : (fixV 1).length = 2 := by rw [← fixF_eq]; decide +kernel
theorem len_fix2 : (fixV 2).length = 6 := by rw [← fixF_eq]; decide +kernel
theorem len_fix3 : (fixV 3).length = 19 := by rw [← fixF_eq]; decide +kernel
theorem len_fix4 : (fixV 4).length = 63 := by rw [← fixF_eq]; decide +kernel
theorem len_fix5 : (fixV 5).length = 216 := by rw [← fixF_eq]; decide +kernel
theorem growC_all : growC 0 [(0, 0)] [(0, 0)] = 1 ∧ growC 1 [(0, 0)] [(0, 0)] = 3 ∧ growC 2 [(0, 0)] [(0, 0)] = 9 ∧ growC 3 [(0, 0)] [(0, 0)] = 28 ∧ growC 4 [(0, 0)] [(0, 0)] = 91 ∧ growC 5 [(0, 0)] [(0, 0)] = 307 := by decide +kernel
def cgS (n : Int) : Int := if 1 ≤ n ∧ n ≤ 6 then (if n = 1 then (growC 0 [(0, 0)] [(0, 0)] : Nat) else (growC (n.toNat - 1) [(0, 0)] [(0, 0)] : Nat) - (growC (n.toNat - 2) [(0, 0)] [(0, 0)] : Nat)) else -1
theorem cg_eq (n : Int) : cgS n = cntV n 6 := by
  by_cases h : 1 ≤ n ∧ n ≤ 6
  · obtain ⟨g0, g1, g2, g3, g4, g5⟩ := growC_all
    rcases (by omega : n = 1 ∨ n = 2 ∨ n = 3 ∨ n = 4 ∨ n = 5 ∨ n = 6) with rfl | rfl | rfl | rfl | rfl | rfl
    · simp [cgS, cntV, g0, len_fix0]
    · simp [cgS, cntV, g0, g1, len_fix1]
    · simp [cgS, cntV, g1, g2, len_fix2]
    · simp [cgS, cntV, g2, g3, len_fix3]
    · simp [cgS, cntV, g3, g4, len_fix4]
    · simp [cgS, cntV, g4, g5, len_fix5]
  · unfold cgS cntV
    rw [if_neg h, if_neg h]
set_option maxHeartbeats 1600000 in
theorem CountByGrowth_s (n : Int) (w : World) : Calls Tryz.prog 53 #[.int .i64 n] w (Ret w (.int .i64 (cgS n))) := by
  by_cases h : 1 ≤ n ∧ n ≤ 6
  · have hlit : ∀ W : World, (W.alloc (.cells #[.int .i64 0, .int .i64 0] 87)).ownsRow W.heap.size 87 2 (.slice (some ⟨W.heap.size, 0, none⟩) 1 1) 1 (vC [(0, 0)]) := fun W => own_newC W _ 0 0 (Nat.le_refl _)
    have hn0 : ∀ (r : Int), 0 ≤ r → ∀ x ∈ [((0 : Int), (0 : Int))], near0 r x := by
      intro r hr x hx
      simp only [List.mem_singleton] at hx
      subst hx
      unfold near0
      simp only
      omega
    obtain ⟨k, hk⟩ : ∃ k : Nat, n = ((k + 1 : Nat) : Int) := ⟨(n - 1).toNat, by omega⟩
    have hk5 : k ≤ 5 := by omega
    have hb1 := growC_le k [(0, 0)] [(0, 0)] (by simp; omega)
    have h25 : 25 ^ (k + 1) ≤ 244140625 := by
      have : 25 ^ (k + 1) ≤ 25 ^ 6 := Nat.pow_le_pow_right (by omega) (by omega)
      simpa using this
    obtain ⟨a, ha⟩ : ∃ a, growC k [(0, 0)] [(0, 0)] = a := ⟨_, rfl⟩
    rw [ha] at hb1
    have hab : a ≤ 244140625 := by omega
    have HB := Lib.hid h
    have HLIT := Lib.hid hlit
    have HN0 := Lib.hid hn0
    have HA := Lib.hid ha
    have hC := l25Grow_s k (some ⟨w.heap.size, 0, none⟩) 1 1 [(0, 0)] (some ⟨w.heap.size, 0, none⟩) 1 1 [(0, 0)]
    by_cases h1 : n = 1
    · have hk0 : k = 0 := by omega
      have HV : Hid (cgS n = a) := by show cgS n = _; unfold cgS; rw [if_pos h, if_pos h1, ← ha, hk0]
      have e1 : (n == 1) = true := by rw [beq_iff_eq]; exact h1
      have HK := Lib.hid hk
      clear hk h h1 hk0 hC hlit hn0 ha hb1 h25
      go_enter Tryz.func53, Tryz.ntmps53
      go_wp2_with fail
      refine (l1In_t n 1 6 _ HB.out.1 HB.out.2).mono ?_
      rintro e w1 ⟨rfl, hb1⟩
      go_wp2_with fail
      rw [HK.out]
      refine (l25Grow_s k _ 1 1 [(0, 0)] _ 1 1 [(0, 0)] _ (Rd.of_own (HLIT.out w1)) (Rd.of_own (HLIT.out w1)) rfl rfl (by omega) (by omega) (by omega) (by omega) (HN0.out _ (by omega)) (HN0.out _ (by omega)) hk5).mono ?_
      rw [HA.out]
      rintro e w2 ⟨rfl, hb2⟩
      rw [← HK.out]
      go_wp2_with fail
      go_ret
      exact ⟨by rw [HV.out]; rfl, (by (repeat (first | with_reducible exact Below.refl _ _ | with_reducible assumption | with_reducible apply bel_alloc | with_reducible apply bel_drew | with_reducible apply bel_drewN | ((with_reducible refine bel_set ?_ ?_); rotate_left; (simp <;> omega)) | (with_reducible refine bel_trans ?_ (by with_reducible assumption)))))⟩
    · obtain ⟨j, hj⟩ : ∃ j : Nat, k = j + 1 := ⟨k - 1, by omega⟩
      have hb2 := growC_le j [(0, 0)] [(0, 0)] (by simp; omega)
      have h252 : 25 ^ (j + 1) ≤ 244140625 := by
        have : 25 ^ (j + 1) ≤ 25 ^ 6 := Nat.pow_le_pow_right (by omega) (by omega)
        simpa using this
      obtain ⟨b, hbv⟩ : ∃ b, growC j [(0, 0)] [(0, 0)] = b := ⟨_, rfl⟩
      rw [hbv] at hb2
      have hbb : b ≤ 244140625 := by omega
      have HV : Hid (cgS n = (a : Int) - (b : Int)) := by
        show cgS n = _
        unfold cgS
        rw [if_pos h, if_neg h1, ← ha, ← hbv, show n.toNat - 1 = k from by omega, show n.toNat - 2 = j from by omega]
      have e1 : (n == 1) = false := by rw [beq_eq_false_iff_ne]; exact h1
      have HK := Lib.hid hk
      have HBV := Lib.hid hbv
      have hn1 : n - 1 = ((j + 1 : Nat) : Int) := by omega
      have HN1 := Lib.hid hn1
      have hw1 : IntKind.i64.wrap (n - 1) = n - 1 := Go.IntWalk.i64_in _ (by omega)
      have hj5 : j ≤ 5 := by omega
      have hwab : IntKind.i64.wrap ((a : Int) - (b : Int)) = (a : Int) - (b : Int) := Go.IntWalk.i64_in _ (by omega)
      clear hk h h1 hC hlit hn0 ha hb1 h25 hj hb2 h252 hbv hn1
      go_enter Tryz.func53, Tryz.ntmps53
      go_wp2_with fail
      refine (l1In_t n 1 6 _ HB.out.1 HB.out.2).mono ?_
      rintro e w1 ⟨rfl, hb1⟩
      go_wp2_with fail
      rw [HK.out]
      refine (l25Grow_s k _ 1 1 [(0, 0)] _ 1 1 [(0, 0)] _ (Rd.of_own (HLIT.out w1)) (Rd.of_own (HLIT.out w1)) rfl rfl (by omega) (by omega) (by omega) (by omega) (HN0.out _ (by omega)) (HN0.out _ (by omega)) hk5).mono ?_
      rw [HA.out]
      rintro e w2 ⟨rfl, hb2⟩
      rw [← HK.out]
      have HR2 := Lib.hid (Rd.below (Rd.of_own (HLIT.out w1)) hb2)
      go_wp2_with fail
      rw [HN1.out]
      refine (l25Grow_s j _ 1 1 [(0, 0)] _ 1 1 [(0, 0)] _ HR2.out HR2.out rfl rfl (by omega) (by omega) (by omega) (by omega) (HN0.out _ (by omega)) (HN0.out _ (by omega)) hj5).mono ?_
      rw [HBV.out]
      rintro e w3 ⟨rfl, hb3⟩
      go_wp2_with fail
      go_ret
      exact ⟨by rw [HV.out]; rfl, bel_trans (bel_trans (bel_alloc hb1 _) hb2) hb3⟩
  · have HV : Hid (cgS n = -1) := by show cgS n = _; unfold cgS; rw [if_neg h]
    have HB := Lib.hid h
    clear h
    go_enter Tryz.func53, Tryz.ntmps53
    go_wp2_with fail
    refine (l1In_f n 1 6 _ HB.out).mono ?_
    rintro e w1 ⟨rfl, hb1⟩
    go_wp2_with fail
    go_ret
    exact ⟨by rw [HV.out]; rfl, hb1⟩
end Go.Proofs.YtkcgdnnipohehaaGreatDoor

/- Whether a region is right: both sides. -/
namespace Go.Proofs.YtkcgdnnipohehaaGreatDoor
open Go.RowKit
set_option linter.unusedVariables false
attribute [local go_sem ↓] Go.wp_at_zero Go.wp_at_succ
def vR (W : Int) (A : Option Addr) (n c : Nat) : Value := .agg #[.int .i64 W, .slice A n c]
def sideB (x : Int) : Bool := decide (1 ≤ x) && decide (x ≤ 6)
def okRow (W x : Int) : Bool := decide (0 ≤ x) && decide (x < 2 ^ W.toNat)
end Go.Proofs.YtkcgdnnipohehaaGreatDoor

/- The mask of a region: both sides. -/
namespace Go.Proofs.YtkcgdnnipohehaaGreatDoor
open Go.RowKit
set_option linter.unusedVariables false
attribute [local go_sem ↓] Go.wp_at_zero Go.wp_at_succ
def maskV (W : Int) (rows : List Int) : Nat := if isReg W rows then mkTo W.toNat rows rows.length else 0
end Go.Proofs.YtkcgdnnipohehaaGreatDoor

/- Where motions carry places: both sides. -/
namespace Go.Proofs.YtkcgdnnipohehaaGreatDoor
open Go.RowKit
set_option linter.unusedVariables false
attribute [local go_sem ↓] Go.wp_at_zero Go.wp_at_succ
end Go.Proofs.YtkcgdnnipohehaaGreatDoor

/- Where motions carry places: the reference. -/
namespace Go.Proofs.YtkcgdnnipohehaaGreatDoor
open Go.RowKit
set_option linter.unusedVariables false
attribute [local go_sem ↓] Go.wp_at_zero Go.wp_at_succ
end Go.Proofs.YtkcgdnnipohehaaGreatDoor

/- What a motion makes of a mask: the reference. -/
namespace Go.Proofs.YtkcgdnnipohehaaGreatDoor
open Go.RowKit
set_option linter.unusedVariables false
attribute [local go_sem ↓] Go.wp_at_zero Go.wp_at_succ
end Go.Proofs.YtkcgdnnipohehaaGreatDoor

/- The places of a mask: the program. -/
namespace Go.Proofs.YtkcgdnnipohehaaGreatDoor
open Go.RowKit
set_option linter.unusedVariables false
attribute [local go_sem ↓] Go.wp_at_zero Go.wp_at_succ
/-- The places of the bits below k, in order. -/
def plTo (n mask : Nat) : Nat → List C
  | 0 => []
  | k + 1 => plTo n mask k ++ (if mask.testBit k then [(((k % n : Nat) : Int), ((k / n : Nat) : Int))] else [])
end Go.Proofs.YtkcgdnnipohehaaGreatDoor

/- Shapes counted by masks: plain functions. No program is in sight. -/
namespace Go.Proofs.YtkcgdnnipohehaaGreatDoor
open Go.RowKit
set_option linter.unusedVariables false
/-- The bits of x that are set, of the lowest f. -/
def pcF : Nat → Nat → Nat
  | 0, _ => 0
  | f + 1, x => x % 2 + pcF f (x / 2)
theorem pcF_zero : ∀ f, pcF f 0 = 0
  | 0 => rfl
  | f + 1 => by unfold pcF; rw [Nat.zero_div, pcF_zero f]
theorem pcF_le : ∀ f x, pcF f x ≤ f
  | 0, x => Nat.le_refl _
  | f + 1, x => by unfold pcF; have := pcF_le f (x / 2); omega
theorem pcF_add : ∀ (f k q r : Nat), r < 2 ^ k → pcF f (2 ^ k * q + r) = pcF f (2 ^ k * q) + pcF f r
  | 0, _, _, _, _ => rfl
  | f + 1, 0, q, r, h => by
    have hr : r = 0 := by simpa using h
    subst hr
    rw [pcF_zero]; rfl
  | f + 1, k + 1, q, r, h => by
    have e1 : 2 ^ (k + 1) * q + r = 2 * (2 ^ k * q) + r := by rw [Nat.pow_succ, Nat.mul_comm (2 ^ k) 2, Nat.mul_assoc]
    have e2 : 2 ^ (k + 1) * q = 2 * (2 ^ k * q) := by rw [Nat.pow_succ, Nat.mul_comm (2 ^ k) 2, Nat.mul_assoc]
    have h2 : r / 2 < 2 ^ k := by rw [Nat.pow_succ] at h; omega
    have ih := pcF_add f k q (r / 2) h2
    unfold pcF
    rw [e1, e2, show (2 * (2 ^ k * q) + r) / 2 = 2 ^ k * q + r / 2 from by omega, show (2 * (2 ^ k * q)) / 2 = 2 ^ k * q from by omega, ih]
    omega
theorem pcF_pow : ∀ (f k : Nat), k < f → pcF f (2 ^ k) = 1
  | 0, k, h => by omega
  | f + 1, 0, _ => by unfold pcF; simp [pcF_zero]
  | f + 1, k + 1, h => by
    unfold pcF
    rw [show 2 ^ (k + 1) / 2 = 2 ^ k from by rw [Nat.pow_succ]; omega, pcF_pow f k (by omega), show 2 ^ (k + 1) % 2 = 0 from by rw [Nat.pow_succ]; omega]
def pc (m : Nat) : Nat := pcF 16 m
theorem pc_zero : pc 0 = 0 := pcF_zero 16
theorem pc_le (m : Nat) : pc m ≤ 16 := pcF_le 16 m
theorem pc_add (k q r : Nat) (h : r < 2 ^ k) : pc (2 ^ k * q + r) = pc (2 ^ k * q) + pc r := pcF_add 16 k q r h
theorem pc_pow (k : Nat) (h : k < 16) : pc (2 ^ k) = 1 := pcF_pow 16 k h
theorem pc_eq (m : Nat) : pc m = pcF 16 m := rfl
attribute [irreducible] pc
/-- What is reached, with one step more. -/
def expand (s R : List C) : List C := s.foldl (fun R c => if hasC R c.1 c.2 then R else if R.any (fun b => near b c) then R ++ [c] else R) R
def reachK (s : List C) : Nat → List C
  | 0 => [s0 s]
  | k + 1 => expand s (reachK s k)
def connO (s : List C) : Option Bool :=
  let R := reachK s s.length
  if s.all (fun c => hasC R c.1 c.2) then some true else if s.all (fun c => hasC R c.1 c.2 || !(R.any fun b => near b c)) then some false else none
theorem hasC_mm (s : List C) (c : C) : hasC s c.1 c.2 = true ↔ c ∈ s := by
  obtain ⟨x, y⟩ := c
  simp only [hasC, List.any_eq_true, Bool.and_eq_true, beq_iff_eq]
  constructor
  · rintro ⟨⟨a, b⟩, h, rfl, rfl⟩; exact h
  · intro h; exact ⟨_, h, rfl, rfl⟩
theorem foldX (s : List C) : ∀ (l R : List C), (∀ c ∈ l, c ∈ s) → (∀ c ∈ R, Rch s (s0 s) c) → s0 s ∈ R →
    (∀ c ∈ l.foldl (fun R c => if hasC R c.1 c.2 then R else if R.any (fun b => near b c) then R ++ [c] else R) R, Rch s (s0 s) c) ∧ s0 s ∈ l.foldl (fun R c => if hasC R c.1 c.2 then R else if R.any (fun b => near b c) then R ++ [c] else R) R
  | [], R, _, h, h0 => ⟨h, h0⟩
  | d :: l, R, hl, h, h0 => by
    rw [List.foldl_cons]
    refine foldX s l _ (fun c hc => hl c (by simp [hc])) ?_ ?_
    · split
      · exact h
      · split
        · rename_i h2
          intro c hc
          rcases List.mem_append.1 hc with h3 | h3
          · exact h c h3
          · simp at h3
            subst h3
            obtain ⟨b, hb, hn⟩ := List.any_eq_true.1 h2
            exact .step (h b hb) (hl c (by simp)) hn
        · exact h
    · split
      · exact h0
      · split
        · exact List.mem_append.2 (.inl h0)
        · exact h0
theorem reachK_good (s : List C) : ∀ k, (∀ c ∈ reachK s k, Rch s (s0 s) c) ∧ s0 s ∈ reachK s k
  | 0 => by
    refine ⟨fun c hc => ?_, by simp [reachK]⟩
    simp [reachK] at hc
    subst hc
    exact .base
  | k + 1 => foldX s s _ (fun c h => h) (reachK_good s k).1 (reachK_good s k).2
theorem connO_eq {s : List C} {b : Bool} (h : connO s = some b) : conn s = b := by
  obtain ⟨g1, g2⟩ := reachK_good s s.length
  unfold connO at h
  simp only at h
  split at h
  · rename_i ha
    injection h with h
    rw [← h, conn_iff]
    intro c hc
    exact g1 c ((hasC_mm _ _).1 (List.all_eq_true.1 ha c hc))
  · rename_i ha
    split at h
    · rename_i hcl
      injection h with h
      rw [← h, Bool.eq_false_iff]
      intro hcn
      refine ha (List.all_eq_true.2 fun c hc => (hasC_mm _ _).2 ?_)
      have hr := (conn_iff s).1 hcn c hc
      have : ∀ d, Rch s (s0 s) d → d ∈ reachK s s.length := by
        intro d hd
        induction hd with
        | base => exact g2
        | step hb hcs hn ih =>
          have h1 := List.all_eq_true.1 hcl _ hcs
          simp only [Bool.or_eq_true, Bool.not_eq_true', List.any_eq_false] at h1
          rcases h1 with h1 | h1
          · exact (hasC_mm _ _).1 h1
          · exact absurd hn (h1 _ ih)
      exact this c hr
    · cases h
/-- Whether a mask is a shape in its corner. -/
noncomputable def selR (n m : Nat) : Bool := decide (pc m = n) && (isConn (plTo n m (n * n)) && decide (cornS (plTo n m (n * n)) = plTo n m (n * n)))
noncomputable def cntR (n k : Nat) : Nat := (List.range k).countP (selR n)
theorem cntR_succ (n k : Nat) : cntR n (k + 1) = cntR n k + (if selR n k then 1 else 0) := by
  unfold cntR
  rw [List.range_succ, List.countP_append, List.countP_singleton]
def leafO (s : List C) : Option Nat :=
  if cornS s = s then (if isShape s then (match connO s with
    | some true => some 1
    | some false => some 0
    | none => none) else some 0) else some 0
set_option maxHeartbeats 800000 in
theorem leafO_eq {s : List C} {v : Nat} (h : leafO s = some v) : (if isConn s && decide (cornS s = s) then 1 else 0) = v := by
  unfold leafO at h
  split at h
  · rename_i hc
    split at h
    · rename_i hs
      split at h
      · rename_i hk
        injection h with h
        unfold isConn
        rw [hs, connO_eq hk, ← h]
        simp [hc]
      · rename_i hk
        injection h with h
        unfold isConn
        rw [hs, connO_eq hk, ← h]
        simp
      · cases h
    · rename_i hs
      injection h with h
      unfold isConn
      rw [show isShape s = false from by simpa using hs, ← h]
      simp
  · rename_i hc
    injection h with h
    rw [← h]
    simp [hc]
def treeO (n : Nat) : Nat → Nat → Nat → Option Nat
  | 0, b, p => if p = n then frcS (plTo n b (n * n)) leafO else some 0
  | k + 1, b, p => if n < p then some 0 else match treeO n k b p with
    | none => none
    | some x => match treeO n k (b + 2 ^ k) (p + 1) with
      | none => none
      | some y => some (x + y)
set_option maxHeartbeats 1600000 in
theorem treeO_eq (n : Nat) : ∀ (k q p v : Nat), k ≤ 16 → p = pc (2 ^ k * q) → treeO n k (2 ^ k * q) p = some v → (List.range' (2 ^ k * q) (2 ^ k)).countP (selR n) = v
  | 0, q, p, v, _, hp, h => by
    unfold treeO at h
    rw [show (2 : Nat) ^ 0 = 1 from rfl, Nat.one_mul] at h hp ⊢
    rw [show List.range' q 1 = [q] from rfl, List.countP_singleton]
    unfold selR
    split at h
    · rename_i e
      rw [frcS_eq] at h
      have := leafO_eq h
      rw [show decide (pc q = n) = true from by rw [← hp]; simpa using e, Bool.true_and]
      exact this
    · rename_i e
      injection h with h
      rw [show decide (pc q = n) = false from by rw [← hp]; simpa using e, ← h]
      simp
  | k + 1, q, p, v, hk, hp, h => by
    have e0 : 2 ^ (k + 1) * q = 2 ^ k * (2 * q) := by rw [Nat.pow_succ, Nat.mul_assoc]
    have e1 : 2 ^ k * (2 * q) + 2 ^ k = 2 ^ k * (2 * q + 1) := by rw [Nat.mul_add, Nat.mul_one]
    have hpow : 2 ^ (k + 1) = 2 ^ k + 2 ^ k := by rw [Nat.pow_succ]; omega
    unfold treeO at h
    split at h
    · rename_i hlt
      injection h with h
      rw [← h, List.countP_eq_zero]
      intro m hm hs
      obtain ⟨h1, h2⟩ := List.mem_range'_1.1 hm
      obtain ⟨r, rfl⟩ : ∃ r, m = 2 ^ (k + 1) * q + r := ⟨m - 2 ^ (k + 1) * q, by omega⟩
      have h3 := pc_add (k + 1) q r (by omega)
      unfold selR at hs
      rw [Bool.and_eq_true, decide_eq_true_eq] at hs
      have := hs.1
      omega
    · split at h
      · cases h
      · rename_i x hx
        split at h
        · cases h
        · rename_i y hy
          injection h with h
          rw [e0] at hx hy hp ⊢
          have i1 := treeO_eq n k (2 * q) p x (by omega) hp hx
          rw [e1] at hy
          have hp2 : p + 1 = pc (2 ^ k * (2 * q + 1)) := by
            have hh : pc (2 ^ k * (2 * q + 1)) = pc (2 ^ (k + 1) * q) + pc (2 ^ k) := by
              rw [← pc_add (k + 1) q (2 ^ k) (by have := Nat.two_pow_pos k; omega), e0, e1]
            rw [hh, pc_pow k (by omega), e0, hp]
          have i2 := treeO_eq n k (2 * q + 1) (p + 1) y (by omega) hp2 hy
          rw [hpow, ← List.range'_append_1, List.countP_append, i1, e1, i2, h]
theorem tree_1 : treeO 1 1 0 0 = some 1 := by decide +kernel
theorem tree_2 : treeO 2 4 0 0 = some 2 := by decide +kernel
theorem tree_3 : treeO 3 9 0 0 = some 6 := by decide +kernel
theorem tree_4 : treeO 4 16 0 0 = some 19 := by decide +kernel
theorem cntR_tree (n N v : Nat) (hN : N ≤ 16) (h : treeO n N 0 0 = some v) : cntR n (2 ^ N) = v := by
  have := treeO_eq n N 0 0 v hN (by rw [Nat.mul_zero]; exact pc_zero.symm) (by rw [Nat.mul_zero]; exact h)
  rw [Nat.mul_zero] at this
  unfold cntR
  rw [List.range_eq_range']
  exact this
end Go.Proofs.YtkcgdnnipohehaaGreatDoor
