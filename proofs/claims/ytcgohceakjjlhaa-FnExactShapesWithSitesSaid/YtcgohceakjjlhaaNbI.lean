/- The places around a shape: the program. -/
import Derived.Test.YtcgohceakjjlhaaNbM
import Derived.Test.YtcgohceakjjlhaaExtI
import Derived.Test.YtcgohceakjjlhaaMaps
import Derived.Outline
import Derived.WalkLawsBesides
import Derived.WalkSpells
import Derived.BigQuiet
import Derived.Deep.QuietTactic
import Derived.Deep.RegionHeld3
import Derived.Deep.RegionWith
import Derived.Deep.DeepCutAuto
import Derived.Deep.CutBlock
import Derived.Deep.DrawnRows
namespace Go.Proofs.Ytcgohceakjjlhaa
open Go.RowKit
set_option linter.unusedVariables false
attribute [local go_sem ↓] Go.wp_at_zero Go.wp_at_succ

def oneE (c : C) : C × Value := (c, .int .i64 1)
theorem look_ones (F : List C) (c : C) : lookC (F.map oneE) c = if hasC F c.1 c.2 then some (.int .i64 1) else none := by
  induction F with
  | nil => simp [lookC, hasC]
  | cons d F ih =>
    unfold lookC at ih ⊢
    rw [List.map_cons, List.find?_cons]
    have e : ((oneE d).1 == c) = (d.1 == c.1 && d.2 == c.2) := rfl
    rw [e]
    have e2 : hasC (d :: F) c.1 c.2 = ((d.1 == c.1 && d.2 == c.2) || hasC F c.1 c.2) := rfl
    rw [e2]
    cases h : (d.1 == c.1 && d.2 == c.2) with
    | true => rfl
    | false => simpa using ih
set_option maxRecDepth 100000 in
set_option maxHeartbeats 6400000 in
theorem NeighbourCells_i (A : Option Addr) (n c : Nat) (xs : List C) (w : World) (hr : Rd w A (vC xs)) (hl : xs.length = n) (hs : isShape xs = true) :
    Calls Try.prog 68 #[.slice A n c] w (Ret w (.int .i64 (nbN xs))) := by
  have hn8 := (shape_len hs).2
  have hV : nbN xs = ((nbTo sidesV xs n).length : Nat) := by unfold nbN; rw [if_pos hs, hl, nb_same]
  have HV := Lib.hid hV
  have HL := Lib.hid hl
  have HR := Lib.hid hr
  have HSH := Lib.hid hs
  rw [hl] at hn8
  have hnn : n ≤ 1099511627776 := by omega
  have hmm := @run_makeMap Try.prog
  clear hl hr hs hV
  go_enter Try.func68, Try.ntmps68
  go_wp2_with fail
  refine (IsShape_i A n c xs _ HR.out HL.out hnn).mono ?_
  rw [HSH.out]
  rintro e w1 ⟨rfl, hb1⟩
  have HI1 := Lib.hid (MapC.made w1)
  have hbw1 : Below w.heap.size w (w1.alloc (.map #[] 0)) := bel_alloc hb1 _
  have hbz := hb1.size
  obtain ⟨b, hbb⟩ : ∃ b, w1.heap.size = b := ⟨_, rfl⟩
  have HBB := Lib.hid hbb
  go_wp2_with fail
  rw [hbb] at HI1
  go_loopw [14] (fun e14 wr => ∃ (k : Nat), k ≤ n ∧ e14 = .int .i64 k ∧ MapC wr b ((nbTo sidesV xs k).map oneE) ∧ Below w.heap.size w wr) (fun e14 _ => n - (intOf e14).toNat)
  case atStart => exact ⟨0, Nat.zero_le _, rfl, HI1.out, hbw1⟩
  case round =>
    clear HI1 hbw1
    obtain ⟨k, hk, rfl, hO, hb⟩ := hrel
    by_cases hlt : k < n
    · have hkl : k < xs.length := by rw [HL.out]; exact hlt
      have hk0 : (0 : Int) ≤ (k : Int) := by omega
      have hk1 : (k : Int) < (n : Int) := by omega
      obtain ⟨g, off, hA, hg, d1, d2⟩ := RdC.at_ (HR.out.below hb) hkl
      subst hA
      have hon := shape_onB HSH.out _ (List.getElem_mem hkl)
      have hst := nbTo_succ sidesV xs k hkl
      have hsl := nbTo_len sidesV (fun _ => rfl) xs k (by omega)
      obtain ⟨p, hp⟩ : ∃ p, xs[k].1 = p := ⟨_, rfl⟩
      obtain ⟨r, hrr⟩ : ∃ r, xs[k].2 = r := ⟨_, rfl⟩
      rw [show xs[k] = (p, r) from Prod.ext hp hrr] at hon hst
      rw [hp] at d1
      rw [hrr] at d2
      have hpr : -1 ≤ p ∧ p ≤ 8 ∧ -1 ≤ r ∧ r ≤ 8 := by simp [onB] at hon; omega
      obtain ⟨F0, hF0⟩ : ∃ F0, nbTo sidesV xs k = F0 := ⟨_, rfl⟩
      rw [hF0] at hst hsl hO
      have HST := Lib.hid hst
      have HO := Lib.hid hO
      have HPR := Lib.hid hpr
      clear hst hO hp hrr hon hF0 hpr
      go_wp2_with fail
      refine (sides_i p r _ HPR.out).mono ?_
      rintro e w2 ⟨S, ms, cs, rfl, hoS, hb2⟩
      have hms : ms = 4 := by have := own_len hoS; rw [vC_length] at this; simp [sidesV] at this; omega
      subst hms
      have HCS := Lib.hid (Rd.of_own hoS)
      have HSL := Lib.hid (fun g h => (own_lt hoS g h).1)
      have HO1 := Lib.hid (HO.out.below (bel_trans (bel_alloc (Below.refl _ _) _) hb2))
      have hb01 : Below w.heap.size w w2 := (by (repeat (first | with_reducible exact Below.refl _ _ | with_reducible assumption | with_reducible apply bel_alloc | with_reducible apply bel_drew | with_reducible apply bel_drewN | ((with_reducible refine bel_set ?_ ?_); rotate_left; (simp <;> omega)) | (with_reducible refine bel_trans ?_ (by with_reducible assumption)))))
      have HNE : Hid (∀ g, ob S = some g → some b ≠ some g) := fun g e r => by
        have h1 := (own_lt hoS g e).1
        have h2 := HO.out.lt
        simp at h1
        injection r with r
        omega
      clear hoS HO
      go_wp2_with fail
      go_loopw [21] (fun e21 wr => ∃ (j : Nat) (F : List C), j ≤ 4 ∧ e21 = .int .i64 j ∧ F = ((sidesV (p, r)).take j).foldl (nbStep xs) F0 ∧ MapC wr b (F.map oneE) ∧ Rd wr S (vC (sidesV (p, r))) ∧ Below w.heap.size w wr) (fun e21 _ => 4 - (intOf e21).toNat)
      case atStart => exact ⟨0, F0, Nat.zero_le _, rfl, rfl, HO1.out, HCS.out, hb01⟩
      case round =>
        clear HO1 HCS hb01 hb hb2 d1 d2 hg HSL
        obtain ⟨j, F, hj, rfl, hF, hO, hcr, hb⟩ := hrel
        by_cases hj4 : j < 4
        · have hjl : j < (sidesV (p, r)).length := hj4
          have hj0 : (0 : Int) ≤ (j : Int) := by omega
          have hj1 : (j : Int) < 4 := by omega
          obtain ⟨g2, o2, hS, hg2, d1, d2⟩ := RdC.at_ hcr hjl
          have hstep : ((sidesV (p, r)).take (j + 1)).foldl (nbStep xs) F0 = nbStep xs F (sidesV (p, r))[j] := by
            rw [List.take_succ_eq_append_getElem hjl, List.foldl_append, ← hF]
            rfl
          obtain ⟨x, hx⟩ : ∃ x, (sidesV (p, r))[j].1 = x := ⟨_, rfl⟩
          obtain ⟨y, hy⟩ : ∃ y, (sidesV (p, r))[j].2 = y := ⟨_, rfl⟩
          rw [show (sidesV (p, r))[j] = (x, y) from Prod.ext hx hy] at hstep
          rw [hx] at d1
          rw [hy] at d2
          have HO := Lib.hid hO
          have HCR := Lib.hid hcr
          have HX := Lib.hid (HR.out.below hb)
          have hrl : ∀ w', Below wr.heap.size wr w' → Rd w' S (vC (sidesV (p, r))) := fun w' hb => hcr.below hb
          have HRL := Lib.hid hrl
          subst hS
          have hlk := look_ones F (x, y)
          clear hF hO hcr hx hy hrl
          cases hh : hasC xs x y with
          | true =>
            have HN : Hid (((sidesV (p, r)).take (j + 1)).foldl (nbStep xs) F0 = F) := by show _ = F; rw [hstep]; unfold nbStep; simp only [hh, if_true]
            have HH := Lib.hid hh
            clear hh hstep hlk
            go_wp2_with fail
            refine (HasCell_i _ n c xs x y _ ((HX.out).alloc _) HL.out hnn).mono ?_
            rw [show hasC xs x y = true from HH.out]
            rintro e w3 ⟨rfl, hb2⟩
            have hb3 := bel_trans (bel_alloc (Below.refl _ _) _) hb2
            go_wp2_with fail
            exact ⟨⟨j + 1, F, by omega, by go_num, HN.out.symm, HO.out.below hb3, HRL.out _ hb3, bel_trans hb hb3⟩, by simp [intOf]; omega⟩
          | false =>
            have HH := Lib.hid hh
            have HLK := Lib.hid hlk
            have HSTEP := Lib.hid hstep
            clear hh hlk hstep
            go_wp2_with fail
            refine (HasCell_i _ n c xs x y _ ((HX.out).alloc _) HL.out hnn).mono ?_
            rw [show hasC xs x y = false from HH.out]
            rintro e w3 ⟨rfl, hb2⟩
            have hb3 := bel_trans (bel_alloc (Below.refl _ _) _) hb2
            have hCB := (Blk.new wr 54 #[.int .i64 x, .int .i64 y]).below hb2
            have z0 : w3.cell? ⟨wr.heap.size, 0, none⟩ = some (.int .i64 x) := by simpa using hCB.cell 0
            have z1 : w3.cell? ⟨wr.heap.size, 1, none⟩ = some (.int .i64 y) := by simpa using hCB.cell 1
            have zl := hCB.lt
            have HM3 := Lib.hid (HO.out.below hb3)
            have HC3 := Lib.hid (HRL.out _ hb3)
            have hbb3 := bel_trans hb hb3
            have hbge : w.heap.size ≤ b := by rw [← HBB.out]; exact hbz
            clear hCB d1 d2
            go_wp2_with fail
            cases hm : hasC F x y with
            | true =>
              have hlk := HLK.out
              simp only [hm, if_true] at hlk
              obtain ⟨w4, hrun, hM4, hg4, hz4⟩ := run_updC_same (T := 77) HM3.out Try.underlying77 (x, y) (.int .i64 1) hlk
              have HN : Hid (((sidesV (p, r)).take (j + 1)).foldl (nbStep xs) F0 = F) := by show _ = F; rw [HSTEP.out]; unfold nbStep; simp only [HH.out, hm, if_true, Bool.false_eq_true, if_false]
              simp only [cellV] at hrun
              rw [hrun]
              have HM4 := Lib.hid hM4
              have HC4 := Lib.hid (HC3.out.grown hg4 (fun g e r => HNE.out g e r.symm))
              have hb4 : Below w.heap.size w w4 := bel_grown hbb3 hg4 (fun k e => by injection e with e; omega)
              clear hrun hM4 hg4 hlk hm
              go_wp2_with fail
              exact ⟨⟨j + 1, F, by omega, by go_num, HN.out.symm, HM4.out, HC4.out, hb4⟩, by simp [intOf]; omega⟩
            | false =>
              have hlk := HLK.out
              simp only [hm, Bool.false_eq_true, if_false] at hlk
              obtain ⟨w4, hrun, hM4, hg4, hz4⟩ := run_updC (T := 77) HM3.out Try.underlying77 (x, y) (.int .i64 1) hlk
              have HN : Hid (((sidesV (p, r)).take (j + 1)).foldl (nbStep xs) F0 = F ++ [(x, y)]) := by show _ = F ++ _; rw [HSTEP.out]; unfold nbStep; simp only [HH.out, hm, Bool.false_eq_true, if_false]
              simp only [cellV] at hrun
              rw [hrun]
              have HM4 : Hid (MapC w4 b ((F ++ [(x, y)]).map oneE)) := by
                show MapC _ _ _
                rw [List.map_append]
                exact hM4
              have HC4 := Lib.hid (HC3.out.grown hg4 (fun g e r => HNE.out g e r.symm))
              have hb4 : Below w.heap.size w w4 := bel_grown hbb3 hg4 (fun k e => by injection e with e; omega)
              clear hrun hM4 hg4 hlk hm
              go_wp2_with fail
              exact ⟨⟨j + 1, F ++ [(x, y)], by omega, by go_num, HN.out.symm, HM4.out, HC4.out, hb4⟩, by simp [intOf]; omega⟩
        · obtain rfl : j = 4 := by omega
          have hFe : F = nbTo sidesV xs (k + 1) := by rw [HST.out, hF]; rfl
          rw [hFe] at hO
          have HO := Lib.hid hO
          clear hF hO hFe hcr
          go_wp2_with fail
          exact ⟨⟨k + 1, by omega, by go_num, HO.out, hb⟩, by simp [intOf]; omega⟩
    · obtain rfl : k = n := by omega
      have HO := Lib.hid hO
      have hk1 : ¬ (k : Int) < (k : Int) := by omega
      clear hO
      go_wp2_with fail
      have hrun : (Builtin.len_ #[77] 3 #[.map (some b)]).run Try.prog wr = .ok (.int .i64 ((nbTo sidesV xs k).length : Nat)) wr := by
        obtain ⟨arr, cl, h1, h2⟩ := HO.out
        have h3 : arr.size = (nbTo sidesV xs k).length := by have := congrArg List.length h2; simpa using this
        rw [← h3]
        exact run_len_map _ _ _ _ _ _ (by kernel_rfl) h1
      rw [hrun]
      clear hrun
      go_wp2_with fail
      go_ret
      exact ⟨by rw [HV.out]; rfl, hb⟩
end Go.Proofs.Ytcgohceakjjlhaa
