/- Pairs of cells on one face. -/
import Derived.Test.YtemmbpmgfjodnaaNetI
import Derived.Test.YtemmbpmgfjodnaaNetS
import Derived.Outline
import Derived.WalkLawsBesides
import Derived.WalkSpells
import Derived.BigQuiet
import Derived.Deep.QuietTactic
import Derived.Deep.RegionHeld3
import Derived.Deep.RegionWith
import Derived.Deep.DeepCutAuto
import Derived.Deep.CutBlock
import Derived.Deep.DrawnRows
namespace Go.Proofs.Ytemmbpmgfjodnaa
open Go.RowKit
set_option linter.unusedVariables false
attribute [local go_sem ↓] Go.wp_at_zero Go.wp_at_succ

def foldsTo (l : List Int) : Nat → Nat
  | 0 => 0
  | k + 1 => foldsTo l k + (l.take k).countP fun d => l.getD k 0 == d
noncomputable def foldV (xs : List C) : Int := if isConn xs then (foldsTo (faces xs) (faces xs).length : Nat) else -1
theorem faces_len8 {xs : List C} (h : isConn xs = true) : (faces xs).length ≤ 8 := by
  unfold faces; rw [h, if_pos rfl, List.length_map]; exact (shape_len (conn_shape h)).2
set_option maxHeartbeats 1600000 in
theorem FoldsFlat_i (A : Option Addr) (n c : Nat) (xs : List C) (w : World) (hr : Rd w A (vC xs)) (hl : xs.length = n) (hn : n ≤ 1099511627776) :
    Calls Try.prog 34 #[.slice A n c] w (Ret w (.int .i64 (foldV xs))) := by
  have HL := Lib.hid hl
  cases hc : isConn xs with
  | false =>
    have HV : Hid (foldV xs = -1) := by show foldV xs = -1; unfold foldV; rw [hc]; rfl
    have HC := Lib.hid hc
    clear hc hl
    go_enter Try.func34, Try.ntmps34
    go_wp2_with (go_at_call 36; refine (FacesOf_i _ _ _ xs _ hr HL.out (by omega)).mono ?_; rw [HC.out]; rintro e w1 ⟨B, m, cap, rfl, ho, hb1⟩; clear ho)
    go_ret
    exact ⟨by rw [HV.out]; rfl, (by (repeat (first | with_reducible exact Below.refl _ _ | with_reducible assumption | with_reducible apply bel_alloc | with_reducible apply bel_drew | with_reducible apply bel_drewN | ((with_reducible refine bel_set ?_ ?_); rotate_left; (simp <;> omega)) | (with_reducible refine bel_trans ?_ (by with_reducible assumption)))))⟩
  | true =>
    have HV : Hid (foldV xs = foldsTo (faces xs) (faces xs).length) := by show foldV xs = _; unfold foldV; rw [hc]; rfl
    have hfl := faces_len8 hc
    have HC := Lib.hid hc
    clear hc hl
    go_enter Try.func34, Try.ntmps34
    go_wp2_with fail
    refine (FacesOf_i _ _ _ xs _ hr HL.out (by omega)).mono ?_
    rw [HC.out]
    rintro e w1 ⟨B, m, cap, rfl, ho, hb1⟩
    generalize faces xs = l at HV ho hfl
    have hlm : l.length = m := by have := own_len ho; rw [vI_length] at this; omega
    rw [hlm] at HV hfl
    have HLM := Lib.hid hlm
    have hrd := Rd.of_own ho
    clear hlm ho
    go_wp2_with fail
    go_loopw [17, 5] (fun e7 e5 wr => ∃ k q : Nat, k ≤ m ∧ q ≤ k * 8 ∧ e7 = .int .i64 k ∧ e5 = .int .i64 q ∧ q = foldsTo l k ∧ Below w1.heap.size w1 wr) (fun e7 _ _ => m - (intOf e7).toNat)
    case atStart => exact ⟨0, 0, by omega, by omega, rfl, rfl, rfl, (by (repeat (first | with_reducible exact Below.refl _ _ | with_reducible assumption | with_reducible apply bel_alloc | with_reducible apply bel_drew | with_reducible apply bel_drewN | ((with_reducible refine bel_set ?_ ?_); rotate_left; (simp <;> omega)) | (with_reducible refine bel_trans ?_ (by with_reducible assumption)))))⟩
    case round =>
      obtain ⟨k, q, hk, hq8, rfl, rfl, hq, hb⟩ := hrel
      by_cases hlt : k < m
      · have hkl : k < l.length := by rw [HLM.out]; exact hlt
        have hk0 : (0 : Int) ≤ (k : Int) := by omega
        have hk1 : (k : Int) < (m : Int) := by omega
        have HQ := Lib.hid hq
        have HF : Hid (foldsTo l (k + 1) = foldsTo l k + (l.take k).countP fun d => l[k] == d) := by show foldsTo l (k + 1) = _; simp only [foldsTo, List.getD_eq_getElem?_getD, List.getElem?_eq_getElem hkl, Option.getD_some]
        have hkx : k ≤ 8 := by omega
        clear hq
        go_wp2_with fail
        go_loopw [21, 5] (fun e7 e5 wr => ∃ j r : Nat, j ≤ k ∧ r ≤ q + j ∧ e7 = .int .i64 j ∧ e5 = .int .i64 r ∧ r = q + (l.take j).countP (fun d => l[k] == d) ∧ Below w1.heap.size w1 wr) (fun e7 _ _ => k - (intOf e7).toNat)
        case atStart => exact ⟨0, q, by omega, by omega, rfl, rfl, by simp, hb⟩
        case round =>
          clear hb
          obtain ⟨j, r, hj, hr8, rfl, rfl, hrq, hb⟩ := hrel
          by_cases hjk : j < k
          · have hjl : j < l.length := by omega
            have hj0 : (0 : Int) ≤ (j : Int) := by omega
            have hj1 : (j : Int) < (k : Int) := by omega
            have hj2 : (j : Int) < (m : Int) := by omega
            obtain ⟨g, off, rfl, hg, c1⟩ := RdI.at_ (hrd.below hb) hkl
            obtain ⟨g', off', he, _, c2⟩ := RdI.at_ (hrd.below hb) hjl
            simp only [Option.some.injEq, Addr.mk.injEq, and_true] at he
            obtain ⟨rfl, rfl⟩ := he
            have hct := countP_take (fun d => l[k] == d) l j hjl
            obtain ⟨x, hx⟩ : ∃ x, l[k] = x := ⟨_, rfl⟩
            obtain ⟨y, hy⟩ : ∃ y, l[j] = y := ⟨_, rfl⟩
            rw [hx] at c1
            rw [hy] at c2 hct
            by_cases hxy : x = y
            · have hN : r + 1 = q + (l.take (j + 1)).countP (fun d => l[k] == d) := by rw [hct, hx, hxy]; simp; rw [hrq, hx, hxy]; omega
              have HN := Lib.hid hN
              subst hxy
              have e1 : (x == x) = true := by simp
              clear hN hct hx hy hrq
              go_wp2_with fail
              (refine wp_region_below (by kernel_rfl) (by kernel_rfl) ?_; (repeat (first | go_big_quiet_skip | (refine quietV (v := ?_) (by rfl) rfl (fun w' hbw => ?_) ?_; rotate_left; ((try dsimp only at hbw); have hbc := (bcell hbw).1; have hbf := (bcell hbw).2; go_simp; first | done | with_reducible rfl | fail); simp only [List.setIfInBounds_toArray, List.set_cons_zero, List.set_cons_succ]))); refine wpQuiet_nil ?_; intro wq hq)
              go_wp2_with fail
              exact ⟨⟨j + 1, r + 1, by omega, by omega, by go_num, by go_num, HN.out, (by (repeat (first | with_reducible exact Below.refl _ _ | with_reducible assumption | with_reducible apply bel_alloc | with_reducible apply bel_drew | with_reducible apply bel_drewN | ((with_reducible refine bel_set ?_ ?_); rotate_left; (simp <;> omega)) | (with_reducible refine bel_trans ?_ (by with_reducible assumption)))))⟩, by simp [intOf]; omega⟩
            · have e1 : (x == y) = false := by simpa using hxy
              have hN : r = q + (l.take (j + 1)).countP (fun d => l[k] == d) := by rw [hct, hx, e1]; simp; rw [hrq, hx]
              have HN := Lib.hid hN
              clear hN hct hx hy hrq hxy
              go_wp2_with fail
              (refine wp_region_below (by kernel_rfl) (by kernel_rfl) ?_; (repeat (first | go_big_quiet_skip | (refine quietV (v := ?_) (by rfl) rfl (fun w' hbw => ?_) ?_; rotate_left; ((try dsimp only at hbw); have hbc := (bcell hbw).1; have hbf := (bcell hbw).2; go_simp; first | done | with_reducible rfl | fail); simp only [List.setIfInBounds_toArray, List.set_cons_zero, List.set_cons_succ]))); refine wpQuiet_nil ?_; intro wq hq)
              go_wp2_with fail
              exact ⟨⟨j + 1, r, by omega, by omega, by go_num, rfl, HN.out, (by (repeat (first | with_reducible exact Below.refl _ _ | with_reducible assumption | with_reducible apply bel_alloc | with_reducible apply bel_drew | with_reducible apply bel_drewN | ((with_reducible refine bel_set ?_ ?_); rotate_left; (simp <;> omega)) | (with_reducible refine bel_trans ?_ (by with_reducible assumption)))))⟩, by simp [intOf]; omega⟩
          · have hjk2 : j = k := by omega
            subst hjk2
            have hN : r = foldsTo l (j + 1) := by rw [HF.out, ← HQ.out]; exact hrq
            have HN := Lib.hid hN
            have hj1 : ¬ (j : Int) < (j : Int) := by omega
            clear hN hrq
            go_wp2_with fail
            exact ⟨⟨j + 1, r, by omega, by omega, by go_num, rfl, HN.out, hb⟩, by simp [intOf]; omega⟩
      · have hkm : k = m := by omega
        subst hkm
        have HQ : Hid (foldV xs = (q : Int)) := by rw [hq]; exact HV.out
        have hlt2 : ¬ (k : Int) < (k : Int) := by omega
        clear hq
        go_wp2
        go_ret
        exact ⟨by rw [HQ.out]; rfl, (by (repeat (first | with_reducible exact Below.refl _ _ | with_reducible assumption | with_reducible apply bel_alloc | with_reducible apply bel_drew | with_reducible apply bel_drewN | ((with_reducible refine bel_set ?_ ?_); rotate_left; (simp <;> omega)) | (with_reducible refine bel_trans ?_ (by with_reducible assumption)))))⟩
set_option maxHeartbeats 1600000 in
theorem FoldsFlat_s (A : Option Addr) (n c : Nat) (xs : List C) (w : World) (hr : Rd w A (vC xs)) (hl : xs.length = n) (hn : n ≤ 1099511627776) :
    Calls Try.prog 33 #[.slice A n c] w (Ret w (.int .i64 (foldV xs))) := by
  have HL := Lib.hid hl
  cases hc : isConn xs with
  | false =>
    have HV : Hid (foldV xs = -1) := by show foldV xs = -1; unfold foldV; rw [hc]; rfl
    have HC := Lib.hid hc
    clear hc hl
    go_enter Try.func33, Try.ntmps33
    go_wp2_with (go_at_call 35; refine (FacesOf_s _ _ _ xs _ hr HL.out (by omega)).mono ?_; rw [HC.out]; rintro e w1 ⟨B, m, cap, rfl, ho, hb1⟩; clear ho)
    go_ret
    exact ⟨by rw [HV.out]; rfl, (by (repeat (first | with_reducible exact Below.refl _ _ | with_reducible assumption | with_reducible apply bel_alloc | with_reducible apply bel_drew | with_reducible apply bel_drewN | ((with_reducible refine bel_set ?_ ?_); rotate_left; (simp <;> omega)) | (with_reducible refine bel_trans ?_ (by with_reducible assumption)))))⟩
  | true =>
    have HV : Hid (foldV xs = foldsTo (faces xs) (faces xs).length) := by show foldV xs = _; unfold foldV; rw [hc]; rfl
    have hfl := faces_len8 hc
    have HC := Lib.hid hc
    clear hc hl
    go_enter Try.func33, Try.ntmps33
    go_wp2_with fail
    refine (FacesOf_s _ _ _ xs _ hr HL.out (by omega)).mono ?_
    rw [HC.out]
    rintro e w1 ⟨B, m, cap, rfl, ho, hb1⟩
    generalize faces xs = l at HV ho hfl
    have hlm : l.length = m := by have := own_len ho; rw [vI_length] at this; omega
    rw [hlm] at HV hfl
    have HLM := Lib.hid hlm
    have hrd := Rd.of_own ho
    clear hlm ho
    go_wp2_with fail
    go_loopw [6, 5] (fun e7 e5 wr => ∃ k q : Nat, k ≤ m ∧ q ≤ k * 8 ∧ e7 = .int .i64 k ∧ e5 = .int .i64 q ∧ q = foldsTo l k ∧ Below w1.heap.size w1 wr) (fun e7 _ _ => m - (intOf e7).toNat)
    case atStart => exact ⟨0, 0, by omega, by omega, rfl, rfl, rfl, (by (repeat (first | with_reducible exact Below.refl _ _ | with_reducible assumption | with_reducible apply bel_alloc | with_reducible apply bel_drew | with_reducible apply bel_drewN | ((with_reducible refine bel_set ?_ ?_); rotate_left; (simp <;> omega)) | (with_reducible refine bel_trans ?_ (by with_reducible assumption)))))⟩
    case round =>
      obtain ⟨k, q, hk, hq8, rfl, rfl, hq, hb⟩ := hrel
      by_cases hlt : k < m
      · have hkl : k < l.length := by rw [HLM.out]; exact hlt
        have hk0 : (0 : Int) ≤ (k : Int) := by omega
        have hk1 : (k : Int) < (m : Int) := by omega
        have HQ := Lib.hid hq
        have HF : Hid (foldsTo l (k + 1) = foldsTo l k + (l.take k).countP fun d => l[k] == d) := by show foldsTo l (k + 1) = _; simp only [foldsTo, List.getD_eq_getElem?_getD, List.getElem?_eq_getElem hkl, Option.getD_some]
        have hkx : k ≤ 8 := by omega
        clear hq
        go_wp2_with fail
        go_loopw [7, 5] (fun e7 e5 wr => ∃ j r : Nat, j ≤ k ∧ r ≤ q + j ∧ e7 = .int .i64 j ∧ e5 = .int .i64 r ∧ r = q + (l.take j).countP (fun d => l[k] == d) ∧ Below w1.heap.size w1 wr) (fun e7 _ _ => k - (intOf e7).toNat)
        case atStart => exact ⟨0, q, by omega, by omega, rfl, rfl, by simp, hb⟩
        case round =>
          clear hb
          obtain ⟨j, r, hj, hr8, rfl, rfl, hrq, hb⟩ := hrel
          by_cases hjk : j < k
          · have hjl : j < l.length := by omega
            have hj0 : (0 : Int) ≤ (j : Int) := by omega
            have hj1 : (j : Int) < (k : Int) := by omega
            have hj2 : (j : Int) < (m : Int) := by omega
            obtain ⟨g, off, rfl, hg, c1⟩ := RdI.at_ (hrd.below hb) hkl
            obtain ⟨g', off', he, _, c2⟩ := RdI.at_ (hrd.below hb) hjl
            simp only [Option.some.injEq, Addr.mk.injEq, and_true] at he
            obtain ⟨rfl, rfl⟩ := he
            have hct := countP_take (fun d => l[k] == d) l j hjl
            obtain ⟨x, hx⟩ : ∃ x, l[k] = x := ⟨_, rfl⟩
            obtain ⟨y, hy⟩ : ∃ y, l[j] = y := ⟨_, rfl⟩
            rw [hx] at c1
            rw [hy] at c2 hct
            by_cases hxy : x = y
            · have hN : r + 1 = q + (l.take (j + 1)).countP (fun d => l[k] == d) := by rw [hct, hx, hxy]; simp; rw [hrq, hx, hxy]; omega
              have HN := Lib.hid hN
              subst hxy
              have e1 : (x == x) = true := by simp
              clear hN hct hx hy hrq
              go_wp2_with fail
              (refine wp_region_below (by kernel_rfl) (by kernel_rfl) ?_; (repeat (first | go_big_quiet_skip | (refine quietV (v := ?_) (by rfl) rfl (fun w' hbw => ?_) ?_; rotate_left; ((try dsimp only at hbw); have hbc := (bcell hbw).1; have hbf := (bcell hbw).2; go_simp; first | done | with_reducible rfl | fail); simp only [List.setIfInBounds_toArray, List.set_cons_zero, List.set_cons_succ]))); refine wpQuiet_nil ?_; intro wq hq)
              go_wp2_with fail
              exact ⟨⟨j + 1, r + 1, by omega, by omega, by go_num, by go_num, HN.out, (by (repeat (first | with_reducible exact Below.refl _ _ | with_reducible assumption | with_reducible apply bel_alloc | with_reducible apply bel_drew | with_reducible apply bel_drewN | ((with_reducible refine bel_set ?_ ?_); rotate_left; (simp <;> omega)) | (with_reducible refine bel_trans ?_ (by with_reducible assumption)))))⟩, by simp [intOf]; omega⟩
            · have e1 : (x == y) = false := by simpa using hxy
              have hN : r = q + (l.take (j + 1)).countP (fun d => l[k] == d) := by rw [hct, hx, e1]; simp; rw [hrq, hx]
              have HN := Lib.hid hN
              clear hN hct hx hy hrq hxy
              go_wp2_with fail
              (refine wp_region_below (by kernel_rfl) (by kernel_rfl) ?_; (repeat (first | go_big_quiet_skip | (refine quietV (v := ?_) (by rfl) rfl (fun w' hbw => ?_) ?_; rotate_left; ((try dsimp only at hbw); have hbc := (bcell hbw).1; have hbf := (bcell hbw).2; go_simp; first | done | with_reducible rfl | fail); simp only [List.setIfInBounds_toArray, List.set_cons_zero, List.set_cons_succ]))); refine wpQuiet_nil ?_; intro wq hq)
              go_wp2_with fail
              exact ⟨⟨j + 1, r, by omega, by omega, by go_num, rfl, HN.out, (by (repeat (first | with_reducible exact Below.refl _ _ | with_reducible assumption | with_reducible apply bel_alloc | with_reducible apply bel_drew | with_reducible apply bel_drewN | ((with_reducible refine bel_set ?_ ?_); rotate_left; (simp <;> omega)) | (with_reducible refine bel_trans ?_ (by with_reducible assumption)))))⟩, by simp [intOf]; omega⟩
          · have hjk2 : j = k := by omega
            subst hjk2
            have hN : r = foldsTo l (j + 1) := by rw [HF.out, ← HQ.out]; exact hrq
            have HN := Lib.hid hN
            have hj1 : ¬ (j : Int) < (j : Int) := by omega
            clear hN hrq
            go_wp2_with fail
            exact ⟨⟨j + 1, r, by omega, by omega, by go_num, rfl, HN.out, hb⟩, by simp [intOf]; omega⟩
      · have hkm : k = m := by omega
        subst hkm
        have HQ : Hid (foldV xs = (q : Int)) := by rw [hq]; exact HV.out
        have hlt2 : ¬ (k : Int) < (k : Int) := by omega
        clear hq
        go_wp2
        go_ret
        exact ⟨by rw [HQ.out]; rfl, (by (repeat (first | with_reducible exact Below.refl _ _ | with_reducible assumption | with_reducible apply bel_alloc | with_reducible apply bel_drew | with_reducible apply bel_drewN | ((with_reducible refine bel_set ?_ ?_); rotate_left; (simp <;> omega)) | (with_reducible refine bel_trans ?_ (by with_reducible assumption)))))⟩
end Go.Proofs.Ytemmbpmgfjodnaa
