/- Cells moved, moved to their corner, the neighbours of a cell: the program. -/
import Derived.Test.YteelmhmdnljjnaaGreatSortJ
import Derived.Outline
import Derived.WalkLawsBesides
import Derived.WalkSpells
import Derived.BigQuiet
import Derived.Deep.QuietTactic
import Derived.Deep.RegionHeld3
import Derived.Deep.RegionWith
import Derived.Deep.DeepCutAuto
import Derived.Deep.CutBlock
import Derived.Deep.DrawnRows
namespace Go.Proofs.YteelmhmdnljjnaaGreat
open Go.RowKit
set_option linter.unusedVariables false
attribute [local go_sem ↓] Go.wp_at_zero Go.wp_at_succ

set_option maxHeartbeats 800000 in
theorem moved_i (A : Option Addr) (n c : Nat) (xs : List C) (x y : Int) (w : World) (hr : Rd w A (vC xs)) (hl : xs.length = n) (hn : n ≤ 1048576) (hs : ∀ d ∈ xs, small d) (hx : -1000 ≤ x ∧ x ≤ 1000) (hy : -1000 ≤ y ∧ y ≤ 1000) :
    Calls Tryz.prog 76 #[.slice A n c, .int .i64 x, .int .i64 y] w (RetS w 71 2 (vC (mv xs x y))) := by
  have HL := Lib.hid hl
  have HS := Lib.hid hs
  obtain ⟨hx1, hx2⟩ := hx
  obtain ⟨hy1, hy2⟩ := hy
  clear hl hs
  go_enter Tryz.func76, Tryz.ntmps76
  go_wp2
  go_loopw [12, 7] (fun e12 e7 wr => ∃ (k cq : Nat) (D : Option Addr), k ≤ n ∧ e12 = .int .i64 k ∧ e7 = .slice D k cq ∧ wr.ownsRow w.heap.size 71 2 (.slice D k cq) k (vC (mv (xs.take k) x y)) ∧ Below w.heap.size w wr) (fun e12 _ _ => n - (intOf e12).toNat)
  case atStart => exact ⟨0, 0, none, Nat.zero_le _, rfl, rfl, own_nil _ _ _ _, Below.refl _ _⟩
  case round =>
    obtain ⟨k, cq, D, hk, rfl, rfl, hown, hb⟩ := hrel
    by_cases hlt : k < n
    · have hkl : k < xs.length := by rw [HL.out]; exact hlt
      have hk0 : (0 : Int) ≤ (k : Int) := by omega
      have hk1 : (k : Int) < (n : Int) := by omega
      obtain ⟨g, off, rfl, hg, d1, d2⟩ := RdC.at_ (hr.below hb) hkl
      have hst := mv_take xs x y k hkl
      have hsm := HS.out _ (List.getElem_mem hkl)
      obtain ⟨p, hp⟩ : ∃ p, xs[k].1 = p := ⟨_, rfl⟩
      obtain ⟨q, hq⟩ : ∃ q, xs[k].2 = q := ⟨_, rfl⟩
      unfold small at hsm
      rw [hp, hq] at hsm hst
      rw [hp] at d1
      rw [hq] at d2
      have e1 : IntKind.i64.wrap (p + x) = p + x := Go.IntWalk.i64_in _ (by omega)
      have e2 : IntKind.i64.wrap (q + y) = q + y := Go.IntWalk.i64_in _ (by omega)
      have HST := Lib.hid hst
      have HO := Lib.hid hown
      have hbs := hb.size
      have HRN : Hid (Rd ((wr.alloc (.cells #[.int .i64 p, .int .i64 q] 71)).alloc (.cells #[.int .i64 (p + x), .int .i64 (q + y)] 71)) (some ⟨wr.heap.size + 1, 0, none⟩) (vC [(p + x, q + y)])) := by
        have := rd_newC (wr.alloc (.cells #[.int .i64 p, .int .i64 q] 71)) 71 (p + x) (q + y)
        rw [show (wr.alloc (.cells #[.int .i64 p, .int .i64 q] 71)).heap.size = wr.heap.size + 1 from by simp] at this
        exact this
      clear hst hown hp hq hsm
      go_wp2_with (at_builtin; go_must (refine app_C _ rfl _ _ rfl w.heap.size _ _ _ _ rfl ((HO.out.alloc _).alloc _) _ _ _ [(p + x, q + y)] rfl HRN.out rfl (by omega) (by simp; omega) ?_); intro D2 cp2 w8 ho8 hg8 hat8; have HO8 := Lib.hid ho8; have HG8 := Lib.hid hg8; clear ho8 hg8 hat8)
      exact ⟨⟨k + 1, cp2, D2, by omega, by go_num, rfl, by rw [HST.out]; exact HO8.out, bel_app (bel_alloc (bel_alloc hb _) _) HG8.out (fun g' hg1 => ((own_lt HO.out) g' hg1).1)⟩, by simp [intOf]; omega⟩
    · obtain rfl : k = n := by omega
      rw [List.take_of_length_le (by rw [HL.out]; omega)] at hown
      have HO := Lib.hid hown
      have hk1 : ¬ (k : Int) < (k : Int) := by omega
      clear hown
      go_wp2
      go_ret
      exact ⟨_, _, _, rfl, HO.out, hb⟩
set_option maxHeartbeats 1600000 in
theorem corner_i (A : Option Addr) (n c : Nat) (xs : List C) (w : World) (hr : Rd w A (vC xs)) (hl : xs.length = n) (hn1 : 1 ≤ n) (hn : n ≤ 12) (hs : ∀ d ∈ xs, small d) :
    Calls Tryz.prog 113 #[.slice A n c] w (RetS w 71 2 (vC (cornI xs))) := by
  have h0 : 0 < xs.length := by omega
  have hsm := minC_small h0 hs
  have hms : ∀ k, k ≤ n → (-1000 ≤ minTo (·.1) xs k ∧ minTo (·.1) xs k ≤ 1000) ∧ (-1000 ≤ minTo (·.2) xs k ∧ minTo (·.2) xs k ≤ 1000) := by
    intro k hk
    obtain ⟨a, ha, e1⟩ := minTo_at (·.1) xs h0 k (by omega)
    obtain ⟨b, hb, e2⟩ := minTo_at (·.2) xs h0 k (by omega)
    have h1 := hs a ha
    have h2 := hs b hb
    unfold small at h1 h2
    rw [e1, e2]
    exact ⟨h1.1, h2.2⟩
  have hV : cornI xs = sortC (mv xs (-(minTo (·.1) xs n)) (-(minTo (·.2) xs n))) := by unfold cornI minC; rw [hl]
  have HV := Lib.hid hV
  have HL := Lib.hid hl
  have HS := Lib.hid hs
  have HMS := Lib.hid hms
  have HR := Lib.hid hr
  obtain ⟨g0, o0, hA, hg0, z1, z2⟩ := RdC.at_ hr h0
  subst hA
  obtain ⟨u, hu⟩ : ∃ u, xs[0].1 = u := ⟨_, rfl⟩
  obtain ⟨v, hv⟩ : ∃ v, xs[0].2 = v := ⟨_, rfl⟩
  rw [hu] at z1
  rw [hv] at z2
  simp only [Nat.zero_mul, Nat.add_zero] at z1 z2
  have H1 : Hid (minTo (·.1) xs 0 = u) := by show (xs.getD 0 default).1 = u; rw [getD_in xs h0, hu]
  have H2 : Hid (minTo (·.2) xs 0 = v) := by show (xs.getD 0 default).2 = v; rw [getD_in xs h0, hv]
  have hn0 : (0 : Int) < (n : Int) := by omega
  have hn00 : 0 < n := by omega
  clear hl hs hms hr hV hu hv hsm
  go_enter Tryz.func113, Tryz.ntmps113
  go_wp2_with fail
  (refine wp_region_below (by kernel_rfl) (by kernel_rfl) ?_; (repeat (first | go_big_quiet_skip | (refine quietV (v := ?_) (by rfl) rfl (fun w' hbw => ?_) ?_; rotate_left; ((try dsimp only at hbw); have hbc := (bcell hbw).1; have hbf := (bcell hbw).2; go_simp; first | done | with_reducible rfl | fail); simp only [List.setIfInBounds_toArray, List.set_cons_zero, List.set_cons_succ]))); refine wpQuiet_nil ?_; intro wq hbq)
  clear z1 z2
  go_wp2_with fail
  go_loopw [17, 3, 4] (fun e17 e3 e4 wr => ∃ (k : Nat) (px py : Int), k ≤ n ∧ e17 = .int .i64 k ∧ e3 = .int .i64 px ∧ e4 = .int .i64 py ∧ minTo (·.1) xs k = px ∧ minTo (·.2) xs k = py ∧ Below w.heap.size w wr) (fun e17 _ _ _ => n - (intOf e17).toNat)
  case atStart => exact ⟨0, u, v, Nat.zero_le _, rfl, rfl, rfl, H1.out, H2.out, hbq⟩
  case round =>
    obtain ⟨k, px, py, hk, rfl, rfl, rfl, hpx, hpy, hb⟩ := hrel
    have HPX := Lib.hid hpx
    have HPY := Lib.hid hpy
    clear hpx hpy
    by_cases hlt : k < n
    · have hkl : k < xs.length := by rw [HL.out]; exact hlt
      have hk0 : (0 : Int) ≤ (k : Int) := by omega
      have hk1 : (k : Int) < (n : Int) := by omega
      obtain ⟨g, off, he, hg, d1, d2⟩ := RdC.at_ (HR.out.below hb) hkl
      simp only [Option.some.injEq, Addr.mk.injEq, and_true] at he
      obtain ⟨rfl, rfl⟩ := he
      obtain ⟨p, hp⟩ : ∃ p, xs[k].1 = p := ⟨_, rfl⟩
      obtain ⟨q, hq⟩ : ∃ q, xs[k].2 = q := ⟨_, rfl⟩
      rw [hp] at d1
      rw [hq] at d2
      have S1 : Hid (minTo (·.1) xs (k + 1) = if p < px then p else px) := by show minTo (·.1) xs (k + 1) = _; unfold minTo; rw [getD_in xs hkl, hp, HPX.out]
      have S2 : Hid (minTo (·.2) xs (k + 1) = if q < py then q else py) := by show minTo (·.2) xs (k + 1) = _; unfold minTo; rw [getD_in xs hkl, hq, HPY.out]
      clear hp hq
      by_cases h1 : p < px
      · by_cases h2 : q < py
        · have T1 : Hid (minTo (·.1) xs (k + 1) = p) := by show _ = _; rw [S1.out]; exact if_pos h1
          have T2 : Hid (minTo (·.2) xs (k + 1) = q) := by show _ = _; rw [S2.out]; exact if_pos h2
          go_wp2_with fail
          (refine wp_region_below (by kernel_rfl) (by kernel_rfl) ?_; (repeat (first | go_big_quiet_skip | (refine quietV (v := ?_) (by rfl) rfl (fun w' hbw => ?_) ?_; rotate_left; ((try dsimp only at hbw); have hbc := (bcell hbw).1; have hbf := (bcell hbw).2; go_simp; first | done | with_reducible rfl | fail); simp only [List.setIfInBounds_toArray, List.set_cons_zero, List.set_cons_succ]))); refine wpQuiet_nil ?_; intro wq hbq)
          go_wp2_with fail
          exact ⟨⟨k + 1, p, q, by omega, by go_num, by first | rfl | (simp <;> omega), by first | rfl | (simp <;> omega), T1.out, T2.out, bel_trans (bel_alloc hb _) hbq⟩, by simp [intOf]; omega⟩
        · have T1 : Hid (minTo (·.1) xs (k + 1) = p) := by show _ = _; rw [S1.out]; exact if_pos h1
          have T2 : Hid (minTo (·.2) xs (k + 1) = py) := by show _ = _; rw [S2.out]; exact if_neg h2
          go_wp2_with fail
          (refine wp_region_below (by kernel_rfl) (by kernel_rfl) ?_; (repeat (first | go_big_quiet_skip | (refine quietV (v := ?_) (by rfl) rfl (fun w' hbw => ?_) ?_; rotate_left; ((try dsimp only at hbw); have hbc := (bcell hbw).1; have hbf := (bcell hbw).2; go_simp; first | done | with_reducible rfl | fail); simp only [List.setIfInBounds_toArray, List.set_cons_zero, List.set_cons_succ]))); refine wpQuiet_nil ?_; intro wq hbq)
          go_wp2_with fail
          exact ⟨⟨k + 1, p, py, by omega, by go_num, by first | rfl | (simp <;> omega), by first | rfl | (simp <;> omega), T1.out, T2.out, bel_trans (bel_alloc hb _) hbq⟩, by simp [intOf]; omega⟩
      · by_cases h2 : q < py
        · have T1 : Hid (minTo (·.1) xs (k + 1) = px) := by show _ = _; rw [S1.out]; exact if_neg h1
          have T2 : Hid (minTo (·.2) xs (k + 1) = q) := by show _ = _; rw [S2.out]; exact if_pos h2
          go_wp2_with fail
          (refine wp_region_below (by kernel_rfl) (by kernel_rfl) ?_; (repeat (first | go_big_quiet_skip | (refine quietV (v := ?_) (by rfl) rfl (fun w' hbw => ?_) ?_; rotate_left; ((try dsimp only at hbw); have hbc := (bcell hbw).1; have hbf := (bcell hbw).2; go_simp; first | done | with_reducible rfl | fail); simp only [List.setIfInBounds_toArray, List.set_cons_zero, List.set_cons_succ]))); refine wpQuiet_nil ?_; intro wq hbq)
          go_wp2_with fail
          exact ⟨⟨k + 1, px, q, by omega, by go_num, by first | rfl | (simp <;> omega), by first | rfl | (simp <;> omega), T1.out, T2.out, bel_trans (bel_alloc hb _) hbq⟩, by simp [intOf]; omega⟩
        · have T1 : Hid (minTo (·.1) xs (k + 1) = px) := by show _ = _; rw [S1.out]; exact if_neg h1
          have T2 : Hid (minTo (·.2) xs (k + 1) = py) := by show _ = _; rw [S2.out]; exact if_neg h2
          go_wp2_with fail
          (refine wp_region_below (by kernel_rfl) (by kernel_rfl) ?_; (repeat (first | go_big_quiet_skip | (refine quietV (v := ?_) (by rfl) rfl (fun w' hbw => ?_) ?_; rotate_left; ((try dsimp only at hbw); have hbc := (bcell hbw).1; have hbf := (bcell hbw).2; go_simp; first | done | with_reducible rfl | fail); simp only [List.setIfInBounds_toArray, List.set_cons_zero, List.set_cons_succ]))); refine wpQuiet_nil ?_; intro wq hbq)
          go_wp2_with fail
          exact ⟨⟨k + 1, px, py, by omega, by go_num, by first | rfl | (simp <;> omega), by first | rfl | (simp <;> omega), T1.out, T2.out, bel_trans (bel_alloc hb _) hbq⟩, by simp [intOf]; omega⟩
    · obtain rfl : k = n := by omega
      have hk1 : ¬ (k : Int) < (k : Int) := by omega
      have hms := HMS.out k (Nat.le_refl _)
      rw [HPX.out, HPY.out] at hms
      obtain ⟨⟨q1, q2⟩, q3, q4⟩ := hms
      have e1 : IntKind.i64.wrap (-px) = -px := Go.IntWalk.i64_in _ (by omega)
      have e2 : IntKind.i64.wrap (-py) = -py := Go.IntWalk.i64_in _ (by omega)
      go_wp2_with fail
      refine (moved_i _ k c xs (-px) (-py) _ (HR.out.below hb) HL.out (by omega) HS.out (by omega) (by omega)).mono ?_
      rintro e w1 ⟨D, m, cD, rfl, ho, hb1⟩
      have hm : m = k := by have := own_len ho; rw [vC_length, mv_len, HL.out] at this; omega
      subst hm
      have HO := Lib.hid ho
      clear ho
      go_wp2_with fail
      refine (SortCells_i D m cD _ _ (Rd.of_own HO.out) (by rw [mv_len]; exact HL.out) hn1 hn).mono ?_
      rintro e w2 ⟨E, m2, cE, rfl, ho2, hb2⟩
      rw [← HPX.out, ← HPY.out, ← HV.out] at ho2
      have HO2 := Lib.hid (own_base (base' := w.heap.size) ho2 (by have := hb.size; have := hb1.size; omega))
      clear ho2
      go_wp2_with fail
      go_ret
      exact ⟨_, _, _, rfl, HO2.out, bel_trans (bel_trans hb hb1) hb2⟩
end Go.Proofs.YteelmhmdnljjnaaGreat
