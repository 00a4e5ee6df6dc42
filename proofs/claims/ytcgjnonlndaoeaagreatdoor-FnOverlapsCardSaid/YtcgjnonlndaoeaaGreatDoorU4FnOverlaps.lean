/- Texts of this claim, one behind the other: part 4. -/
import Derived.Test.YtcgjnonlndaoeaaGreatDoorU3FnOverlaps
import Derived.Outline
import Derived.WalkLawsBesides
import Derived.WalkSpells
import Derived.BigQuiet
import Derived.Deep.QuietTactic
import Derived.Deep.RegionHeld3
import Derived.Deep.RegionWith
import Derived.Deep.DeepCutAuto
import Derived.Deep.CutBlock
import Derived.Deep.DrawnRows
import Derived.Laws.CopyOwn
/- Shapes compared: both sides. -/
namespace Go.Proofs.YtcgjnonlndaoeaaGreatDoor
open Go.RowKit
set_option linter.unusedVariables false
attribute [local go_sem ↓] Go.wp_at_zero Go.wp_at_succ
set_option maxHeartbeats 1600000 in
theorem CompareShapes_i (A B : Option Addr) (n c m d : Nat) (xs ys : List C) (w : World) (hr : Rd w A (vC xs)) (hr2 : Rd w B (vC ys)) (hl : xs.length = n) (hl2 : ys.length = m) (hn : n ≤ 1099511627776) (hm : m ≤ 1099511627776) :
    Calls Tryz.prog 131 #[.slice A n c, .slice B m d] w (Ret w (.int .i64 (cmpS xs ys))) := by
  rcases Nat.lt_trichotomy n m with hlt | heq | hgt
  · have HV : Hid (cmpS xs ys = -1) := cmpS_len (by omega)
    have h1 : (n : Int) < (m : Int) := by omega
    have h2 : ((n : Int) != (m : Int)) = true := by rw [bne_iff_ne]; omega
    clear hl hl2
    go_enter Tryz.func131, Tryz.ntmps131
    go_wp2
    go_ret
    exact ⟨by rw [HV.out]; rfl, (by (repeat (first | with_reducible exact Below.refl _ _ | with_reducible assumption | with_reducible apply bel_alloc | with_reducible apply bel_drew | with_reducible apply bel_drewN | ((with_reducible refine bel_set ?_ ?_); rotate_left; (simp <;> omega)) | (with_reducible refine bel_trans ?_ (by with_reducible assumption)))))⟩
  · subst heq
    have HLL : Hid (xs.length = ys.length) := hl.trans hl2.symm
    have HL := Lib.hid hl
    have HL2 := Lib.hid hl2
    have h1 : decide ((n : Int) < (n : Int)) = false := by simp
    clear hl hl2
    go_enter Tryz.func131, Tryz.ntmps131
    go_wp2
    go_loopw [20] (fun e5 wr => ∃ k : Nat, k ≤ n ∧ e5 = .int .i64 k ∧ xs.take k = ys.take k ∧ Below w.heap.size w wr) (fun e5 _ => n - (intOf e5).toNat)
    case atStart => exact ⟨0, Nat.zero_le _, rfl, rfl, Below.refl _ _⟩
    case round =>
      obtain ⟨k, hk, rfl, htk, hb⟩ := hrel
      have HT := Lib.hid htk
      clear htk
      by_cases hkn : k < n
      · have hk1 : k < xs.length := by rw [HL.out]; exact hkn
        have hk2 : k < ys.length := by rw [HL2.out]; exact hkn
        have hk0 : (0 : Int) ≤ (k : Int) := by omega
        have hkI : (k : Int) < (n : Int) := by omega
        obtain ⟨g1, o1, rfl, hg1, a1, a2⟩ := RdC.at_ (hr.below hb) hk1
        obtain ⟨g2, o2, rfl, hg2, b1, b2⟩ := RdC.at_ (hr2.below hb) hk2
        obtain ⟨x, hx⟩ : ∃ x, xs[k].1 = x := ⟨_, rfl⟩
        obtain ⟨y, hy⟩ : ∃ y, xs[k].2 = y := ⟨_, rfl⟩
        obtain ⟨p, hp⟩ : ∃ p, ys[k].1 = p := ⟨_, rfl⟩
        obtain ⟨q, hq⟩ : ∃ q, ys[k].2 = q := ⟨_, rfl⟩
        have hxy : xs[k] = (x, y) := Prod.ext hx hy
        have hpq : ys[k] = (p, q) := Prod.ext hp hq
        rw [hx] at a1
        rw [hy] at a2
        rw [hp] at b1
        rw [hq] at b2
        have HAT := Lib.hid (cmpS_at HLL.out hk1 HT.out (x, y) (p, q) hxy hpq)
        have HST : Hid ((x, y) = (p, q) → xs.take (k + 1) = ys.take (k + 1)) := fun e => take_eq_step hk1 hk2 HT.out (by rw [hxy, hpq, e])
        clear hx hy hp hq hxy hpq
        cases h3 : befC (x, y) (p, q) with
        | true =>
          have HV := Lib.hid (HAT.out.1 h3)
          have H3 := Lib.hid h3
          clear h3
          go_wp2_with fail
          (refine wp_region_below (by kernel_rfl) (by kernel_rfl) ?_; (repeat (first | go_big_quiet_skip | (refine quietV (v := ?_) (by rfl) rfl (fun w' hbw => ?_) ?_; rotate_left; ((try dsimp only at hbw); have hbc := (bcell hbw).1; have hbf := (bcell hbw).2; go_simp; first | done | with_reducible rfl | exact callsBB (before_i x y p q _) H3.out hbw); simp only [List.setIfInBounds_toArray, List.set_cons_zero, List.set_cons_succ]))); refine wpQuiet_nil ?_; intro wq hbq)
          go_wp2_with fail
          go_ret
          exact ⟨by rw [HV.out]; rfl, (by (repeat (first | with_reducible exact Below.refl _ _ | with_reducible assumption | with_reducible apply bel_alloc | with_reducible apply bel_drew | with_reducible apply bel_drewN | ((with_reducible refine bel_set ?_ ?_); rotate_left; (simp <;> omega)) | (with_reducible refine bel_trans ?_ (by with_reducible assumption)))))⟩
        | false =>
          have H3 := Lib.hid h3
          cases h4 : befC (p, q) (x, y) with
          | true =>
            have HV := Lib.hid (HAT.out.2 h4)
            have H4 := Lib.hid h4
            clear h3 h4
            go_wp2_with fail
            (refine wp_region_below (by kernel_rfl) (by kernel_rfl) ?_; (repeat (first | go_big_quiet_skip | (refine quietV (v := ?_) (by rfl) rfl (fun w' hbw => ?_) ?_; rotate_left; ((try dsimp only at hbw); have hbc := (bcell hbw).1; have hbf := (bcell hbw).2; go_simp; first | done | with_reducible rfl | exact callsBB (before_i x y p q _) H3.out hbw); simp only [List.setIfInBounds_toArray, List.set_cons_zero, List.set_cons_succ]))); refine wpQuiet_nil ?_; intro wq hbq)
            have c1 := (hbq.cell hg1).trans a1
            have c2 := (hbq.cell hg1).trans a2
            have c3 := (hbq.cell hg2).trans b1
            have c4 := (hbq.cell hg2).trans b2
            have hg3 : g1 < wq.heap.size := Nat.lt_of_lt_of_le hg1 hbq.size
            have hg4 : g2 < wq.heap.size := Nat.lt_of_lt_of_le hg2 hbq.size
            clear a1 a2 b1 b2 hg1 hg2
            go_wp2_with fail
            (refine wp_region_below (by kernel_rfl) (by kernel_rfl) ?_; (repeat (first | go_big_quiet_skip | (refine quietV (v := ?_) (by rfl) rfl (fun w' hbw => ?_) ?_; rotate_left; ((try dsimp only at hbw); have hbc := (bcell hbw).1; have hbf := (bcell hbw).2; go_simp; first | done | with_reducible rfl | exact callsBB (before_i p q x y _) H4.out hbw); simp only [List.setIfInBounds_toArray, List.set_cons_zero, List.set_cons_succ]))); refine wpQuiet_nil ?_; intro wz hbz)
            go_wp2_with fail
            go_ret
            exact ⟨by rw [HV.out]; rfl, bel_trans (bel_trans hb hbq) hbz⟩
          | false =>
            have HE := Lib.hid (befC_sto.tot h3 h4)
            have H4 := Lib.hid h4
            clear h3 h4
            go_wp2_with fail
            (refine wp_region_below (by kernel_rfl) (by kernel_rfl) ?_; (repeat (first | go_big_quiet_skip | (refine quietV (v := ?_) (by rfl) rfl (fun w' hbw => ?_) ?_; rotate_left; ((try dsimp only at hbw); have hbc := (bcell hbw).1; have hbf := (bcell hbw).2; go_simp; first | done | with_reducible rfl | exact callsBB (before_i x y p q _) H3.out hbw); simp only [List.setIfInBounds_toArray, List.set_cons_zero, List.set_cons_succ]))); refine wpQuiet_nil ?_; intro wq hbq)
            have c1 := (hbq.cell hg1).trans a1
            have c2 := (hbq.cell hg1).trans a2
            have c3 := (hbq.cell hg2).trans b1
            have c4 := (hbq.cell hg2).trans b2
            have hg3 : g1 < wq.heap.size := Nat.lt_of_lt_of_le hg1 hbq.size
            have hg4 : g2 < wq.heap.size := Nat.lt_of_lt_of_le hg2 hbq.size
            clear a1 a2 b1 b2 hg1 hg2
            go_wp2_with fail
            (refine wp_region_below (by kernel_rfl) (by kernel_rfl) ?_; (repeat (first | go_big_quiet_skip | (refine quietV (v := ?_) (by rfl) rfl (fun w' hbw => ?_) ?_; rotate_left; ((try dsimp only at hbw); have hbc := (bcell hbw).1; have hbf := (bcell hbw).2; go_simp; first | done | with_reducible rfl | exact callsBB (before_i p q x y _) H4.out hbw); simp only [List.setIfInBounds_toArray, List.set_cons_zero, List.set_cons_succ]))); refine wpQuiet_nil ?_; intro wz hbz)
            go_wp2_with fail
            exact ⟨⟨k + 1, by omega, by go_num, HST.out HE.out, bel_trans (bel_trans hb hbq) hbz⟩, by simp [intOf]; omega⟩
      · have hkn2 : k = n := by omega
        have HV : Hid (cmpS xs ys = 0) := by
          show cmpS xs ys = 0
          rw [take_eq_all HLL.out (by rw [HL.out]; omega) HT.out]
          exact cmpS_eq _
        subst hkn2
        have hk1 : ¬ (k : Int) < (k : Int) := by omega
        go_wp2
        go_ret
        exact ⟨by rw [HV.out]; rfl, hb⟩
  · have HV : Hid (cmpS xs ys = 1) := cmpS_len2 (by omega)
    have h1 : decide ((n : Int) < (m : Int)) = false := by simp; omega
    have h2 : ((n : Int) != (m : Int)) = true := by rw [bne_iff_ne]; omega
    have h3 : (n : Int) > (m : Int) := by omega
    clear hl hl2
    go_enter Tryz.func131, Tryz.ntmps131
    go_wp2
    go_ret
    exact ⟨by rw [HV.out]; rfl, (by (repeat (first | with_reducible exact Below.refl _ _ | with_reducible assumption | with_reducible apply bel_alloc | with_reducible apply bel_drew | with_reducible apply bel_drewN | ((with_reducible refine bel_set ?_ ?_); rotate_left; (simp <;> omega)) | (with_reducible refine bel_trans ?_ (by with_reducible assumption)))))⟩
set_option maxHeartbeats 1600000 in
theorem CompareShapes_s (A B : Option Addr) (n c m d : Nat) (xs ys : List C) (w : World) (hr : Rd w A (vC xs)) (hr2 : Rd w B (vC ys)) (hl : xs.length = n) (hl2 : ys.length = m) (hn : n ≤ 1099511627776) (hm : m ≤ 1099511627776) :
    Calls Tryz.prog 125 #[.slice A n c, .slice B m d] w (Ret w (.int .i64 (cmpS xs ys))) := by
  rcases Nat.lt_trichotomy n m with hlt | heq | hgt
  · have HV : Hid (cmpS xs ys = -1) := cmpS_len (by omega)
    have h1 : (n : Int) < (m : Int) := by omega
    have h2 : ((n : Int) != (m : Int)) = true := by rw [bne_iff_ne]; omega
    clear hl hl2
    go_enter Tryz.func125, Tryz.ntmps125
    go_wp2
    go_ret
    exact ⟨by rw [HV.out]; rfl, (by (repeat (first | with_reducible exact Below.refl _ _ | with_reducible assumption | with_reducible apply bel_alloc | with_reducible apply bel_drew | with_reducible apply bel_drewN | ((with_reducible refine bel_set ?_ ?_); rotate_left; (simp <;> omega)) | (with_reducible refine bel_trans ?_ (by with_reducible assumption)))))⟩
  · subst heq
    have HLL : Hid (xs.length = ys.length) := hl.trans hl2.symm
    have HL := Lib.hid hl
    have HL2 := Lib.hid hl2
    have h1 : decide ((n : Int) < (n : Int)) = false := by simp
    clear hl hl2
    go_enter Tryz.func125, Tryz.ntmps125
    go_wp2
    go_loopw [5] (fun e5 wr => ∃ k : Nat, k ≤ n ∧ e5 = .int .i64 k ∧ xs.take k = ys.take k ∧ Below w.heap.size w wr) (fun e5 _ => n - (intOf e5).toNat)
    case atStart => exact ⟨0, Nat.zero_le _, rfl, rfl, Below.refl _ _⟩
    case round =>
      obtain ⟨k, hk, rfl, htk, hb⟩ := hrel
      have HT := Lib.hid htk
      clear htk
      by_cases hkn : k < n
      · have hk1 : k < xs.length := by rw [HL.out]; exact hkn
        have hk2 : k < ys.length := by rw [HL2.out]; exact hkn
        have hk0 : (0 : Int) ≤ (k : Int) := by omega
        have hkI : (k : Int) < (n : Int) := by omega
        obtain ⟨g1, o1, rfl, hg1, a1, a2⟩ := RdC.at_ (hr.below hb) hk1
        obtain ⟨g2, o2, rfl, hg2, b1, b2⟩ := RdC.at_ (hr2.below hb) hk2
        obtain ⟨x, hx⟩ : ∃ x, xs[k].1 = x := ⟨_, rfl⟩
        obtain ⟨y, hy⟩ : ∃ y, xs[k].2 = y := ⟨_, rfl⟩
        obtain ⟨p, hp⟩ : ∃ p, ys[k].1 = p := ⟨_, rfl⟩
        obtain ⟨q, hq⟩ : ∃ q, ys[k].2 = q := ⟨_, rfl⟩
        have hxy : xs[k] = (x, y) := Prod.ext hx hy
        have hpq : ys[k] = (p, q) := Prod.ext hp hq
        rw [hx] at a1
        rw [hy] at a2
        rw [hp] at b1
        rw [hq] at b2
        have HAT := Lib.hid (cmpS_at HLL.out hk1 HT.out (x, y) (p, q) hxy hpq)
        have HST : Hid ((x, y) = (p, q) → xs.take (k + 1) = ys.take (k + 1)) := fun e => take_eq_step hk1 hk2 HT.out (by rw [hxy, hpq, e])
        clear hx hy hp hq hxy hpq
        by_cases hsame : x = p ∧ y = q
        · obtain ⟨rfl, rfl⟩ := hsame
          go_wp2_with fail
          (refine wp_region_below (by kernel_rfl) (by kernel_rfl) ?_; (repeat (first | go_big_quiet_skip | (refine quietV (v := ?_) (by rfl) rfl (fun w' hbw => ?_) ?_; rotate_left; ((try dsimp only at hbw); have hbc := (bcell hbw).1; have hbf := (bcell hbw).2; go_simp; first | done | with_reducible rfl | fail); simp only [List.setIfInBounds_toArray, List.set_cons_zero, List.set_cons_succ]))); refine wpQuiet_nil ?_; intro wq hbq)
          go_wp2_with fail
          exact ⟨⟨k + 1, by omega, by go_num, HST.out (by simp), bel_trans hb hbq⟩, by simp [intOf]; omega⟩
        · have hne : (x == p && y == q) = false := by
            rw [Bool.and_eq_false_iff, beq_eq_false_iff_ne, beq_eq_false_iff_ne]
            by_cases h1 : x = p
            · exact .inr fun h2 => hsame ⟨h1, h2⟩
            · exact .inl h1
          cases h3 : befC (x, y) (p, q) with
          | true =>
            have HV := Lib.hid (HAT.out.1 h3)
            have H3 := Lib.hid h3
            clear h3 hsame
            go_wp2_with fail
            (refine wp_region_below (by kernel_rfl) (by kernel_rfl) ?_; (repeat (first | go_big_quiet_skip | (refine quietV (v := ?_) (by rfl) rfl (fun w' hbw => ?_) ?_; rotate_left; ((try dsimp only at hbw); have hbc := (bcell hbw).1; have hbf := (bcell hbw).2; go_simp; first | done | with_reducible rfl | fail); simp only [List.setIfInBounds_toArray, List.set_cons_zero, List.set_cons_succ]))); refine wpQuiet_nil ?_; intro wq hbq)
            have c1 := (hbq.cell hg1).trans a1
            have c2 := (hbq.cell hg1).trans a2
            have c3 := (hbq.cell hg2).trans b1
            have c4 := (hbq.cell hg2).trans b2
            have hg3 : g1 < wq.heap.size := Nat.lt_of_lt_of_le hg1 hbq.size
            have hg4 : g2 < wq.heap.size := Nat.lt_of_lt_of_le hg2 hbq.size
            clear a1 a2 b1 b2 hg1 hg2
            go_wp2_with fail
            (refine wp_region_below (by kernel_rfl) (by kernel_rfl) ?_; (repeat (first | go_big_quiet_skip | (refine quietV (v := ?_) (by rfl) rfl (fun w' hbw => ?_) ?_; rotate_left; ((try dsimp only at hbw); have hbc := (bcell hbw).1; have hbf := (bcell hbw).2; go_simp; first | done | with_reducible rfl | exact callsBB (l2Before_s x y p q _) H3.out hbw); simp only [List.setIfInBounds_toArray, List.set_cons_zero, List.set_cons_succ]))); refine wpQuiet_nil ?_; intro wz hbz)
            go_wp2_with fail
            go_ret
            exact ⟨by rw [HV.out]; rfl, bel_trans (bel_trans hb hbq) hbz⟩
          | false =>
            have HV : Hid (cmpS xs ys = 1) := HAT.out.2 (by
              cases h4 : befC (p, q) (x, y) with
              | true => rfl
              | false => exact absurd (befC_sto.tot h3 h4) (fun e => hsame (by injection e with e1 e2; exact ⟨e1, e2⟩)))
            have H3 := Lib.hid h3
            clear h3 hsame
            go_wp2_with fail
            (refine wp_region_below (by kernel_rfl) (by kernel_rfl) ?_; (repeat (first | go_big_quiet_skip | (refine quietV (v := ?_) (by rfl) rfl (fun w' hbw => ?_) ?_; rotate_left; ((try dsimp only at hbw); have hbc := (bcell hbw).1; have hbf := (bcell hbw).2; go_simp; first | done | with_reducible rfl | fail); simp only [List.setIfInBounds_toArray, List.set_cons_zero, List.set_cons_succ]))); refine wpQuiet_nil ?_; intro wq hbq)
            have c1 := (hbq.cell hg1).trans a1
            have c2 := (hbq.cell hg1).trans a2
            have c3 := (hbq.cell hg2).trans b1
            have c4 := (hbq.cell hg2).trans b2
            have hg3 : g1 < wq.heap.size := Nat.lt_of_lt_of_le hg1 hbq.size
            have hg4 : g2 < wq.heap.size := Nat.lt_of_lt_of_le hg2 hbq.size
            clear a1 a2 b1 b2 hg1 hg2
            go_wp2_with fail
            (refine wp_region_below (by kernel_rfl) (by kernel_rfl) ?_; (repeat (first | go_big_quiet_skip | (refine quietV (v := ?_) (by rfl) rfl (fun w' hbw => ?_) ?_; rotate_left; ((try dsimp only at hbw); have hbc := (bcell hbw).1; have hbf := (bcell hbw).2; go_simp; first | done | with_reducible rfl | exact callsBB (l2Before_s x y p q _) H3.out hbw); simp only [List.setIfInBounds_toArray, List.set_cons_zero, List.set_cons_succ]))); refine wpQuiet_nil ?_; intro wz hbz)
            go_wp2_with fail
            go_ret
            exact ⟨by rw [HV.out]; rfl, bel_trans (bel_trans hb hbq) hbz⟩
      · have hkn2 : k = n := by omega
        have HV : Hid (cmpS xs ys = 0) := by
          show cmpS xs ys = 0
          rw [take_eq_all HLL.out (by rw [HL.out]; omega) HT.out]
          exact cmpS_eq _
        subst hkn2
        have hk1 : ¬ (k : Int) < (k : Int) := by omega
        go_wp2
        go_ret
        exact ⟨by rw [HV.out]; rfl, hb⟩
  · have HV : Hid (cmpS xs ys = 1) := cmpS_len2 (by omega)
    have h1 : decide ((n : Int) < (m : Int)) = false := by simp; omega
    have h2 : ((n : Int) != (m : Int)) = true := by rw [bne_iff_ne]; omega
    have h3 : (n : Int) > (m : Int) := by omega
    clear hl hl2
    go_enter Tryz.func125, Tryz.ntmps125
    go_wp2
    go_ret
    exact ⟨by rw [HV.out]; rfl, (by (repeat (first | with_reducible exact Below.refl _ _ | with_reducible assumption | with_reducible apply bel_alloc | with_reducible apply bel_drew | with_reducible apply bel_drewN | ((with_reducible refine bel_set ?_ ?_); rotate_left; (simp <;> omega)) | (with_reducible refine bel_trans ?_ (by with_reducible assumption)))))⟩
set_option maxHeartbeats 800000 in
theorem EqualShapes_i (A B : Option Addr) (n c m d : Nat) (xs ys : List C) (w : World) (hr : Rd w A (vC xs)) (hr2 : Rd w B (vC ys)) (hl : xs.length = n) (hl2 : ys.length = m) (hn : n ≤ 1099511627776) (hm : m ≤ 1099511627776) :
    Calls Tryz.prog 132 #[.slice A n c, .slice B m d] w (Ret w (.bool (decide (xs = ys)))) := by
  by_cases heq : n = m
  · subst heq
    have HLL : Hid (xs.length = ys.length) := hl.trans hl2.symm
    have HL := Lib.hid hl
    have HL2 := Lib.hid hl2
    have h1 : ((n : Int) != (n : Int)) = false := by simp
    clear hl hl2
    go_enter Tryz.func132, Tryz.ntmps132
    go_wp2
    go_loopw [13] (fun e5 wr => ∃ k : Nat, k ≤ n ∧ e5 = .int .i64 k ∧ xs.take k = ys.take k ∧ Below w.heap.size w wr) (fun e5 _ => n - (intOf e5).toNat)
    case atStart => exact ⟨0, Nat.zero_le _, rfl, rfl, Below.refl _ _⟩
    case round =>
      obtain ⟨k, hk, rfl, htk, hb⟩ := hrel
      have HT := Lib.hid htk
      clear htk
      by_cases hkn : k < n
      · have hk1 : k < xs.length := by rw [HL.out]; exact hkn
        have hk2 : k < ys.length := by rw [HL2.out]; exact hkn
        have hk0 : (0 : Int) ≤ (k : Int) := by omega
        have hkI : (k : Int) < (n : Int) := by omega
        obtain ⟨g1, o1, rfl, hg1, a1, a2⟩ := RdC.at_ (hr.below hb) hk1
        obtain ⟨g2, o2, rfl, hg2, b1, b2⟩ := RdC.at_ (hr2.below hb) hk2
        obtain ⟨x, hx⟩ : ∃ x, xs[k].1 = x := ⟨_, rfl⟩
        obtain ⟨y, hy⟩ : ∃ y, xs[k].2 = y := ⟨_, rfl⟩
        obtain ⟨p, hp⟩ : ∃ p, ys[k].1 = p := ⟨_, rfl⟩
        obtain ⟨q, hq⟩ : ∃ q, ys[k].2 = q := ⟨_, rfl⟩
        have hxy : xs[k] = (x, y) := Prod.ext hx hy
        have hpq : ys[k] = (p, q) := Prod.ext hp hq
        rw [hx] at a1
        rw [hy] at a2
        rw [hp] at b1
        rw [hq] at b2
        have HST : Hid ((x, y) = (p, q) → xs.take (k + 1) = ys.take (k + 1)) := fun e => take_eq_step hk1 hk2 HT.out (by rw [hxy, hpq, e])
        have HNE : Hid ((x, y) ≠ (p, q) → xs ≠ ys) := fun e h => e (by subst h; rw [← hxy, ← hpq])
        clear hx hy hp hq hxy hpq
        by_cases hsame : x = p ∧ y = q
        · obtain ⟨rfl, rfl⟩ := hsame
          go_wp2_with fail
          (refine wp_region_below (by kernel_rfl) (by kernel_rfl) ?_; (repeat (first | go_big_quiet_skip | (refine quietV (v := ?_) (by rfl) rfl (fun w' hbw => ?_) ?_; rotate_left; ((try dsimp only at hbw); have hbc := (bcell hbw).1; have hbf := (bcell hbw).2; go_simp; first | done | with_reducible rfl | fail); simp only [List.setIfInBounds_toArray, List.set_cons_zero, List.set_cons_succ]))); refine wpQuiet_nil ?_; intro wq hbq)
          go_wp2_with fail
          exact ⟨⟨k + 1, by omega, by go_num, HST.out (by simp), bel_trans hb hbq⟩, by simp [intOf]; omega⟩
        · have hne : (x == p && y == q) = false := by
            rw [Bool.and_eq_false_iff, beq_eq_false_iff_ne, beq_eq_false_iff_ne]
            by_cases h1 : x = p
            · exact .inr fun h2 => hsame ⟨h1, h2⟩
            · exact .inl h1
          have HV : Hid (decide (xs = ys) = false) := decide_eq_false (HNE.out (fun e => hsame (by injection e with e1 e2; exact ⟨e1, e2⟩)))
          clear hsame
          go_wp2_with fail
          (refine wp_region_below (by kernel_rfl) (by kernel_rfl) ?_; (repeat (first | go_big_quiet_skip | (refine quietV (v := ?_) (by rfl) rfl (fun w' hbw => ?_) ?_; rotate_left; ((try dsimp only at hbw); have hbc := (bcell hbw).1; have hbf := (bcell hbw).2; go_simp; first | done | with_reducible rfl | fail); simp only [List.setIfInBounds_toArray, List.set_cons_zero, List.set_cons_succ]))); refine wpQuiet_nil ?_; intro wq hbq)
          go_wp2_with fail
          go_ret
          exact ⟨by rw [HV.out]; rfl, bel_trans hb hbq⟩
      · have hkn2 : k = n := by omega
        have HV : Hid (decide (xs = ys) = true) := decide_eq_true (take_eq_all HLL.out (by rw [HL.out]; omega) HT.out)
        subst hkn2
        have hk1 : ¬ (k : Int) < (k : Int) := by omega
        go_wp2
        go_ret
        exact ⟨by rw [HV.out]; rfl, hb⟩
  · have HV : Hid (decide (xs = ys) = false) := decide_eq_false (fun e => heq (by rw [← hl, ← hl2, e]))
    have h2 : ((n : Int) != (m : Int)) = true := by rw [bne_iff_ne]; omega
    clear hl hl2
    go_enter Tryz.func132, Tryz.ntmps132
    go_wp2
    go_ret
    exact ⟨by rw [HV.out]; rfl, (by (repeat (first | with_reducible exact Below.refl _ _ | with_reducible assumption | with_reducible apply bel_alloc | with_reducible apply bel_drew | with_reducible apply bel_drewN | ((with_reducible refine bel_set ?_ ?_); rotate_left; (simp <;> omega)) | (with_reducible refine bel_trans ?_ (by with_reducible assumption)))))⟩
set_option maxHeartbeats 800000 in
theorem EqualShapes_s (A B : Option Addr) (n c m d : Nat) (xs ys : List C) (w : World) (hr : Rd w A (vC xs)) (hr2 : Rd w B (vC ys)) (hl : xs.length = n) (hl2 : ys.length = m) (hn : n ≤ 1099511627776) (hm : m ≤ 1099511627776) :
    Calls Tryz.prog 126 #[.slice A n c, .slice B m d] w (Ret w (.bool (decide (xs = ys)))) := by
  by_cases heq : n = m
  · subst heq
    have HLL : Hid (xs.length = ys.length) := hl.trans hl2.symm
    have HL := Lib.hid hl
    have HL2 := Lib.hid hl2
    have h1 : ((n : Int) != (n : Int)) = false := by simp
    clear hl hl2
    go_enter Tryz.func126, Tryz.ntmps126
    go_wp2
    go_loopw [5] (fun e5 wr => ∃ k : Nat, k ≤ n ∧ e5 = .int .i64 k ∧ xs.take k = ys.take k ∧ Below w.heap.size w wr) (fun e5 _ => n - (intOf e5).toNat)
    case atStart => exact ⟨0, Nat.zero_le _, rfl, rfl, Below.refl _ _⟩
    case round =>
      obtain ⟨k, hk, rfl, htk, hb⟩ := hrel
      have HT := Lib.hid htk
      clear htk
      by_cases hkn : k < n
      · have hk1 : k < xs.length := by rw [HL.out]; exact hkn
        have hk2 : k < ys.length := by rw [HL2.out]; exact hkn
        have hk0 : (0 : Int) ≤ (k : Int) := by omega
        have hkI : (k : Int) < (n : Int) := by omega
        obtain ⟨g1, o1, rfl, hg1, a1, a2⟩ := RdC.at_ (hr.below hb) hk1
        obtain ⟨g2, o2, rfl, hg2, b1, b2⟩ := RdC.at_ (hr2.below hb) hk2
        obtain ⟨x, hx⟩ : ∃ x, xs[k].1 = x := ⟨_, rfl⟩
        obtain ⟨y, hy⟩ : ∃ y, xs[k].2 = y := ⟨_, rfl⟩
        obtain ⟨p, hp⟩ : ∃ p, ys[k].1 = p := ⟨_, rfl⟩
        obtain ⟨q, hq⟩ : ∃ q, ys[k].2 = q := ⟨_, rfl⟩
        have hxy : xs[k] = (x, y) := Prod.ext hx hy
        have hpq : ys[k] = (p, q) := Prod.ext hp hq
        rw [hx] at a1
        rw [hy] at a2
        rw [hp] at b1
        rw [hq] at b2
        have HST : Hid ((x, y) = (p, q) → xs.take (k + 1) = ys.take (k + 1)) := fun e => take_eq_step hk1 hk2 HT.out (by rw [hxy, hpq, e])
        have HNE : Hid ((x, y) ≠ (p, q) → xs ≠ ys) := fun e h => e (by subst h; rw [← hxy, ← hpq])
        clear hx hy hp hq hxy hpq
        by_cases hsame : x = p ∧ y = q
        · obtain ⟨rfl, rfl⟩ := hsame
          go_wp2_with fail
          (refine wp_region_below (by kernel_rfl) (by kernel_rfl) ?_; (repeat (first | go_big_quiet_skip | (refine quietV (v := ?_) (by rfl) rfl (fun w' hbw => ?_) ?_; rotate_left; ((try dsimp only at hbw); have hbc := (bcell hbw).1; have hbf := (bcell hbw).2; go_simp; first | done | with_reducible rfl | fail); simp only [List.setIfInBounds_toArray, List.set_cons_zero, List.set_cons_succ]))); refine wpQuiet_nil ?_; intro wq hbq)
          go_wp2_with fail
          exact ⟨⟨k + 1, by omega, by go_num, HST.out (by simp), bel_trans hb hbq⟩, by simp [intOf]; omega⟩
        · have hne : (x == p && y == q) = false := by
            rw [Bool.and_eq_false_iff, beq_eq_false_iff_ne, beq_eq_false_iff_ne]
            by_cases h1 : x = p
            · exact .inr fun h2 => hsame ⟨h1, h2⟩
            · exact .inl h1
          have HV : Hid (decide (xs = ys) = false) := decide_eq_false (HNE.out (fun e => hsame (by injection e with e1 e2; exact ⟨e1, e2⟩)))
          clear hsame
          go_wp2_with fail
          (refine wp_region_below (by kernel_rfl) (by kernel_rfl) ?_; (repeat (first | go_big_quiet_skip | (refine quietV (v := ?_) (by rfl) rfl (fun w' hbw => ?_) ?_; rotate_left; ((try dsimp only at hbw); have hbc := (bcell hbw).1; have hbf := (bcell hbw).2; go_simp; first | done | with_reducible rfl | fail); simp only [List.setIfInBounds_toArray, List.set_cons_zero, List.set_cons_succ]))); refine wpQuiet_nil ?_; intro wq hbq)
          go_wp2_with fail
          go_ret
          exact ⟨by rw [HV.out]; rfl, bel_trans hb hbq⟩
      · have hkn2 : k = n := by omega
        have HV : Hid (decide (xs = ys) = true) := decide_eq_true (take_eq_all HLL.out (by rw [HL.out]; omega) HT.out)
        subst hkn2
        have hk1 : ¬ (k : Int) < (k : Int) := by omega
        go_wp2
        go_ret
        exact ⟨by rw [HV.out]; rfl, hb⟩
  · have HV : Hid (decide (xs = ys) = false) := decide_eq_false (fun e => heq (by rw [← hl, ← hl2, e]))
    have h2 : ((n : Int) != (m : Int)) = true := by rw [bne_iff_ne]; omega
    clear hl hl2
    go_enter Tryz.func126, Tryz.ntmps126
    go_wp2
    go_ret
    exact ⟨by rw [HV.out]; rfl, (by (repeat (first | with_reducible exact Below.refl _ _ | with_reducible assumption | with_reducible apply bel_alloc | with_reducible apply bel_drew | with_reducible apply bel_drewN | ((with_reducible refine bel_set ?_ ?_); rotate_left; (simp <;> omega)) | (with_reducible refine bel_trans ?_ (by with_reducible assumption)))))⟩
end Go.Proofs.YtcgjnonlndaoeaaGreatDoor

/- The place of a shape in an ordered list: the library's search with the program's own test. -/
namespace Go.Proofs.YtcgjnonlndaoeaaGreatDoor
open Go.RowKit
set_option linter.unusedVariables false
attribute [local go_sem ↓] Go.wp_at_zero Go.wp_at_succ

theorem world_lt {w : World} {a : Addr} {v : Value} (h : w.cell? a = some v) : a.block < w.heap.size := World.block_lt_of_cell? w a h
set_option maxHeartbeats 800000 in
/-- The test: is the shape at place i not less than the one that is sought? -/
theorem putTest (b2 b3 : Nat) (A : Option Addr) (n c : Nat) (hs : List H) (F : List (List C)) (B : Option Addr) (m d : Nat) (f : List C) (i : Nat) (w : World) (hr : RdF w A n hs F) (hf : CRow w (B, m, d) f)
    (c2 : w.cell? ⟨b2, 0, none⟩ = some (.slice A n c)) (c3 : w.cell? ⟨b3, 0, none⟩ = some (.slice B m d)) (hi : i < n) (hl : ∀ x ∈ F, x.length ≤ 1048576) (hm : m ≤ 1048576) (b : Bool) (hv : b = !ltS (F.getD i default) f) :
    Calls Tryz.prog 130 #[.int .i64 (i : Int), .pointer (some ⟨b2, 0, none⟩), .pointer (some ⟨b3, 0, none⟩)] w (Ret w (.bool b)) := by
  obtain ⟨x, t, g, off, hsx, hfx, rfl, hg, c1, hrow⟩ := hr.at_ hi
  have ht : F.getD i default = t := by rw [List.getD_eq_getElem?_getD, hfx]; rfl
  have htl := hl t (List.mem_of_getElem? hfx)
  obtain ⟨C1, m1, k1⟩ := x
  have h1 : t.length = m1 := hrow.1
  have H1 := Lib.hid h1
  have HR := Lib.hid hrow
  have HF := Lib.hid hf
  have HB := Lib.hid (world_lt c2)
  have HB3 := Lib.hid (world_lt c3)
  have hb2 := HB.out
  have hb3 := HB3.out
  have hm1 : m1 ≤ 1048576 := by omega
  have hi0 : (0 : Int) ≤ (i : Int) := by omega
  have hi1 : (i : Int) < (n : Int) := by omega
  dsimp only at c1
  obtain ⟨v, hve⟩ : ∃ v, cmpS t f = v := ⟨_, rfl⟩
  have hb : b = decide (v ≥ 0) := by rw [hv, ht, ← hve, cmpS_neg]
  have HV := Lib.hid hve
  subst hb
  clear hv hve ht htl hsx hfx hrow hf h1 hr hl
  go_enter Tryz.func130, Tryz.ntmps130
  go_wp2_with fail
  (refine wp_region_below (by kernel_rfl) (by kernel_rfl) ?_; (repeat (first | go_big_quiet_skip | (refine quietV (v := ?_) (by rfl) rfl (fun w' hbw => ?_) ?_; rotate_left; ((try dsimp only at hbw); have hbc := (bcell hbw).1; have hbf := (bcell hbw).2; go_simp; first | done | with_reducible rfl | exact callsB (v := .int .i64 v) (by rw [← HV.out]; exact CompareShapes_i C1 B m1 k1 m d t f _ (HR.out.2.1.below hbw) (HF.out.2.1.below hbw) H1.out HF.out.1 (by omega) (by omega)) hbw); simp only [List.setIfInBounds_toArray, List.set_cons_zero, List.set_cons_succ]))); refine wpQuiet_nil ?_; intro wq hbq)
  go_wp2_with fail
  go_ret
  exact ⟨rfl, hbq⟩
set_option maxHeartbeats 1600000 in
theorem putSearch (b2 b3 : Nat) (A : Option Addr) (n c : Nat) (hs : List H) (F : List (List C)) (B : Option Addr) (m d : Nat) (f : List C) (w : World) (hr : RdF w A n hs F) (hf : CRow w (B, m, d) f)
    (c2 : w.cell? ⟨b2, 0, none⟩ = some (.slice A n c)) (c3 : w.cell? ⟨b3, 0, none⟩ = some (.slice B m d)) (hl : ∀ x ∈ F, x.length ≤ 1048576) (hm : m ≤ 1048576) (hn : n ≤ 1099511627776) (hi : IncG ltS F) :
    Calls Tryz.prog 129 #[.int .i64 (n : Int), .func (.func 130) #[] #[.pointer (some ⟨b2, 0, none⟩), .pointer (some ⟨b3, 0, none⟩)]] w (Ret w (.int .i64 (F.countP (fun x => ltS x f) : Nat))) := by
  have HL := Lib.hid hl
  have HI := Lib.hid hi
  have HR := Lib.hid hr
  have HF := Lib.hid hf
  have HN := Lib.hid hr.flen
  have HC2 := Lib.hid c2
  have HC3 := Lib.hid c3
  clear hl hi hr hf c2 c3
  go_enter Tryz.func129, Tryz.ntmps129
  go_wp2
  go_loopw [5, 6] (fun e5 e6 wr => ∃ (lo hi : Nat), e5 = .int .i64 lo ∧ e6 = .int .i64 hi ∧ lo ≤ hi ∧ hi ≤ n ∧ (∀ t, t < lo → ltS (F.getD t default) f = true) ∧ (∀ t, hi ≤ t → t < n → ltS (F.getD t default) f = false) ∧ Below w.heap.size w wr) (fun e5 e6 _ => (intOf e6).toNat - (intOf e5).toNat)
  case atStart => exact ⟨0, n, rfl, rfl, Nat.zero_le _, Nat.le_refl _, fun t h => absurd h (by omega), fun t h1 h2 => by omega, Below.refl _ _⟩
  case round =>
    obtain ⟨lo, hi, rfl, rfl, hlh, hin, hlow, hhigh, hb⟩ := hrel
    have HLO := Lib.hid hlow
    have HHI := Lib.hid hhigh
    clear hlow hhigh
    by_cases hlt : lo < hi
    · have hltI : (lo : Int) < (hi : Int) := by omega
      obtain ⟨k, hk⟩ : ∃ k, (lo + hi) / 2 = k := ⟨_, rfl⟩
      have hkI : ((lo : Int) + (hi : Int)) / 2 = (k : Int) := by rw [← hk]; simp
      have hk1 : lo ≤ k := by omega
      have hk2 : k < hi := by omega
      have HK := Lib.hid hk
      clear hk
      cases ht : ltS (F.getD k default) f with
      | true =>
        have HT := Lib.hid ht
        clear ht
        go_wp2_with fail
        refine (putTest b2 b3 A n c hs F B m d f k _ (HR.out.below hb) (HF.out.below hb) ((hb.cell (world_lt HC2.out)).trans HC2.out) ((hb.cell (world_lt HC3.out)).trans HC3.out) (by omega) HL.out hm false (by rw [HT.out]; rfl)).mono ?_
        rintro e w1 ⟨rfl, hb1⟩
        go_wp2_with fail
        refine ⟨⟨k + 1, hi, by go_num, rfl, by omega, hin, fun t h => ?_, HHI.out, bel_trans hb hb1⟩, by simp [intOf]; omega⟩
        cases he : ltS (F.getD t default) f with
        | true => rfl
        | false =>
          exfalso
          rcases Nat.lt_or_ge t k with h1 | h1
          · have := incG_get ltS_sto HI.out h1 (by rw [HN.out]; omega)
            rw [ltS_sto.trans this HT.out] at he
            cases he
          · obtain rfl : t = k := by omega
            rw [HT.out] at he
            cases he
      | false =>
        have HT := Lib.hid ht
        clear ht
        go_wp2_with fail
        refine (putTest b2 b3 A n c hs F B m d f k _ (HR.out.below hb) (HF.out.below hb) ((hb.cell (world_lt HC2.out)).trans HC2.out) ((hb.cell (world_lt HC3.out)).trans HC3.out) (by omega) HL.out hm true (by rw [HT.out]; rfl)).mono ?_
        rintro e w1 ⟨rfl, hb1⟩
        go_wp2_with fail
        refine ⟨⟨lo, k, rfl, rfl, hk1, by omega, HLO.out, fun t h1 h2 => ?_, bel_trans hb hb1⟩, by simp [intOf]; omega⟩
        cases he : ltS (F.getD t default) f with
        | false => rfl
        | true =>
          exfalso
          rcases Nat.lt_or_ge k t with h3 | h3
          · have := incG_get ltS_sto HI.out h3 (by rw [HN.out]; omega)
            have h4 := ltS_sto.trans this he
            rw [HT.out] at h4
            cases h4
          · obtain rfl : t = k := by omega
            rw [HT.out] at he
            cases he
    · obtain rfl : lo = hi := by omega
      have hltI : ¬ (lo : Int) < (lo : Int) := by omega
      have HV : Hid (F.countP (fun x => ltS x f) = lo) := countP_cut (by rw [HN.out]; exact hin)
        (fun t x h1 h2 => by have := HLO.out t h1; rwa [List.getD_eq_getElem?_getD, h2] at this)
        (fun t x h1 h2 => by have := HHI.out t h1 (by have := (List.getElem?_eq_some_iff.1 h2).1; rw [HN.out] at this; exact this); rwa [List.getD_eq_getElem?_getD, h2] at this)
      go_wp2
      go_ret
      exact ⟨by rw [HV.out]; rfl, hb⟩
end Go.Proofs.YtcgjnonlndaoeaaGreatDoor

/- A shape put into an ordered list, once: the program. -/
namespace Go.Proofs.YtcgjnonlndaoeaaGreatDoor
open Go.RowKit
set_option linter.unusedVariables false
attribute [local go_sem ↓] Go.wp_at_zero Go.wp_at_succ

theorem infoF : (Tryz.prog.info? 59).map (fun i => (i.zero, i.size, i.bytes)) = some (some (.slice none 0 0), 1, 24) := by kernel_rfl
section
variable (w : World) {ops : Array Oper} {rest : List Oper} {o : Oper} {a : Act} {Q : Exit → Act → World → Prop}
theorem app_F (hgd : o.guard = none) (s x : Operand) (ho : o.op = .call { callee := .builtin .append, args := #[s, x], argTypes := #[31, 31] })
    (base : Nat) (A : Option Addr) (n c : Nat) (l : List H) (hs : a.eval s = .slice A n c) (hown : w.ownsRow base 59 1 (.slice A n c) n (vS l))
    (A2 : Option Addr) (m c2 : Nat) (l2 : List H) (hx : a.eval x = .slice A2 m c2) (hr : Rd w A2 (vS l2)) (hl : l2.length = m) (hb : n + m ≤ 1099511627776) (hbase : base ≤ w.heap.size)
    (h : ∀ A' c' w', w'.ownsRow base 59 1 (.slice A' (n + m) c') (n + m) (vS (l ++ l2)) → w.grownBy w' (ob A) → (ob A' = ob A ∨ ob A' = some w.heap.size) → wpList Tryz.prog ops Q rest (a.put o.dst (.slice A' (n + m) c')) w') :
    wpList Tryz.prog ops Q (o :: rest) a w := by
  obtain ⟨i0, hi, hz0, hz1, hz2⟩ := info_parts infoF
  refine wpList_app w hgd s x _ ho base _ i0 _ 1 24 Tryz.underlying31 hi hz0 hz1 hz2 rfl (by omega) A n c _ hs hown A2 m c2 _ hx hr (by rw [vS_length, hl]; omega) (vS_one _) (by unfold maxLen; omega) (by omega) hbase ?_
  intro A' c' w' h1
  rw [← vS_append] at h1
  exact h A' c' w' h1
end
def offF (c k : Nat) : Nat := if c = k then 0 else k
theorem run_fromF (w : World) (g m c k : Nat) (hk : k ≤ m) : (Instr.slice 31 (.slice (some ⟨g, 0, none⟩) m c) (some (.int .i64 (k : Int))) none none).run Tryz.prog w = .ok (.slice (some ⟨g, offF c k, none⟩) (m - k) (c - k)) w := by
  have h1 : (0 : Int) ≤ (k : Int) := by omega
  have h2 : (k : Int) ≤ (m : Int) := by omega
  unfold offF
  by_cases hc : c = k
  · subst hc
    simp [go_sem, h2]
  · simp [go_sem, h2, hc]
/-- What lies behind place k moves on by one. -/
theorem run_shift (w : World) (base g n c k : Nat) (L : List H) (ho : w.ownsRow base 59 1 (.slice (some ⟨g, 0, none⟩) (n + 1) c) (n + 1) (vS L)) (hk : k ≤ n) (ty : TypeId) :
    ∃ w', (Builtin.copy_ #[31, 31] ty #[.slice (some ⟨g, offF c (k + 1), none⟩) (n + 1 - (k + 1)) (c - (k + 1)), .slice (some ⟨g, offF c k, none⟩) (n + 1 - k) (c - k)]).run Tryz.prog w = .ok (goInt ((n - k : Nat))) w' ∧
      w'.ownsRow base 59 1 (.slice (some ⟨g, 0, none⟩) (n + 1) c) (n + 1) (vS (L.take (k + 1) ++ (L.drop k).take (n - k))) ∧ w.grownBy w' (some g) := by
  have hlen : L.length = n + 1 := by have := own_len ho; rw [vS_length] at this; omega
  have hsz : (Tryz.prog.info? 59).map (·.size) = some 1 := by kernel_rfl
  by_cases hkn : k = n
  · subst hkn
    refine ⟨w, ?_, ?_, World.grownBy.refl _ _⟩
    · have := run_copy_none (P := Tryz.prog) w 31 31 ty 59 (some ⟨g, offF c (k + 1), none⟩) (some ⟨g, offF c k, none⟩) (k + 1 - (k + 1)) (c - (k + 1)) (k + 1 - k) (c - k) Tryz.underlying31 hsz (by simp)
      rw [this]
      simp
    · rw [Nat.sub_self, List.take_zero, List.append_nil, List.take_of_length_le (by omega)]
      exact ho
  · rcases ho.2 with ⟨hv, h0⟩ | ⟨g', cap, cur, hv, hbg, hg, hnc, hcm, hcs, ht⟩
    · omega
    · injection hv with hA hn hc
      injection hA with hA
      injection hA with hA1
      subst hA1 hc
      have hoff1 : offF c (k + 1) = k + 1 := by unfold offF; rw [if_neg (by omega)]
      have hoff2 : offF c k = k := by unfold offF; rw [if_neg (by omega)]
      have hcsl : (vS ((L.drop k).take (n - k))).length = n - k := by rw [vS_length, List.length_take, List.length_drop]; omega
      have hsrc : ∀ j v, (vS ((L.drop k).take (n - k)))[j]? = some v → w.cell? ((⟨g, k, none⟩ : Addr).add j) = some v := by
        intro j v hj
        have hjl : j < n - k := by rw [← hcsl]; exact (List.getElem?_eq_some_iff.1 hj).1
        have e : (⟨g, k, none⟩ : Addr).add j = ⟨g, k + j, none⟩ := by unfold Addr.add; split <;> simp_all
        rw [e]
        have hc := ho.cellAt (k + j) (by omega)
        rw [hc, ← hj]
        simp only [vS, List.getElem?_map, List.getElem?_take, List.getElem?_drop, if_pos hjl]
      have hr := run_copy_row (P := Tryz.prog) w 31 31 ty 59 g (k + 1) (n + 1 - (k + 1)) (c - (k + 1)) ⟨g, k, none⟩ (n + 1 - k) (c - k) cur 59 (vS ((L.drop k).take (n - k))) Tryz.underlying31 hsz hg
        (by rw [hcsl]; show n - k = min _ _; omega) hsrc (by rw [hcsl]; omega) (vS_one _)
      rw [hoff1, hoff2, hr, hcsl]
      refine ⟨_, rfl, ⟨?_, .inr ⟨g, c, _, rfl, hbg, setRow_heap w g cur _ _ _ hg, hnc, hcm, ?_, ?_⟩⟩, ⟨rfl, rfl, rfl, by simp [World.setRow], fun q hq hne => setRow_other w g q _ (fun e => hne (by rw [e]))⟩⟩
      · rw [vS_length, List.length_append, List.length_take, List.length_take, List.length_drop]; omega
      · simp only [List.size_toArray, List.length_append, List.length_take, List.length_drop, Array.length_toList]
        rw [hcsl]
        omega
      · have hcurl : cur.toList.length = c * 1 := by rw [Array.length_toList, hcs]
        have hk1 : cur.toList.take (k + 1) = vS (L.take (k + 1)) := by
          have h2 := congrArg (List.take (k + 1)) ht
          rw [List.take_take, Nat.min_eq_left (by omega)] at h2
          rw [h2]
          simp [vS]
        simp only [List.append_assoc]
        rw [hk1, vS_append]
        have hl1 : (vS (L.take (k + 1))).length = k + 1 := by rw [vS_length, List.length_take]; omega
        rw [← List.append_assoc, List.take_append_of_le_length (by rw [List.length_append, hl1, hcsl]; omega)]
        rw [List.take_of_length_le (by rw [List.length_append, hl1, hcsl]; omega)]
theorem wp_copyF {o : Oper} {a : Act} {w w' : World} {K : Act → World → Prop} {Q : Exit → Act → World → Prop} (d s : Operand) (dT sT : TypeId) (ho : o.op = .call { callee := .builtin .copy, args := #[d, s], argTypes := #[dT, sT] })
    {v1 v2 v : Value} (hd : a.eval d = v1) (hs : a.eval s = v2) (hrun : (Builtin.copy_ #[dT, sT] o.type #[v1, v2]).run Tryz.prog w = .ok v w') (hk : K (a.put o.dst v) w') : o.wp Tryz.prog a w K Q := by
  unfold Oper.wp
  simp [execOp, ho, resolve, invoke, builtin, hd, hs, hrun, Result.andThen]
  exact hk
theorem grown_comp2 {a w w' : World} {r r' : Option Nat} (h : a.grownBy w r) (h' : w.grownBy w' r') (hr : ∀ g, r' = some g → r = some g ∨ a.heap.size ≤ g) : a.grownBy w' r :=
  ⟨h'.os.trans h.os, h'.tape.trans h.tape, h'.output.trans h.output, Nat.le_trans h.size h'.size, fun k hk hne => (h'.block k (Nat.lt_of_lt_of_le hk h.size) (fun e => by
    rcases hr k e.symm with h1 | h1
    · exact hne h1.symm
    · omega)).trans (h.block k hk hne)⟩
theorem grown_of_below {w w' : World} (h : Below w.heap.size w w') (r : Option Nat) : w.grownBy w' r := ⟨h.os, h.tape, h.output, h.size, fun k hk _ => h.block k hk⟩
theorem grown_setC {a w : World} {r : Option Nat} (h : a.grownBy w r) {p : Addr} (hp : r = some p.block ∨ a.heap.size ≤ p.block) (u : Value) : a.grownBy (w.setCell p u) r :=
  ⟨h.os, h.tape, h.output, by simpa [World.setCell] using h.size, fun k hk hne => by
    rw [Below.heap_setCell w p u k (by
      rintro rfl
      rcases hp with h1 | h1
      · exact hne h1.symm
      · omega)]
    exact h.block k hk hne⟩
theorem ins_set {α : Type} (hs : List α) (z x : α) (n k : Nat) (hn : hs.length = n) (hk : k ≤ n) : (((hs ++ [z]).take (k + 1)) ++ ((hs ++ [z]).drop k).take (n - k)).set k x = hs.take k ++ [x] ++ hs.drop k := by
  have h1 : ((hs ++ [z]).drop k).take (n - k) = hs.drop k := by
    rw [List.drop_append_of_le_length (by omega), List.take_append_of_le_length (by rw [List.length_drop]; omega), List.take_of_length_le (by rw [List.length_drop]; omega)]
  have hkl : k < (hs ++ [z]).length := by simp; omega
  rw [h1, List.take_succ_eq_append_getElem hkl]
  have h2 : (hs ++ [z]).take k = hs.take k := List.take_append_of_le_length (by omega)
  rw [h2, List.append_assoc, List.set_append_right _ _ (by rw [List.length_take]; omega), List.length_take, Nat.min_eq_left (by omega), Nat.sub_self]
  simp
theorem ins_rows {α β : Type} {hs : List α} {F : List β} {k : Nat} (hl : hs.length = F.length) (hk : k ≤ F.length) {x0 : α} {f : β} (i : Nat) (x : α) (y : β) (h1 : (hs.take k ++ [x0] ++ hs.drop k)[i]? = some x) (h2 : (F.take k ++ [f] ++ F.drop k)[i]? = some y) :
    (∃ j : Nat, hs[j]? = some x ∧ F[j]? = some y) ∨ (x = x0 ∧ y = f) := by
  have e1 : (hs.take k).length = k := by rw [List.length_take]; omega
  have e2 : (F.take k).length = k := by rw [List.length_take]; omega
  rw [List.append_assoc] at h1 h2
  rcases Nat.lt_trichotomy i k with h | h | h
  · rw [List.getElem?_append_left (by omega), List.getElem?_take_of_lt h] at h1 h2
    exact .inl ⟨i, h1, h2⟩
  · subst h
    rw [List.getElem?_append_right (by omega), e1, Nat.sub_self] at h1
    rw [List.getElem?_append_right (by omega), e2, Nat.sub_self] at h2
    simp at h1 h2
    exact .inr ⟨h1.symm, h2.symm⟩
  · obtain ⟨j, rfl⟩ : ∃ j, i = k + 1 + j := ⟨i - (k + 1), by omega⟩
    rw [List.getElem?_append_right (by omega), e1, show k + 1 + j - k = j + 1 from by omega] at h1
    rw [List.getElem?_append_right (by omega), e2, show k + 1 + j - k = j + 1 from by omega] at h2
    simp only [List.singleton_append, List.getElem?_cons_succ, List.getElem?_drop] at h1 h2
    exact .inl ⟨_, h1, h2⟩
/-- The list with the shape put in. -/
def PutP (base : Nat) (w : World) (A : Option Addr) (F : List (List C)) (e : Ending) (w' : World) : Prop :=
  ∃ A' n' c' hs', e = .returned (.slice A' n' c') ∧ OwnF base w' A' n' c' hs' F ∧ w.grownBy w' (ob A) ∧ ∀ g, ob A' = some g → ob A = some g ∨ w.heap.size ≤ g
theorem putB_same {F : List (List C)} {f : List C} {k : Nat} (hk : F.countP (fun x => ltS x f) = k) (h1 : k < F.length) (h2 : F.getD k default = f) : putB ltS F f = F := by unfold putB; rw [hk, if_pos ⟨h1, h2⟩]
theorem putB_new {F : List (List C)} {f : List C} {k : Nat} (hk : F.countP (fun x => ltS x f) = k) (h1 : ¬ (k < F.length ∧ F.getD k default = f)) : putB ltS F f = F.take k ++ [f] ++ F.drop k := by unfold putB; rw [hk, if_neg h1]
set_option maxHeartbeats 3200000 in
theorem putShape_i (A : Option Addr) (n c : Nat) (hs : List H) (F : List (List C)) (B : Option Addr) (m d : Nat) (f : List C) (base : Nat) (w : World) (ho : OwnF base w A n c hs F) (hf : CRow w (B, m, d) f) (hi : IncG ltS F)
    (hl : ∀ x ∈ F, x.length ≤ 1048576) (hm : m ≤ 1048576) (hn : n ≤ 1073741824) (hbs : base ≤ w.heap.size) :
    Calls Tryz.prog 110 #[.slice A n c, .slice B m d] w (PutP base w A (putB ltS F f)) := by
  obtain ⟨k, hk⟩ : ∃ k, F.countP (fun x => ltS x f) = k := ⟨_, rfl⟩
  have hkn : k ≤ n := by rw [← hk, ← ho.flen]; exact List.countP_le_length
  have hAlt := own_lt ho.own
  have hB2 := (Blk.new w 31 #[.slice A n c]).alloc (.cells #[.slice B m d] 59)
  have hB3 : Blk ((w.alloc (.cells #[.slice A n c] 31)).alloc (.cells #[.slice B m d] 59)) (w.heap.size + 1) 59 #[.slice B m d] := by simpa using Blk.new (w.alloc (.cells #[.slice A n c] 31)) 59 #[.slice B m d]
  have hb0 : Below w.heap.size w ((w.alloc (.cells #[.slice A n c] 31)).alloc (.cells #[.slice B m d] 59)) := (by (repeat (first | with_reducible exact Below.refl _ _ | with_reducible assumption | with_reducible apply bel_alloc | with_reducible apply bel_drew | with_reducible apply bel_drewN | ((with_reducible refine bel_set ?_ ?_); rotate_left; (simp <;> omega)) | (with_reducible refine bel_trans ?_ (by with_reducible assumption)))))
  obtain ⟨W0, hW0⟩ : ∃ W0, (w.alloc (.cells #[.slice A n c] 31)).alloc (.cells #[.slice B m d] 59) = W0 := ⟨_, rfl⟩
  rw [hW0] at hB2 hB3 hb0
  have HS := putSearch w.heap.size (w.heap.size + 1) A n c hs F B m d f W0 (ho.rd.below hb0) (hf.below hb0) (by simpa using hB2.cell 0) (by simpa using hB3.cell 0) hl hm (by omega) hi
  rw [hk] at HS
  have HSE := Lib.hid HS
  have HO := Lib.hid ho
  have HF := Lib.hid hf
  have HK := Lib.hid hk
  have HL := Lib.hid hl
  have HB2 := Lib.hid hB2
  have HB3 := Lib.hid hB3
  have HW := Lib.hid hW0
  have HFL := Lib.hid ho.flen
  have HA := Lib.hid hAlt
  have hz0 := hb0.size
  clear HS ho hf hk hl hB2 hB3 hW0 hAlt hi
  go_enter Tryz.func110, Tryz.ntmps110
  go_wp2_with fail
  rw [HW.out]
  refine HSE.out.mono ?_
  rintro e w1 ⟨rfl, hb1⟩
  have hb01 := bel_trans hb0 hb1
  have HX2 := Lib.hid (HB2.out.below hb1)
  have HX3 := Lib.hid (HB3.out.below hb1)
  have c2 : w1.cell? ⟨w.heap.size, 0, none⟩ = some (.slice A n c) := by simpa using HX2.out.cell 0
  have c3 : w1.cell? ⟨w.heap.size + 1, 0, none⟩ = some (.slice B m d) := by simpa using HX3.out.cell 0
  have l2 := HX2.out.lt
  have l3 := HX3.out.lt
  have HO1 := Lib.hid (HO.out.below hb01)
  have HF1 := Lib.hid (HF.out.below hb01)
  by_cases hkk : k < n
  · obtain ⟨x, t, g, off, hsx, hfx, hAg, hg, d1, hrow⟩ := HO1.out.rd.at_ hkk
    have ht : F.getD k default = t := by rw [List.getD_eq_getElem?_getD, hfx]; rfl
    have htl := HL.out t (List.mem_of_getElem? hfx)
    obtain ⟨C1, m1, k1⟩ := x
    have h1 : t.length = m1 := hrow.1
    have H1 := Lib.hid h1
    have HR := Lib.hid hrow
    have hm1 : m1 ≤ 1048576 := by omega
    have hk0 : (0 : Int) ≤ (k : Int) := by omega
    have hkI : (k : Int) < (n : Int) := by omega
    dsimp only at d1
    by_cases htf : t = f
    · have HV := Lib.hid (putB_same HK.out (by rw [HFL.out]; exact hkk) (ht.trans htf))
      have HD : Hid (decide (t = f) = true) := decide_eq_true htf
      subst hAg
      clear ht htf hsx hfx hrow h1 htl
      go_wp2_with fail
      (refine wp_region_below (by kernel_rfl) (by kernel_rfl) ?_; (repeat (first | go_big_quiet_skip | (refine quietV (v := ?_) (by rfl) rfl (fun w' hbw => ?_) ?_; rotate_left; ((try dsimp only at hbw); have hbc := (bcell hbw).1; have hbf := (bcell hbw).2; go_simp; first | done | with_reducible rfl | exact callsBB (EqualShapes_i C1 B m1 k1 m d t f _ (HR.out.2.1.below hbw) (HF1.out.2.1.below hbw) H1.out HF1.out.1 (by omega) (by omega)) HD.out hbw); simp only [List.setIfInBounds_toArray, List.set_cons_zero, List.set_cons_succ]))); refine wpQuiet_nil ?_; intro wq hbq)
      have c2q : wq.cell? ⟨w.heap.size, 0, none⟩ = some (.slice (some ⟨g, off, none⟩) n c) := by simpa using (HX2.out.below hbq).cell 0
      have l2q := (HX2.out.below hbq).lt
      clear c2 c3 l2 l3
      go_wp2_with fail
      go_ret
      exact ⟨_, n, c, hs, rfl, by rw [HV.out]; exact HO1.out.below hbq, grown_of_below (bel_trans hb01 hbq) _, fun g e => .inl e⟩
    · have HV := Lib.hid (putB_new HK.out (fun h => htf (ht.symm.trans h.2)))
      have HD : Hid (decide (t = f) = false) := decide_eq_false htf
      have HAG := Lib.hid hAg
      rw [hAg] at c2
      have hkd : decide (k < n) = true := by simp [hkk]
      clear ht htf hsx hfx hrow h1 htl hAg
      go_wp2_with fail
      (refine wp_region_below (by kernel_rfl) (by kernel_rfl) ?_; (repeat (first | go_big_quiet_skip | (refine quietV (v := ?_) (by rfl) rfl (fun w' hbw => ?_) ?_; rotate_left; ((try dsimp only at hbw); have hbc := (bcell hbw).1; have hbf := (bcell hbw).2; go_simp; first | done | with_reducible rfl | exact callsBB (EqualShapes_i C1 B m1 k1 m d t f _ (HR.out.2.1.below hbw) (HF1.out.2.1.below hbw) H1.out HF1.out.1 (by omega) (by omega)) HD.out hbw); simp only [List.setIfInBounds_toArray, List.set_cons_zero, List.set_cons_succ]))); refine wpQuiet_nil ?_; intro wq hbq)
      clear d1 hkd
      rw [← HAG.out] at c2 ⊢
      have hb0q := bel_trans hb01 hbq
      have hz1 := hb0q.size
      have HX2q := Lib.hid (HX2.out.below hbq)
      have HX3q := Lib.hid (HX3.out.below hbq)
      have HOq := Lib.hid (HO1.out.below hbq)
      have c2q : wq.cell? ⟨w.heap.size, 0, none⟩ = some (.slice A n c) := by simpa using HX2q.out.cell 0
      have z2q := HX2q.out.frozen 0
      have l2q := HX2q.out.lt
      clear c2 c3 l2 l3
      go_wp2_with (at_builtin; go_must (refine app_F _ rfl _ _ rfl base _ _ _ hs rfl (HOq.out.own.alloc _) _ _ _ [(none, 0, 0)] rfl (rd_newS _ _ _) rfl (by omega) (by simp; omega) ?_); intro A3 c5 w3 ho3 hg3 hat3; have HO3 := Lib.hid ho3; have HG3 := Lib.hid hg3; have HAT := Lib.hid hat3; have hX3 := (HX2q.out.alloc (.cells #[.slice none 0 0] 59)).grown hg3 (fun e => by have := (HA.out _ e.symm).2; omega); have e2 : w3.cell? ⟨w.heap.size, 0, none⟩ = some (.slice A n c) := (by simpa using hX3.cell 0); have f2 := hX3.frozen 0; have l4 := hX3.lt; have HX4 := Lib.hid (hX3.set_ 0 (.slice A3 (n + 1) c5)); have HY4 := Lib.hid (((HX3q.out.alloc (.cells #[.slice none 0 0] 59)).grown hg3 (fun e => by have := (HA.out _ e.symm).2; omega)).far (p := ⟨w.heap.size, 0, none⟩) (by simp) (.slice A3 (n + 1) c5)); clear hX3 ho3 hg3 hat3)
      obtain ⟨g3, hA3, hbg3, hg3l⟩ := own_at HO3.out (by omega)
      subst hA3
      have hg3n : g3 ≠ w.heap.size ∧ g3 ≠ w.heap.size + 1 := by
        rcases HAT.out with h | h
        · have := (HA.out g3 h.symm).2; omega
        · simp only [ob, Option.map_some, Option.some.injEq, World.size_alloc] at h; omega
      obtain ⟨hg3n, hg3m⟩ := hg3n
      have HO4 := Lib.hid (own_set HO3.out (p := ⟨w.heap.size, 0, none⟩) (fun g e => by simp only [ob, Option.map_some, Option.some.injEq] at e; subst e; exact hg3n) (.slice (some ⟨g3, 0, none⟩) (n + 1) c5))
      have HG4 : Hid (w.grownBy (w3.setCell ⟨w.heap.size, 0, none⟩ (.slice (some ⟨g3, 0, none⟩) (n + 1) c5)) (ob A)) :=
        grown_setC (grown_comp2 (grown_of_below (bel_alloc hb0q _) (ob A)) HG3.out (fun g h => .inl h)) (.inr (Nat.le_refl _)) _
      have HR4 : Hid (∀ x t, CRow wq x t → CRow (w3.setCell ⟨w.heap.size, 0, none⟩ (.slice (some ⟨g3, 0, none⟩) (n + 1) c5)) x t) := fun x t h =>
        ((h.below (bel_alloc (Below.refl _ _) _)).grown HG3.out (fun g e r => (h.apart HOq.out.own) g e r)).grown (grown_set (World.grownBy.refl _ (some w.heap.size)) rfl _) (fun g e r => by
          injection r with r
          obtain ⟨cur, z, h1⟩ := h.2.2 g e
          have h2 := HX2q.out
          unfold Blk at h2
          rw [r, h1] at h2
          injection h2 with h2
          injection h2 with _ h3
          exact absurd h3 (by decide))
      obtain ⟨w4, hw4⟩ : ∃ w4, w3.setCell ⟨w.heap.size, 0, none⟩ (.slice (some ⟨g3, 0, none⟩) (n + 1) c5) = w4 := ⟨_, rfl⟩
      rw [hw4] at HX4 HY4 HO4 HG4 HR4 ⊢
      have d2 : w4.cell? ⟨w.heap.size, 0, none⟩ = some (.slice (some ⟨g3, 0, none⟩) (n + 1) c5) := by simpa using HX4.out.cell 0
      have l6 := HX4.out.lt
      have hk0 : (0 : Int) ≤ (k : Int) := by omega
      obtain ⟨k1, hk1⟩ : ∃ k1 : Nat, k + 1 = k1 := ⟨_, rfl⟩
      have hk1I : (k : Int) + 1 = (k1 : Int) := by omega
      have hk1w : IntKind.i64.wrap (k1 : Int) = (k1 : Int) := Go.IntWalk.i64_in _ (by omega)
      have hs1 : ∀ w', (Instr.slice 31 (.slice (some ⟨g3, 0, none⟩) (n + 1) c5) (some (.int .i64 (k1 : Int))) none none).run Tryz.prog w' = .ok (.slice (some ⟨g3, offF c5 k1, none⟩) (n + 1 - k1) (c5 - k1)) w' := fun w' => run_fromF w' g3 (n + 1) c5 k1 (by omega)
      have hs2 : ∀ w', (Instr.slice 31 (.slice (some ⟨g3, 0, none⟩) (n + 1) c5) (some (.int .i64 (k : Int))) none none).run Tryz.prog w' = .ok (.slice (some ⟨g3, offF c5 k, none⟩) (n + 1 - k) (c5 - k)) w' := fun w' => run_fromF w' g3 (n + 1) c5 k (by omega)
      have HK1 := Lib.hid hk1
      clear hk1 hw4 e2 f2 l4
      go_wp2_with fail
      (refine wp_region_tailN (C := Gr w4 (some ⟨g3, 0, none⟩)) 7 (by kernel_rfl) (by kernel_rfl) (Gr.drawn _ _) (fun _ _ h k => h.ext k) ?_; simp only [List.take_succ_cons, List.take_zero, List.drop_succ_cons, List.drop_zero]; (repeat (first | (refine headSkip (by rfl) rfl ?_; simp only [List.setIfInBounds_toArray, List.set_cons_zero, List.set_cons_succ]) | (refine headV (v := ?_) (by rfl) rfl (fun w' hcw => ?_) ?_; rotate_left; ((try dsimp only at hcw); have hbc := hcw.cells; go_simp; first | done | with_reducible rfl | (have hcc := hcw.cell l6 (by simp [ob]; exact fun e => hg3n e.symm) 0; go_simp; first | done | with_reducible rfl)); simp only [List.setIfInBounds_toArray, List.set_cons_zero, List.set_cons_succ]))); unfold wpHead)
      refine tailK (by rfl) (fun u5 hc5 he5 K hK => ?_)
      obtain ⟨w5, hrun, ho5, hg5⟩ := run_shift u5 base g3 n c5 k (hs ++ [(none, 0, 0)]) (own_keep HO4.out he5) hkn 3
      rw [HK1.out] at hrun
      refine wp_copyF _ _ _ _ rfl rfl rfl hrun ?_
      refine hK _ _ (Gr.trans hc5 hg5) ?_
      clear hK K hrun
      simp only [Act.put, List.setIfInBounds_toArray, List.set_cons_zero, List.set_cons_succ]
      (refine fun w6 hc6 he6 => NoPanic.normal ?_)
      have HO6 := Lib.hid (own_keep ho5 he6)
      have HG6 : Hid (w4.grownBy w6 (some g3)) := hc6
      have HX6 := Lib.hid (HX4.out.grown HG6.out (fun e => by injection e with e; exact hg3n e.symm))
      have HY6 := Lib.hid (HY4.out.grown HG6.out (fun e => by injection e with e; exact hg3m e.symm))
      have b2 : w6.cell? ⟨w.heap.size, 0, none⟩ = some (.slice (some ⟨g3, 0, none⟩) (n + 1) c5) := by simpa using HX6.out.cell 0
      have b3 : w6.cell? ⟨w.heap.size + 1, 0, none⟩ = some (.slice B m d) := by simpa using HY6.out.cell 0
      have l7 := HX6.out.lt
      have l8 := HY6.out.lt
      have hck := HO6.out.cellAt k (by omega)
      have hkl : k < (vS (List.take (k + 1) (hs ++ [(none, 0, 0)]) ++ List.take (n - k) (List.drop k (hs ++ [(none, 0, 0)])))).length := by
        have := own_len HO6.out; omega
      rw [List.getElem?_eq_getElem hkl] at hck
      generalize (vS (List.take (k + 1) (hs ++ [(none, 0, 0)]) ++ List.take (n - k) (List.drop k (hs ++ [(none, 0, 0)]))))[k] = z at hck
      have hfk := HO6.out.frozenAt k
      have hg6l := own_lt HO6.out g3 rfl
      have hst := (HO6.out.stored k (.slice B m d)).1
      rw [show (vS (List.take (k + 1) (hs ++ [(none, 0, 0)]) ++ List.take (n - k) (List.drop k (hs ++ [(none, 0, 0)])))).set k (.slice B m d) = vS (hs.take k ++ [(B, m, d)] ++ hs.drop k) from by rw [← ins_set hs (none, 0, 0) (B, m, d) n k HO.out.hlen hkn]; simp [vS, List.map_set, hd]] at hst
      have HST := Lib.hid hst
      obtain ⟨hg6a, hg6b⟩ := hg6l
      have hkI2 : (k : Int) < (n : Int) + 1 := by omega
      have HRW : Hid (∀ x t, CRow wq x t → CRow (w6.setCell ⟨g3, k, none⟩ (.slice B m d)) x t) := fun x t h => by
        have h4 := HR4.out x t h
        have ne := h4.apart HO4.out
        exact (h4.grown HG6.out (fun g e r => ne g e r)).grown (grown_set (World.grownBy.refl _ (some g3)) rfl _) (fun g e r => ne g e r)
      have HGW : Hid (w.grownBy (w6.setCell ⟨g3, k, none⟩ (.slice B m d)) (ob A)) := by
        have hh : ob A = some g3 ∨ w.heap.size ≤ g3 := by
          rcases HAT.out with h | h
          · exact .inl h.symm
          · simp only [ob, Option.map_some, Option.some.injEq, World.size_alloc] at h; right; omega
        exact grown_setC (grown_comp2 HG4.out HG6.out (fun g h => by injection h with h; subst h; exact hh)) hh _
      clear hst hc5 he5 ho5 hg5 hc6 he6 d2 l6 hs1 hs2
      go_wp2_with fail
      go_ret
      refine ⟨some ⟨g3, 0, none⟩, n + 1, c5, hs.take k ++ [(B, m, d)] ++ hs.drop k, rfl, ⟨HST.out, ?_, ?_⟩, HGW.out, ?_⟩
      · rw [HV.out]; simp only [List.length_append, List.length_take, List.length_drop, List.length_cons, List.length_nil, HFL.out]; omega
      · intro i x t h1 h2
        rw [HV.out] at h2
        rcases ins_rows (by rw [HO.out.hlen, HFL.out]) (by rw [HFL.out]; exact hkn) i x t h1 h2 with ⟨j, h3, h4⟩ | ⟨h3, h4⟩
        · exact HRW.out x t (HOq.out.row j x t h3 h4)
        · subst h3 h4
          exact HRW.out _ _ (HF1.out.below hbq)
      · intro g e
        rcases HAT.out with h | h
        · exact .inl (h ▸ e)
        · rw [h] at e
          simp only [World.size_alloc, Option.some.injEq] at e
          right; omega
  · have HV := Lib.hid (putB_new HK.out (fun h => hkk (by have := h.1; rwa [HFL.out] at this)))
    have hkd : decide (k < n) = false := by simp; omega
    have hkI : ¬ (k : Int) < (n : Int) := by omega
    go_wp2_with fail
    (refine wp_region_below (by kernel_rfl) (by kernel_rfl) ?_; (repeat (first | go_big_quiet_skip | (refine quietV (v := ?_) (by rfl) rfl (fun w' hbw => ?_) ?_; rotate_left; ((try dsimp only at hbw); have hbc := (bcell hbw).1; have hbf := (bcell hbw).2; go_simp; first | done | with_reducible rfl | fail); simp only [List.setIfInBounds_toArray, List.set_cons_zero, List.set_cons_succ]))); refine wpQuiet_nil ?_; intro wq hbq)
    clear hkd hkI hkk
    have hb0q := bel_trans hb01 hbq
    have hz1 := hb0q.size
    have HX2q := Lib.hid (HX2.out.below hbq)
    have HX3q := Lib.hid (HX3.out.below hbq)
    have HOq := Lib.hid (HO1.out.below hbq)
    have c2q : wq.cell? ⟨w.heap.size, 0, none⟩ = some (.slice A n c) := by simpa using HX2q.out.cell 0
    have z2q := HX2q.out.frozen 0
    have l2q := HX2q.out.lt
    clear c2 c3 l2 l3
    go_wp2_with (at_builtin; go_must (refine app_F _ rfl _ _ rfl base _ _ _ hs rfl (HOq.out.own.alloc _) _ _ _ [(none, 0, 0)] rfl (rd_newS _ _ _) rfl (by omega) (by simp; omega) ?_); intro A3 c5 w3 ho3 hg3 hat3; have HO3 := Lib.hid ho3; have HG3 := Lib.hid hg3; have HAT := Lib.hid hat3; have hX3 := (HX2q.out.alloc (.cells #[.slice none 0 0] 59)).grown hg3 (fun e => by have := (HA.out _ e.symm).2; omega); have e2 : w3.cell? ⟨w.heap.size, 0, none⟩ = some (.slice A n c) := (by simpa using hX3.cell 0); have f2 := hX3.frozen 0; have l4 := hX3.lt; have HX4 := Lib.hid (hX3.set_ 0 (.slice A3 (n + 1) c5)); have HY4 := Lib.hid (((HX3q.out.alloc (.cells #[.slice none 0 0] 59)).grown hg3 (fun e => by have := (HA.out _ e.symm).2; omega)).far (p := ⟨w.heap.size, 0, none⟩) (by simp) (.slice A3 (n + 1) c5)); clear hX3 ho3 hg3 hat3)
    obtain ⟨g3, hA3, hbg3, hg3l⟩ := own_at HO3.out (by omega)
    subst hA3
    have hg3n : g3 ≠ w.heap.size ∧ g3 ≠ w.heap.size + 1 := by
      rcases HAT.out with h | h
      · have := (HA.out g3 h.symm).2; omega
      · simp only [ob, Option.map_some, Option.some.injEq, World.size_alloc] at h; omega
    obtain ⟨hg3n, hg3m⟩ := hg3n
    have HO4 := Lib.hid (own_set HO3.out (p := ⟨w.heap.size, 0, none⟩) (fun g e => by simp only [ob, Option.map_some, Option.some.injEq] at e; subst e; exact hg3n) (.slice (some ⟨g3, 0, none⟩) (n + 1) c5))
    have HG4 : Hid (w.grownBy (w3.setCell ⟨w.heap.size, 0, none⟩ (.slice (some ⟨g3, 0, none⟩) (n + 1) c5)) (ob A)) :=
      grown_setC (grown_comp2 (grown_of_below (bel_alloc hb0q _) (ob A)) HG3.out (fun g h => .inl h)) (.inr (Nat.le_refl _)) _
    have HR4 : Hid (∀ x t, CRow wq x t → CRow (w3.setCell ⟨w.heap.size, 0, none⟩ (.slice (some ⟨g3, 0, none⟩) (n + 1) c5)) x t) := fun x t h =>
      ((h.below (bel_alloc (Below.refl _ _) _)).grown HG3.out (fun g e r => (h.apart HOq.out.own) g e r)).grown (grown_set (World.grownBy.refl _ (some w.heap.size)) rfl _) (fun g e r => by
        injection r with r
        obtain ⟨cur, z, h1⟩ := h.2.2 g e
        have h2 := HX2q.out
        unfold Blk at h2
        rw [r, h1] at h2
        injection h2 with h2
        injection h2 with _ h3
        exact absurd h3 (by decide))
    obtain ⟨w4, hw4⟩ : ∃ w4, w3.setCell ⟨w.heap.size, 0, none⟩ (.slice (some ⟨g3, 0, none⟩) (n + 1) c5) = w4 := ⟨_, rfl⟩
    rw [hw4] at HX4 HY4 HO4 HG4 HR4 ⊢
    have d2 : w4.cell? ⟨w.heap.size, 0, none⟩ = some (.slice (some ⟨g3, 0, none⟩) (n + 1) c5) := by simpa using HX4.out.cell 0
    have l6 := HX4.out.lt
    have hk0 : (0 : Int) ≤ (k : Int) := by omega
    obtain ⟨k1, hk1⟩ : ∃ k1 : Nat, k + 1 = k1 := ⟨_, rfl⟩
    have hk1I : (k : Int) + 1 = (k1 : Int) := by omega
    have hk1w : IntKind.i64.wrap (k1 : Int) = (k1 : Int) := Go.IntWalk.i64_in _ (by omega)
    have hs1 : ∀ w', (Instr.slice 31 (.slice (some ⟨g3, 0, none⟩) (n + 1) c5) (some (.int .i64 (k1 : Int))) none none).run Tryz.prog w' = .ok (.slice (some ⟨g3, offF c5 k1, none⟩) (n + 1 - k1) (c5 - k1)) w' := fun w' => run_fromF w' g3 (n + 1) c5 k1 (by omega)
    have hs2 : ∀ w', (Instr.slice 31 (.slice (some ⟨g3, 0, none⟩) (n + 1) c5) (some (.int .i64 (k : Int))) none none).run Tryz.prog w' = .ok (.slice (some ⟨g3, offF c5 k, none⟩) (n + 1 - k) (c5 - k)) w' := fun w' => run_fromF w' g3 (n + 1) c5 k (by omega)
    have HK1 := Lib.hid hk1
    clear hk1 hw4 e2 f2 l4
    go_wp2_with fail
    (refine wp_region_tailN (C := Gr w4 (some ⟨g3, 0, none⟩)) 7 (by kernel_rfl) (by kernel_rfl) (Gr.drawn _ _) (fun _ _ h k => h.ext k) ?_; simp only [List.take_succ_cons, List.take_zero, List.drop_succ_cons, List.drop_zero]; (repeat (first | (refine headSkip (by rfl) rfl ?_; simp only [List.setIfInBounds_toArray, List.set_cons_zero, List.set_cons_succ]) | (refine headV (v := ?_) (by rfl) rfl (fun w' hcw => ?_) ?_; rotate_left; ((try dsimp only at hcw); have hbc := hcw.cells; go_simp; first | done | with_reducible rfl | (have hcc := hcw.cell l6 (by simp [ob]; exact fun e => hg3n e.symm) 0; go_simp; first | done | with_reducible rfl)); simp only [List.setIfInBounds_toArray, List.set_cons_zero, List.set_cons_succ]))); unfold wpHead)
    refine tailK (by rfl) (fun u5 hc5 he5 K hK => ?_)
    obtain ⟨w5, hrun, ho5, hg5⟩ := run_shift u5 base g3 n c5 k (hs ++ [(none, 0, 0)]) (own_keep HO4.out he5) hkn 3
    rw [HK1.out] at hrun
    refine wp_copyF _ _ _ _ rfl rfl rfl hrun ?_
    refine hK _ _ (Gr.trans hc5 hg5) ?_
    clear hK K hrun
    simp only [Act.put, List.setIfInBounds_toArray, List.set_cons_zero, List.set_cons_succ]
    (refine fun w6 hc6 he6 => NoPanic.normal ?_)
    have HO6 := Lib.hid (own_keep ho5 he6)
    have HG6 : Hid (w4.grownBy w6 (some g3)) := hc6
    have HX6 := Lib.hid (HX4.out.grown HG6.out (fun e => by injection e with e; exact hg3n e.symm))
    have HY6 := Lib.hid (HY4.out.grown HG6.out (fun e => by injection e with e; exact hg3m e.symm))
    have b2 : w6.cell? ⟨w.heap.size, 0, none⟩ = some (.slice (some ⟨g3, 0, none⟩) (n + 1) c5) := by simpa using HX6.out.cell 0
    have b3 : w6.cell? ⟨w.heap.size + 1, 0, none⟩ = some (.slice B m d) := by simpa using HY6.out.cell 0
    have l7 := HX6.out.lt
    have l8 := HY6.out.lt
    have hck := HO6.out.cellAt k (by omega)
    have hkl : k < (vS (List.take (k + 1) (hs ++ [(none, 0, 0)]) ++ List.take (n - k) (List.drop k (hs ++ [(none, 0, 0)])))).length := by
      have := own_len HO6.out; omega
    rw [List.getElem?_eq_getElem hkl] at hck
    generalize (vS (List.take (k + 1) (hs ++ [(none, 0, 0)]) ++ List.take (n - k) (List.drop k (hs ++ [(none, 0, 0)]))))[k] = z at hck
    have hfk := HO6.out.frozenAt k
    have hg6l := own_lt HO6.out g3 rfl
    have hst := (HO6.out.stored k (.slice B m d)).1
    rw [show (vS (List.take (k + 1) (hs ++ [(none, 0, 0)]) ++ List.take (n - k) (List.drop k (hs ++ [(none, 0, 0)])))).set k (.slice B m d) = vS (hs.take k ++ [(B, m, d)] ++ hs.drop k) from by rw [← ins_set hs (none, 0, 0) (B, m, d) n k HO.out.hlen hkn]; simp [vS, List.map_set, hd]] at hst
    have HST := Lib.hid hst
    obtain ⟨hg6a, hg6b⟩ := hg6l
    have hkI2 : (k : Int) < (n : Int) + 1 := by omega
    have HRW : Hid (∀ x t, CRow wq x t → CRow (w6.setCell ⟨g3, k, none⟩ (.slice B m d)) x t) := fun x t h => by
      have h4 := HR4.out x t h
      have ne := h4.apart HO4.out
      exact (h4.grown HG6.out (fun g e r => ne g e r)).grown (grown_set (World.grownBy.refl _ (some g3)) rfl _) (fun g e r => ne g e r)
    have HGW : Hid (w.grownBy (w6.setCell ⟨g3, k, none⟩ (.slice B m d)) (ob A)) := by
      have hh : ob A = some g3 ∨ w.heap.size ≤ g3 := by
        rcases HAT.out with h | h
        · exact .inl h.symm
        · simp only [ob, Option.map_some, Option.some.injEq, World.size_alloc] at h; right; omega
      exact grown_setC (grown_comp2 HG4.out HG6.out (fun g h => by injection h with h; subst h; exact hh)) hh _
    clear hst hc5 he5 ho5 hg5 hc6 he6 d2 l6 hs1 hs2
    go_wp2_with fail
    go_ret
    refine ⟨some ⟨g3, 0, none⟩, n + 1, c5, hs.take k ++ [(B, m, d)] ++ hs.drop k, rfl, ⟨HST.out, ?_, ?_⟩, HGW.out, ?_⟩
    · rw [HV.out]; simp only [List.length_append, List.length_take, List.length_drop, List.length_cons, List.length_nil, HFL.out]; omega
    · intro i x t h1 h2
      rw [HV.out] at h2
      rcases ins_rows (by rw [HO.out.hlen, HFL.out]) (by rw [HFL.out]; exact hkn) i x t h1 h2 with ⟨j, h3, h4⟩ | ⟨h3, h4⟩
      · exact HRW.out x t (HOq.out.row j x t h3 h4)
      · subst h3 h4
        exact HRW.out _ _ (HF1.out.below hbq)
    · intro g e
      rcases HAT.out with h | h
      · exact .inl (h ▸ e)
      · rw [h] at e
        simp only [World.size_alloc, Option.some.injEq] at e
        right; omega
end Go.Proofs.YtcgjnonlndaoeaaGreatDoor

/- The reference's draws of pieces. -/
namespace Go.Proofs.YtcgjnonlndaoeaaGreatDoor
open Go.RowKit
set_option linter.unusedVariables false
attribute [local go_sem ↓] Go.wp_at_zero Go.wp_at_succ

def names12 : List ByteArray := [⟨#[73, 50]⟩, ⟨#[73, 51]⟩, ⟨#[86, 51]⟩, ⟨#[73, 52]⟩, ⟨#[76, 52]⟩, ⟨#[84, 52]⟩, ⟨#[83, 52]⟩, ⟨#[79, 52]⟩, ⟨#[88, 53]⟩, ⟨#[80, 53]⟩, ⟨#[87, 53]⟩, ⟨#[85, 53]⟩]
def vT2 (l : List ByteArray) : List Value := l.map fun t => .string t
theorem RdT2.at_ {w : World} {A : Option Addr} {xs : List ByteArray} {k : Nat} (h : Rd w A (vT2 xs)) (hk : k < xs.length) :
    ∃ g off, A = some ⟨g, off, none⟩ ∧ g < w.heap.size ∧ w.cell? ⟨g, off + k, none⟩ = some (.string xs[k]) := by
  rcases h with h | ⟨g, off, e, h⟩
  · have h2 := congrArg List.length h
    simp [vT2] at h2
    subst h2
    simp at hk
  · have h2 := h k (.string xs[k]) (by simp [vT2, List.getElem?_eq_getElem hk])
    exact ⟨g, off, e, World.block_lt_of_cell? w _ h2, h2⟩
set_option maxRecDepth 100000 in
set_option maxHeartbeats 1600000 in
theorem PieceNamed_d (t : ByteArray) (w : World) (ht : t ∈ names12) : Calls Tryz.prog 120 #[.string t] w (RetPS w) := by
  simp only [names12, List.mem_cons, List.not_mem_nil, or_false] at ht
  rcases ht with rfl | rfl | rfl | rfl | rfl | rfl | rfl | rfl | rfl | rfl | rfl | rfl
  all_goals
    go_enter Tryz.func120, Tryz.ntmps120
    go_wp2_with fail
    refine (ParseShape_s _ _ (by decide) (by decide)).mono ?_
    rintro e w1 ⟨D, k, cD, xs, b, rfl, h1, h2, h3, h4, h5, h6⟩
    have H1 := Lib.hid h1
    have H2 := Lib.hid h2
    have H5 := Lib.hid h5
    have H6 := Lib.hid h6
    clear h1 h2 h5 h6
    go_wp2_with fail
    go_ret2
    exact ⟨D, k, cD, xs, b, rfl, H1.out, H2.out, h3, h4, H5.out, H6.out⟩
/-- A piece was drawn. -/
def RetPc (w : World) (g : Nat) (A : Option Addr) (n c : Nat) (bs : List UInt8) (e : Ending) (w' : World) : Prop :=
  ∃ D k cD xs, e = .returned (.slice D k cD) ∧ Rd w' D (vC xs) ∧ xs.length = k ∧ k ≤ 70 ∧ k ≤ cD ∧ Cur w' g A n c bs ∧ w.grownBy w' (some g) ∧ ∀ b, ob D = some b → b ≠ g ∧ w.heap.size ≤ b
set_option maxRecDepth 100000 in
set_option maxHeartbeats 1600000 in
theorem l4Piece_s (A : Option Addr) (n c g : Nat) (bs : List UInt8) (w : World) (hc : Cur w g A n c bs) (hn : n ≤ 1048576) :
    Calls Tryz.prog 100 #[.pointer (some ⟨g, 0, none⟩)] w (RetPc w g A n c bs) := by
  have hgl : g < w.heap.size := by obtain ⟨i, x, hi, hB⟩ := hc.blk; exact hB.lt
  have hnm : Calls Tryz.prog 119 #[] w (fun e w' => ∃ D, e = .returned (.slice (some ⟨D, 0, none⟩) 12 12) ∧ Rd w' (some ⟨D, 0, none⟩) (vT2 names12) ∧ w.heap.size ≤ D ∧ Below w.heap.size w w') := by
    have hr := rd_new w 9 (vT2 names12).toArray
    have HR := Lib.hid hr
    clear hr hc
    go_enter Tryz.func119, Tryz.ntmps119
    go_wp2_with fail
    go_ret
    exact ⟨_, rfl, HR.out, Nat.le_refl _, bel_alloc (Below.refl _ _) _⟩
  have HNM := Lib.hid hnm
  have HC := Lib.hid hc
  clear hnm hc
  go_enter Tryz.func100, Tryz.ntmps100
  go_wp2_with fail
  refine HNM.out.mono ?_
  rintro e w1 ⟨E, rfl, hE, hEl, hb1⟩
  have HE := Lib.hid hE
  have HB1 := Lib.hid hb1
  have HC1 := Lib.hid (HC.out.below hb1)
  clear hE hb1 HC
  go_wp2_with fail
  refine (l1Below_s A n c g 12 bs w1 HC1.out hn (by omega) (by omega)).mono ?_
  rintro e w2 ⟨q, rfl, hq, hc2, hg2⟩
  have hE2 := HE.out.grown hg2 (fun b e r => by simp only [ob, Option.map_some, Option.some.injEq] at e; injection r with r; omega)
  obtain ⟨g1, o1, hA1, hg1, hx⟩ := RdT2.at_ hE2 (show q < names12.length from hq)
  injection hA1 with hA1
  injection hA1 with e1 e2
  subst e1 e2
  have hq2 : q < names12.length := hq
  obtain ⟨t, ht⟩ : ∃ t, names12[q]'hq2 = t := ⟨_, rfl⟩
  have htm : t ∈ names12 := by rw [← ht]; exact List.getElem_mem _
  rw [ht, Nat.zero_add] at hx
  have hq0 : (0 : Int) ≤ (q : Int) := by omega
  have hq1 : (q : Int) < 12 := by omega
  have HC2 := Lib.hid hc2
  have HF2 := Lib.hid (((FrG.refl w.heap.size g w).below HB1.out (Nat.le_refl _)).draw hg2 HB1.out.size)
  have HTM := Lib.hid htm
  have hs2 : w.heap.size ≤ w2.heap.size := by have := HB1.out.size; have := hg2.size; omega
  clear ht htm hE2 hc2 hg2
  go_wp2_with fail
  refine (PieceNamed_d t w2 HTM.out).mono ?_
  rintro e w3 ⟨D, k, cD, xs, b, rfl, h1, h2, h3, h4, h5, h6⟩
  have H1 := Lib.hid h1
  have H2 := Lib.hid h2
  have H5 := Lib.hid h5
  have H6 := Lib.hid h6
  clear h1 h2 h5 h6 hx
  go_wp2_with fail
  go_ret
  exact ⟨D, k, cD, xs, rfl, H1.out, H2.out, h3, h4, HC2.out.below H5.out, (HF2.out.below H5.out hs2).grown, fun b e => by have := H6.out b e; omega⟩
/-- Pieces under way. -/
structure PcF (base : Nat) (w : World) (B : Option Addr) (q cB : Nat) (hs : List H) (P : List (List C)) : Prop where
  own : w.ownsRow base 59 1 (.slice B q cB) q (vS hs)
  len : hs.length = P.length
  row : ∀ k (a : k < hs.length) (b : k < P.length), P[k].length = hs[k].2.1 ∧ P[k].length ≤ 70 ∧ Rd w hs[k].1 (vC P[k])
  low : ∀ x ∈ hs, ∀ b, ob x.1 = some b → base ≤ b
  off : ∀ k (a : k < hs.length) (b : k < P.length), 0 < P[k].length → ∀ g, ob hs[k].1 = some g → ob B ≠ some g
section
variable {base : Nat} {w w' : World} {B : Option Addr} {q cB : Nat} {hs : List H} {P : List (List C)}
theorem rdC_len {f : List C} {A : Option Addr} (h : Rd w A (vC f)) (h0 : 0 < f.length) : ∀ g, ob A = some g → g < w.heap.size := fun g e => by
  obtain ⟨g1, o1, rfl, hg, _⟩ := RdC.at_ h h0
  simp only [ob, Option.map_some, Option.some.injEq] at e
  omega
theorem PcF.qlen (h : PcF base w B q cB hs P) : hs.length = q := by have := own_len h.own; rw [vS_length] at this; omega
theorem PcF.below (h : PcF base w B q cB hs P) (hb : Below w.heap.size w w') : PcF base w' B q cB hs P :=
  ⟨own_keep h.own hb, h.len, fun k a b => ⟨(h.row k a b).1, (h.row k a b).2.1, (h.row k a b).2.2.below hb⟩, h.low, h.off⟩
theorem PcF.draw {g : Nat} (h : PcF base w B q cB hs P) (hg : w.grownBy w' (some g)) (hgb : g < base) : PcF base w' B q cB hs P :=
  ⟨own_keptD h.own hg (fun b e r => by injection r with r; have := (own_lt h.own b e).1; omega), h.len, fun k a b => ⟨(h.row k a b).1, (h.row k a b).2.1, (h.row k a b).2.2.grown hg (fun b e r => by injection r with r; have := h.low _ (List.getElem_mem a) b e; omega)⟩, h.low, h.off⟩
theorem PcF.rdp (h : PcF base w B q cB hs P) : RdP w B q hs P := ⟨Rd.of_own h.own, h.qlen, by rw [← h.len, h.qlen], fun k a b => ⟨(h.row k a b).1, (h.row k a b).2.2⟩⟩
theorem PcF.one {D : Option Addr} {k cD : Nat} {xs : List C} (hr : Rd w D (vC xs)) (hl : xs.length = k) (hk : k ≤ 70) (hb : base ≤ w.heap.size) (hD : ∀ b, ob D = some b → base ≤ b) :
    PcF base (w.alloc (.cells #[.slice D k cD] 59)) (some ⟨w.heap.size, 0, none⟩) 1 1 [(D, k, cD)] [xs] := by
  refine ⟨own_new w _ 1 1 #[.slice D k cD] rfl (by simp [maxLen]) hb, rfl, fun j a b => ?_, fun x hx b e => ?_, fun j a b h0 g e r => ?_⟩
  · obtain rfl : j = 0 := by simp at a; omega
    exact ⟨hl, by simp only [List.getElem_cons_zero]; omega, hr.alloc _⟩
  · rw [List.mem_singleton] at hx
    subst hx
    exact hD b e
  · obtain rfl : j = 0 := by simp at a; omega
    simp only [List.getElem_cons_zero] at h0 e
    have := rdC_len hr h0 g e
    simp only [ob, Option.map_some, Option.some.injEq] at r
    omega
theorem PcF.push {D : Option Addr} {k cD : Nat} {xs : List C} {B' : Option Addr} {c' : Nat} {w2 : World} (h : PcF base w B q cB hs P) (hr : Rd w D (vC xs)) (hl : xs.length = k) (hk : k ≤ 70) (hD : ∀ b, ob D = some b → base ≤ b ∧ ob B ≠ some b)
    (ho : w2.ownsRow base 59 1 (.slice B' (q + 1) c') (q + 1) (vS (hs ++ [(D, k, cD)]))) (hg : w.grownBy w2 (ob B)) (ha : ob B' = ob B ∨ ∀ g, ob B' = some g → w.heap.size ≤ g) : PcF base w2 B' (q + 1) c' (hs ++ [(D, k, cD)]) (P ++ [xs]) := by
  have hlen : (hs ++ [(D, k, cD)]).length = (P ++ [xs]).length := by simp [h.len]
  have hrow : ∀ j (a : j < (hs ++ [(D, k, cD)]).length) (b : j < (P ++ [xs]).length), (P ++ [xs])[j].length = (hs ++ [(D, k, cD)])[j].2.1 ∧ (P ++ [xs])[j].length ≤ 70 ∧ Rd w (hs ++ [(D, k, cD)])[j].1 (vC (P ++ [xs])[j]) ∧ (0 < (P ++ [xs])[j].length → ∀ g, ob (hs ++ [(D, k, cD)])[j].1 = some g → ob B ≠ some g) := fun j a b => by
    by_cases hj : j < hs.length
    · have hj2 : j < P.length := h.len ▸ hj
      simp only [List.getElem_append_left hj, List.getElem_append_left hj2]
      exact ⟨(h.row j hj hj2).1, (h.row j hj hj2).2.1, (h.row j hj hj2).2.2, h.off j hj hj2⟩
    · have e : j = hs.length := by simp at a; omega
      subst e
      have e3 : (hs ++ [((D, k, cD) : H)])[hs.length]'a = (D, k, cD) := by simp
      have e4 : (P ++ [xs])[hs.length]'b = xs := by rw [List.getElem_append_right (Nat.le_of_eq h.len.symm)]; simp
      rw [e3, e4]
      exact ⟨hl, by omega, hr, fun _ g e => (hD g e).2⟩
  refine ⟨ho, hlen, fun j a b => ?_, fun x hx b e => ?_, fun j a b h0 g e r => ?_⟩
  · obtain ⟨h1, h2, h3, h4⟩ := hrow j a b
    refine ⟨h1, h2, ?_⟩
    by_cases h0 : 0 < (P ++ [xs])[j].length
    · exact h3.grown hg (fun g e r => h4 h0 g e r.symm)
    · left
      rw [List.eq_nil_of_length_eq_zero (by omega : (P ++ [xs])[j].length = 0)]
      rfl
  · rcases List.mem_append.1 hx with hx | hx
    · exact h.low x hx b e
    · rw [List.mem_singleton] at hx
      subst hx
      exact (hD b e).1
  · obtain ⟨h1, h2, h3, h4⟩ := hrow j a b
    rcases ha with ha | ha
    · rw [ha] at r
      exact h4 h0 g e r
    · have h5 := ha g r
      have h6 := rdC_len h3 h0 g e
      omega
end
theorem totC_leP {m : Nat} : ∀ P : List (List C), (∀ f ∈ P, f.length ≤ m) → totC P ≤ m * P.length
  | [], _ => by simp [totC]
  | f :: t, h => by
    have h1 := totC_leP t fun g hg => h g (List.mem_cons_of_mem _ hg)
    have h2 := h f (List.mem_cons_self ..)
    rw [show totC (f :: t) = f.length + totC t from by simp [totC], List.length_cons, Nat.mul_succ]
    omega
/-- Pieces were drawn. -/
def RetPs (w : World) (g : Nat) (A : Option Addr) (n c : Nat) (bs : List UInt8) (e : Ending) (w' : World) : Prop :=
  ∃ B q cB hs P, e = .returned (.slice B q cB) ∧ PcF w.heap.size w' B q cB hs P ∧ q ≤ 5 ∧ Cur w' g A n c bs ∧ w.grownBy w' (some g)
set_option maxRecDepth 100000 in
set_option maxHeartbeats 1600000 in
theorem l7Pieces_s (A : Option Addr) (n c g : Nat) (bs : List UInt8) (w : World) (hc : Cur w g A n c bs) (hn : n ≤ 1048576) :
    Calls Tryz.prog 79 #[.pointer (some ⟨g, 0, none⟩)] w (RetPs w g A n c bs) := by
  have hgl : g < w.heap.size := by obtain ⟨i, x, hi, hB⟩ := hc.blk; exact hB.lt
  have hAb : 0 < n → ∀ b, ob A = some b → b < w.heap.size := fun h0 b e => by
    obtain ⟨gb, off, hA, hgb, _⟩ := RdB.at_ hc.rd (show 0 < bs.length by rw [hc.len]; exact h0)
    subst hA
    simp only [ob, Option.map_some, Option.some.injEq] at e
    omega
  have HAB : Hid (0 < n → ∀ b, ob A = some b → w.heap.size ≤ b → False) := fun h0 b e h => by have := hAb h0 b e; omega
  have HC := Lib.hid hc
  clear hAb hc
  go_enter Tryz.func79, Tryz.ntmps79
  go_wp2_with fail
  refine (l4Piece_s A n c g bs w HC.out hn).mono ?_
  rintro e w1 ⟨D, k, cD, xs, rfl, hr, hl, hk, hkc, hc1, hg1, hD⟩
  have hs1 : w.heap.size ≤ w1.heap.size := hg1.size
  have hP := PcF.one (base := w.heap.size) (w := w1) (cD := cD) hr hl hk hs1 (fun b e => (hD b e).2)
  have hC2 := hc1.below (bel_alloc (Below.refl _ _) (.cells #[.slice D k cD] 59))
  have hF2 := ((FrG.refl w.heap.size g w).draw hg1 (Nat.le_refl _)).below (bel_alloc (Below.refl _ _) (.cells #[.slice D k cD] 59)) hs1
  have HP := Lib.hid hP
  have HC2 := Lib.hid hC2
  have HF2 := Lib.hid hF2
  clear hr hl hc1 hg1 hD hP hC2 hF2 HC
  go_wp2_with fail
  obtain ⟨w2, hw2⟩ : ∃ w2, w1.alloc (.cells #[.slice D k cD] 59) = w2 := ⟨_, rfl⟩
  have hs2 : w.heap.size ≤ w2.heap.size := by rw [← hw2]; simp; omega
  rw [hw2] at HP HC2 HF2 ⊢
  obtain ⟨B, hB⟩ : ∃ B, (some (⟨w1.heap.size, 0, none⟩ : Addr)) = B := ⟨_, rfl⟩
  rw [hB] at HP ⊢
  clear hw2 hB
  refine (l1Once_s A n c g 3 bs w2 HC2.out hn (by omega) (by omega)).mono ?_
  rintro e w3 ⟨o, rfl, hc3, hg3⟩
  have HC3 := Lib.hid hc3
  have HP3 := Lib.hid (HP.out.draw hg3 hgl)
  have HF3 := Lib.hid (HF2.out.draw hg3 hs2)
  have hs3 : w.heap.size ≤ w3.heap.size := by have := hg3.size; omega
  clear hc3 hg3 HP HC2 HF2
  cases o with
  | false =>
    go_wp2_with fail
    refine (l1Once_s A n c g 20 bs w3 HC3.out hn (by omega) (by omega)).mono ?_
    rintro e x4 ⟨o2, rfl, hc4o, hg4o⟩
    have HCo4 := Lib.hid hc4o
    have HPo4 := Lib.hid (HP3.out.draw hg4o hgl)
    have HFo4 := Lib.hid (HF3.out.draw hg4o hs3)
    have szo4 : w.heap.size ≤ x4.heap.size := by have := hg4o.size; omega
    clear hc4o hg4o HP3 HC3 HF3
    cases o2 with
    | false =>
      go_wp2_with fail
      go_ret
      exact ⟨B, 1, 1, _, _, rfl, HPo4.out, by omega, HCo4.out, HFo4.out.grown⟩
    | true =>
      go_wp2_with fail
      refine (l2Any_s A n c g bs x4 HCo4.out hn).mono ?_
      rintro e v4 ⟨D4, k4, cD4, xs4, rfl, hr4, hl4, hk4, hkc4, hc4, hg4, hD4⟩
      have hk4b : k4 ≤ 70 := by omega
      have HC4 := Lib.hid hc4
      have HP4 := Lib.hid (HPo4.out.draw hg4 hgl)
      have HF4 := Lib.hid (HFo4.out.draw hg4 szo4)
      have sz4 : w.heap.size ≤ v4.heap.size := by have := hg4.size; omega
      have hDD4 : ∀ b, ob D4 = some b → w.heap.size ≤ b ∧ ob B ≠ some b := fun b e => by
        have h1 := (hD4 b e).2
        refine ⟨by omega, fun r => ?_⟩
        have h2 := (own_lt HPo4.out.own b r).2
        omega
      have HR4 := Lib.hid hr4
      have HL4 := Lib.hid hl4
      have HDD4 := Lib.hid hDD4
      clear hr4 hl4 hc4 hg4 hD4 hDD4 HPo4 HCo4 HFo4
      go_wp2_with (at_builtin; go_must (refine app_F _ rfl _ _ rfl w.heap.size _ _ _ [(D, k, cD)] rfl (HP4.out.own.alloc _) _ _ _ [(D4, k4, cD4)] rfl (rd_newS _ _ _) rfl (by omega) (by simp; omega) ?_); intro B4 c4 u4 ho4 hgx4 hat4; have HO4 := Lib.hid ho4; have HG4 := Lib.hid hgx4; have HAT4 := Lib.hid hat4; clear ho4 hgx4 hat4)
      go_ret
      have hP4p := PcF.push (HP4.out.below (bel_alloc (Below.refl _ _) (.cells #[.slice D4 k4 cD4] 59))) (HR4.out.alloc _) HL4.out hk4b HDD4.out HO4.out HG4.out (at_or HAT4.out (Nat.le_refl _))
      have hlo4 : ∀ b, ob B = some b → w.heap.size ≤ b := fun b e => (own_lt HP4.out.own b e).1
      have hC4p := (HC4.out.below (bel_alloc (Below.refl _ _) (.cells #[.slice D4 k4 cD4] 59))).row HG4.out (fun b e => by have := hlo4 b e; omega) (fun h0 b e r => HAB.out h0 b r (hlo4 b e))
      have hF4p := (HF4.out.below (bel_alloc (Below.refl _ _) (.cells #[.slice D4 k4 cD4] 59)) sz4).row HG4.out (by simp; omega) hlo4
      have HPp4 := Lib.hid hP4p
      have HCp4 := Lib.hid hC4p
      have HFp4 := Lib.hid hF4p
      have szp4 : w.heap.size ≤ u4.heap.size := by have := HG4.out.size; simp at this; omega
      clear hP4p hlo4 hC4p hF4p
      exact ⟨B4, 1 + 1, c4, _, _, rfl, HPp4.out, by omega, HCp4.out, HFp4.out.grown⟩
  | true =>
    go_wp2_with fail
    refine (l4Piece_s A n c g bs w3 HC3.out hn).mono ?_
    rintro e v5 ⟨D5, k5, cD5, xs5, rfl, hr5, hl5, hk5, hkc5, hc5, hg5, hD5⟩
    have hk5b : k5 ≤ 70 := by omega
    have HC5 := Lib.hid hc5
    have HP5 := Lib.hid (HP3.out.draw hg5 hgl)
    have HF5 := Lib.hid (HF3.out.draw hg5 hs3)
    have sz5 : w.heap.size ≤ v5.heap.size := by have := hg5.size; omega
    have hDD5 : ∀ b, ob D5 = some b → w.heap.size ≤ b ∧ ob B ≠ some b := fun b e => by
      have h1 := (hD5 b e).2
      refine ⟨by omega, fun r => ?_⟩
      have h2 := (own_lt HP3.out.own b r).2
      omega
    have HR5 := Lib.hid hr5
    have HL5 := Lib.hid hl5
    have HDD5 := Lib.hid hDD5
    clear hr5 hl5 hc5 hg5 hD5 hDD5 HP3 HC3 HF3
    go_wp2_with (at_builtin; go_must (refine app_F _ rfl _ _ rfl w.heap.size _ _ _ [(D, k, cD)] rfl (HP5.out.own.alloc _) _ _ _ [(D5, k5, cD5)] rfl (rd_newS _ _ _) rfl (by omega) (by simp; omega) ?_); intro B5 c5 u5 ho5 hgx5 hat5; have HO5 := Lib.hid ho5; have HG5 := Lib.hid hgx5; have HAT5 := Lib.hid hat5; clear ho5 hgx5 hat5)
    have hP5p := PcF.push (HP5.out.below (bel_alloc (Below.refl _ _) (.cells #[.slice D5 k5 cD5] 59))) (HR5.out.alloc _) HL5.out hk5b HDD5.out HO5.out HG5.out (at_or HAT5.out (Nat.le_refl _))
    have hlo5 : ∀ b, ob B = some b → w.heap.size ≤ b := fun b e => (own_lt HP5.out.own b e).1
    have hC5p := (HC5.out.below (bel_alloc (Below.refl _ _) (.cells #[.slice D5 k5 cD5] 59))).row HG5.out (fun b e => by have := hlo5 b e; omega) (fun h0 b e r => HAB.out h0 b r (hlo5 b e))
    have hF5p := (HF5.out.below (bel_alloc (Below.refl _ _) (.cells #[.slice D5 k5 cD5] 59)) sz5).row HG5.out (by simp; omega) hlo5
    have HPp5 := Lib.hid hP5p
    have HCp5 := Lib.hid hC5p
    have HFp5 := Lib.hid hF5p
    have szp5 : w.heap.size ≤ u5.heap.size := by have := HG5.out.size; simp at this; omega
    clear hP5p hlo5 hC5p hF5p
    refine (l1Once_s A n c g 20 bs u5 HCp5.out hn (by omega) (by omega)).mono ?_
    rintro e x6 ⟨o2, rfl, hc6o, hg6o⟩
    have HCo6 := Lib.hid hc6o
    have HPo6 := Lib.hid (HPp5.out.draw hg6o hgl)
    have HFo6 := Lib.hid (HFp5.out.draw hg6o szp5)
    have szo6 : w.heap.size ≤ x6.heap.size := by have := hg6o.size; omega
    clear hc6o hg6o HPp5 HCp5 HFp5
    cases o2 with
    | false =>
      go_wp2_with fail
      go_ret
      exact ⟨B5, (1 + 1), c5, _, _, rfl, HPo6.out, by omega, HCo6.out, HFo6.out.grown⟩
    | true =>
      go_wp2_with fail
      refine (l2Any_s A n c g bs x6 HCo6.out hn).mono ?_
      rintro e v6 ⟨D6, k6, cD6, xs6, rfl, hr6, hl6, hk6, hkc6, hc6, hg6, hD6⟩
      have hk6b : k6 ≤ 70 := by omega
      have HC6 := Lib.hid hc6
      have HP6 := Lib.hid (HPo6.out.draw hg6 hgl)
      have HF6 := Lib.hid (HFo6.out.draw hg6 szo6)
      have sz6 : w.heap.size ≤ v6.heap.size := by have := hg6.size; omega
      have hDD6 : ∀ b, ob D6 = some b → w.heap.size ≤ b ∧ ob B5 ≠ some b := fun b e => by
        have h1 := (hD6 b e).2
        refine ⟨by omega, fun r => ?_⟩
        have h2 := (own_lt HPo6.out.own b r).2
        omega
      have HR6 := Lib.hid hr6
      have HL6 := Lib.hid hl6
      have HDD6 := Lib.hid hDD6
      clear hr6 hl6 hc6 hg6 hD6 hDD6 HPo6 HCo6 HFo6
      go_wp2_with (at_builtin; go_must (refine app_F _ rfl _ _ rfl w.heap.size _ _ _ ([(D, k, cD)] ++ [(D5, k5, cD5)]) rfl (HP6.out.own.alloc _) _ _ _ [(D6, k6, cD6)] rfl (rd_newS _ _ _) rfl (by omega) (by simp; omega) ?_); intro B6 c6 u6 ho6 hgx6 hat6; have HO6 := Lib.hid ho6; have HG6 := Lib.hid hgx6; have HAT6 := Lib.hid hat6; clear ho6 hgx6 hat6)
      go_ret
      have hP6p := PcF.push (HP6.out.below (bel_alloc (Below.refl _ _) (.cells #[.slice D6 k6 cD6] 59))) (HR6.out.alloc _) HL6.out hk6b HDD6.out HO6.out HG6.out (at_or HAT6.out (Nat.le_refl _))
      have hlo6 : ∀ b, ob B5 = some b → w.heap.size ≤ b := fun b e => (own_lt HP6.out.own b e).1
      have hC6p := (HC6.out.below (bel_alloc (Below.refl _ _) (.cells #[.slice D6 k6 cD6] 59))).row HG6.out (fun b e => by have := hlo6 b e; omega) (fun h0 b e r => HAB.out h0 b r (hlo6 b e))
      have hF6p := (HF6.out.below (bel_alloc (Below.refl _ _) (.cells #[.slice D6 k6 cD6] 59)) sz6).row HG6.out (by simp; omega) hlo6
      have HPp6 := Lib.hid hP6p
      have HCp6 := Lib.hid hC6p
      have HFp6 := Lib.hid hF6p
      have szp6 : w.heap.size ≤ u6.heap.size := by have := HG6.out.size; simp at this; omega
      clear hP6p hlo6 hC6p hF6p
      exact ⟨B6, (1 + 1) + 1, c6, _, _, rfl, HPp6.out, by omega, HCp6.out, HFp6.out.grown⟩
end Go.Proofs.YtcgjnonlndaoeaaGreatDoor

/- The reference's draws for coverings. -/
namespace Go.Proofs.YtcgjnonlndaoeaaGreatDoor
open Go.RowKit
set_option linter.unusedVariables false
attribute [local go_sem ↓] Go.wp_at_zero Go.wp_at_succ

theorem bel_rowO {w X w2 : World} {row : Option Nat} (h : Below w.heap.size w X) (k : X.grownBy w2 row) : w.grownBy w2 row :=
  ⟨k.os.trans h.os, k.tape.trans h.tape, k.output.trans h.output, Nat.le_trans h.size k.size, fun b hb hn => (k.block b (Nat.lt_of_lt_of_le hb h.size) hn).trans (h.block b hb)⟩
theorem PcF.baseO {base base' : Nat} {w : World} {B : Option Addr} {q cB : Nat} {hs : List H} {P : List (List C)} (h : PcF base w B q cB hs P) (hb : base' ≤ base) : PcF base' w B q cB hs P :=
  ⟨own_base h.own hb, h.len, h.row, fun x hx b e => Nat.le_trans hb (h.low x hx b e), h.off⟩
theorem totC_le70O {base : Nat} {w : World} {B : Option Addr} {q cB : Nat} {hs : List H} {P : List (List C)} (h : PcF base w B q cB hs P) (hq : q ≤ 5) : totC P ≤ 350 := by
  have h1 := totC_leP (m := 70) P (fun f hf => by
    obtain ⟨k, hk, rfl⟩ := List.getElem_of_mem hf
    exact (h.row k (by rw [h.len]; exact hk) hk).2.1)
  have h2 := h.qlen
  have h3 := h.len
  have : 70 * P.length ≤ 350 := by omega
  omega
/-- A region and pieces were drawn. -/
def RetRO (w : World) (e : Ending) (w' : World) : Prop :=
  ∃ (W : Int) (k : Nat) (D : Option Addr) (cD : Nat) (rows : List Int) (B : Option Addr) (q cB : Nat) (hs : List H) (P : List (List C)), e = .returned (.tuple #[.agg #[.int .i64 W, .slice D k cD], .slice B q cB]) ∧ Rd w' D (vI rows) ∧ rows.length = k ∧ k ≤ 9 ∧ (∀ b, ob D = some b → w.heap.size < b) ∧ PcF (w.heap.size + 1) w' B q cB hs P ∧ q ≤ 5 ∧ Below w.heap.size w w'
set_option maxRecDepth 100000 in
set_option maxHeartbeats 3200000 in
theorem l20Region_s (A : Option Addr) (n c g : Nat) (bs : List UInt8) (w : World) (hc : Cur w g A n c bs) (hn : n ≤ 1048576) :
    Calls Tryz.prog 78 #[.pointer (some ⟨g, 0, none⟩)] w (RetRgA w g A n c bs) := by
  have hgl : g < w.heap.size := by obtain ⟨i, x, hi, hB⟩ := hc.blk; exact hB.lt
  have hAb : 0 < n → ∀ b, ob A = some b → b < w.heap.size := fun h0 b e => by
    obtain ⟨gb, off, hA, hgb, _⟩ := RdB.at_ hc.rd (show 0 < bs.length by rw [hc.len]; exact h0)
    subst hA
    simp only [ob, Option.map_some, Option.some.injEq] at e
    omega
  have HAB : Hid (0 < n → ∀ b, ob A = some b → w.heap.size ≤ b → False) := fun h0 b e h => by have := hAb h0 b e; omega
  clear hAb
  have hBZ := Blk.new w 29 #[.int .i64 0, .slice none 0 0]
  have hF0 := (FrG.refl w.heap.size g w).below (bel_alloc (Below.refl _ _) (.cells #[.int .i64 0, .slice none 0 0] 29)) (Nat.le_refl _)
  have hC0 := hc.below (bel_alloc (Below.refl _ _) (.cells #[.int .i64 0, .slice none 0 0] 29))
  obtain ⟨w1, hw1⟩ : ∃ w1, w.alloc (.cells #[.int .i64 0, .slice none 0 0] 29) = w1 := ⟨_, rfl⟩
  have hsz1 : w1.heap.size = w.heap.size + 1 := by rw [← hw1]; simp
  rw [hw1] at hBZ hF0 hC0
  have HW1 := Lib.hid hw1
  have HSZ1 := Lib.hid hsz1
  have HBZ := Lib.hid hBZ
  have HF0 := Lib.hid hF0
  have HC0 := Lib.hid hC0
  clear hBZ hF0 hC0 hw1 hsz1 hc
  go_enter Tryz.func78, Tryz.ntmps78
  go_wp2_with fail
  rw [HW1.out]
  clear HW1
  go_wp2_with fail
  refine (l1Once_s A n c g 10 bs w1 HC0.out hn (by omega) (by omega)).mono ?_
  rintro e w2 ⟨o, rfl, hc2, hg2⟩
  have HC2 := Lib.hid hc2
  have HF2 := Lib.hid (HF0.out.draw hg2 (by have := HSZ1.out; omega))
  have HZ2 := Lib.hid (HBZ.out.grown hg2 (fun e => by injection e with e; omega))
  have hs2 : w.heap.size + 1 ≤ w2.heap.size := by have := hg2.size; have := HSZ1.out; omega
  clear hc2 hg2 HC0 HF0 HBZ
  cases o with
  | true =>
    go_wp2_with fail
    refine (l6Any_s A n c g bs w2 HC2.out hn).mono ?_
    rintro e w3 ⟨W, k, D, cD, rows, rfl, hO, hk9, hc3, hg3⟩
    have HO3 := Lib.hid hO
    have HC3 := Lib.hid hc3
    have HF3 := Lib.hid (HF2.out.draw hg3 (by omega))
    have HZ3 := Lib.hid (HZ2.out.grown hg3 (fun e => by injection e with e; omega))
    have z0 : w3.cell? ⟨w.heap.size, 0, none⟩ = some (.int .i64 0) := by simpa using HZ3.out.cell 0
    have z1 : w3.cell? ⟨w.heap.size, 1, none⟩ = some (.slice none 0 0) := by simpa using HZ3.out.cell 1
    have g0 := HZ3.out.frozen 0
    have g1 := HZ3.out.frozen 1
    have zl := HZ3.out.lt
    have hs3 := hg3.size
    clear hO hc3 hg3 HC2 HF2 HZ2
    have hD := (HZ3.out.set_ 0 (.int .i64 W)).set_ 1 (.slice D k cD)
    have e0 : ((w3.setCell ⟨w.heap.size, 0, none⟩ (.int .i64 W)).setCell ⟨w.heap.size, 1, none⟩ (.slice D k cD)).cell? ⟨w.heap.size, 0, none⟩ = some (.int .i64 W) := by simpa using hD.cell 0
    have e1 : ((w3.setCell ⟨w.heap.size, 0, none⟩ (.int .i64 W)).setCell ⟨w.heap.size, 1, none⟩ (.slice D k cD)).cell? ⟨w.heap.size, 1, none⟩ = some (.slice D k cD) := by simpa using hD.cell 1
    have E0 := Lib.hid e0
    have E1 := Lib.hid e1
    clear hD e0 e1
    go_wp2_with fail
    have e0 := E0.out
    have e1 := E1.out
    have ne : ∀ b, ob D = some b → b ≠ w.heap.size := fun b e => by have := (own_lt HO3.out b e).1; omega
    have gz : w3.grownBy ((w3.setCell ⟨w.heap.size, 0, none⟩ (.int .i64 W)).setCell ⟨w.heap.size, 1, none⟩ (.slice D k cD)) (some w.heap.size) := grown_set (p := ⟨w.heap.size, 1, none⟩) (grown_set (p := ⟨w.heap.size, 0, none⟩) (World.grownBy.refl _ _) rfl _) rfl _
    exact bodyPost_ret (v := .agg #[.int .i64 W, .slice D k cD]) (by simp [results, Tryz.results78, go_sem, e0, e1]) rfl
      ⟨W, k, D, cD, rows, rfl, own_set (own_set (own_base HO3.out (by omega)) ne _) ne _, by omega, HC3.out.row gz (fun b e => by injection e with e; omega) (fun h0 b e r => HAB.out h0 b r (by injection e with e; omega)), (HF3.out.row gz (by omega) (fun b e => by injection e with e; omega)).grown⟩
  | false =>
    go_wp2_with fail
    refine (l6Draw_s A n c g 3 bs w2 HC2.out hn (by omega) (by omega)).mono ?_
    rintro e w3 ⟨m, k, D, cD, rows, rfl, hO, hm1, hm6, hk1, hk6, hc3, hg3⟩
    obtain ⟨W, hW⟩ : ∃ W : Int, (m : Int) = W := ⟨_, rfl⟩
    rw [hW]
    clear hW
    have HO3 := Lib.hid hO
    have HC3 := Lib.hid hc3
    have HF3 := Lib.hid (HF2.out.draw hg3 (by omega))
    have HZ3 := Lib.hid (HZ2.out.grown hg3 (fun e => by injection e with e; omega))
    have z0 : w3.cell? ⟨w.heap.size, 0, none⟩ = some (.int .i64 0) := by simpa using HZ3.out.cell 0
    have z1 : w3.cell? ⟨w.heap.size, 1, none⟩ = some (.slice none 0 0) := by simpa using HZ3.out.cell 1
    have g0 := HZ3.out.frozen 0
    have g1 := HZ3.out.frozen 1
    have zl := HZ3.out.lt
    have hs3 := hg3.size
    clear hO hc3 hg3 HC2 HF2 HZ2
    have hD := (HZ3.out.set_ 0 (.int .i64 W)).set_ 1 (.slice D k cD)
    have e0 : ((w3.setCell ⟨w.heap.size, 0, none⟩ (.int .i64 W)).setCell ⟨w.heap.size, 1, none⟩ (.slice D k cD)).cell? ⟨w.heap.size, 0, none⟩ = some (.int .i64 W) := by simpa using hD.cell 0
    have e1 : ((w3.setCell ⟨w.heap.size, 0, none⟩ (.int .i64 W)).setCell ⟨w.heap.size, 1, none⟩ (.slice D k cD)).cell? ⟨w.heap.size, 1, none⟩ = some (.slice D k cD) := by simpa using hD.cell 1
    have E0 := Lib.hid e0
    have E1 := Lib.hid e1
    clear hD e0 e1
    go_wp2_with fail
    have e0 := E0.out
    have e1 := E1.out
    have ne : ∀ b, ob D = some b → b ≠ w.heap.size := fun b e => by have := (own_lt HO3.out b e).1; omega
    have gz : w3.grownBy ((w3.setCell ⟨w.heap.size, 0, none⟩ (.int .i64 W)).setCell ⟨w.heap.size, 1, none⟩ (.slice D k cD)) (some w.heap.size) := grown_set (p := ⟨w.heap.size, 1, none⟩) (grown_set (p := ⟨w.heap.size, 0, none⟩) (World.grownBy.refl _ _) rfl _) rfl _
    exact bodyPost_ret (v := .agg #[.int .i64 W, .slice D k cD]) (by simp [results, Tryz.results78, go_sem, e0, e1]) rfl
      ⟨W, k, D, cD, rows, rfl, own_set (own_set (own_base HO3.out (by omega)) ne _) ne _, by omega, HC3.out.row gz (fun b e => by injection e with e; omega) (fun h0 b e r => HAB.out h0 b r (by injection e with e; omega)), (HF3.out.row gz (by omega) (fun b e => by injection e with e; omega)).grown⟩
set_option maxRecDepth 100000 in
set_option maxHeartbeats 3200000 in
theorem l20Both_s (A : Option Addr) (n c : Nat) (bs : List UInt8) (w : World) (hr : Rd w A (vB bs)) (hl : bs.length = n) (hn : n ≤ 1048576) :
    Calls Tryz.prog 53 #[.slice A n c] w (RetRO w) := by
  have hBZ := Blk.new w 29 #[.int .i64 0, .slice none 0 0]
  have hb0 := bel_alloc (Below.refl w.heap.size w) (.cells #[.int .i64 0, .slice none 0 0] 29)
  have hr0 := hr.below hb0
  obtain ⟨w1, hw1⟩ : ∃ w1, w.alloc (.cells #[.int .i64 0, .slice none 0 0] 29) = w1 := ⟨_, rfl⟩
  have hsz1 : w1.heap.size = w.heap.size + 1 := by rw [← hw1]; simp
  rw [hw1] at hBZ hb0 hr0
  have HW1 := Lib.hid hw1
  have HSZ1 := Lib.hid hsz1
  have HBZ := Lib.hid hBZ
  have HB0 := Lib.hid hb0
  have HR0 := Lib.hid hr0
  have HL := Lib.hid hl
  clear hBZ hb0 hw1 hsz1 hr hr0 hl
  go_enter Tryz.func53, Tryz.ntmps53
  go_wp2_with fail
  rw [HW1.out]
  clear HW1
  go_wp2_with fail
  refine (l1New_s A n c bs w1 HR0.out HL.out hn).mono ?_
  rintro e w2 ⟨g, rfl, hc, hg, hb2⟩
  have HC := Lib.hid hc
  have HB2 := Lib.hid (bel_trans HB0.out hb2)
  have HZ2 := Lib.hid (HBZ.out.below hb2)
  have hgl : g < w2.heap.size := by obtain ⟨i, x, hi, hB⟩ := hc.blk; exact hB.lt
  have hgz : w.heap.size < g := by have := HSZ1.out; omega
  have hs2 := HB2.out.size
  clear hc hb2 HR0 HBZ HB0 hg HSZ1
  go_wp2_with fail
  refine (l20Region_s A n c g bs w2 HC.out hn).mono ?_
  rintro e w3 ⟨W, k, D, cD, rows, rfl, hO, hk9, hc3, hg3⟩
  have ba := bel_alloc (Below.refl w3.heap.size w3) (.cells #[.int .i64 W, .slice D k cD] 29)
  have HRL := Lib.hid (by have h1 := own_len hO; rw [vI_length] at h1; omega : rows.length = k)
  have HN4 := Lib.hid (Blk.new w3 29 #[.int .i64 W, .slice D k cD])
  have HO4 := Lib.hid (own_keep hO ba)
  have HB4 := Lib.hid (bel_trans (bel_grown HB2.out hg3 (fun b e => by injection e with e; omega)) ba)
  have HC4 := Lib.hid (hc3.below ba)
  have HZ4 := Lib.hid ((HZ2.out.grown hg3 (fun e => by injection e with e; omega)).below ba)
  have hs3 := hg3.size
  obtain ⟨w4, hw4⟩ : ∃ w4, w3.alloc (.cells #[.int .i64 W, .slice D k cD] 29) = w4 := ⟨_, rfl⟩
  have hs4 : w4.heap.size = w3.heap.size + 1 := by rw [← hw4]; simp
  rw [hw4] at HN4 HO4 HB4 HC4 HZ4
  have HW4 := Lib.hid hw4
  have HS4 := Lib.hid hs4
  clear ba hw4 hs4 hO hc3 hg3 HC HZ2 HB2
  go_upto_region 3 with fail
  rw [HW4.out]
  clear HW4
  have c0 : w4.cell? ⟨w3.heap.size, 0, none⟩ = some (.int .i64 W) := by simpa using HN4.out.cell 0
  have c1 : w4.cell? ⟨w3.heap.size, 1, none⟩ = some (.slice D k cD) := by simpa using HN4.out.cell 1
  have cl := HN4.out.lt
  obtain ⟨gr, hgr⟩ : ∃ gr, w3.heap.size = gr := ⟨_, rfl⟩
  rw [hgr] at HN4 c0 c1 cl hs3 HS4 ⊢
  clear hgr
  have hne1 : gr ≠ w.heap.size := by omega
  have hgr4 : g < w4.heap.size := by have := HS4.out; omega
  go_region_with (go_at_call 79; refine (l7Pieces_s A n c g bs _ (HC4.out.below (bel_drew (Below.refl _ _))) hn).mono ?_; rintro e w10 ⟨B, q, cB, hs, P, rfl, hP10, hq10, hc10, hg10⟩; have HG10 := Lib.hid (bel_rowO (w := w4) (bel_drew (Below.refl _ _)) hg10); have HP10 := Lib.hid hP10; have HO10 := Lib.hid (own_keptD HO4.out HG10.out (fun b e r => by injection r with r; have := (own_lt HO4.out b e).1; omega)); have HN10 := Lib.hid (HN4.out.grown HG10.out (fun e => by injection e with e; omega)); have HZ10 := Lib.hid (HZ4.out.grown HG10.out (fun e => by injection e with e; omega)); have hs10 := HG10.out.size; clear hP10 hc10 hg10; have y0 : w10.cell? ⟨gr, 0, none⟩ = some (.int .i64 W) := (by simpa using HN10.out.cell 0); have y1 : w10.cell? ⟨gr, 1, none⟩ = some (.slice D k cD) := (by simpa using HN10.out.cell 1); have yl := HN10.out.lt; have x0 := HZ10.out.cell 0; have x1 := HZ10.out.cell 1; have f0 := HZ10.out.frozen 0; have f1 := HZ10.out.frozen 1; have xl := HZ10.out.lt)
  all_goals
    have ne : ∀ b, ob D = some b → b ≠ w.heap.size := fun b e => by have := (own_lt HO4.out b e).1; omega
    have gz : w10.grownBy ((w10.setCell ⟨w.heap.size, 0, none⟩ (.int .i64 W)).setCell ⟨w.heap.size, 1, none⟩ (.slice D k cD)) (some w.heap.size) := grown_set (p := ⟨w.heap.size, 1, none⟩) (grown_set (p := ⟨w.heap.size, 0, none⟩) (World.grownBy.refl _ _) rfl _) rfl _
    have GZ := Lib.hid gz
    have NE := Lib.hid ne
    have hZf := (HZ10.out.set_ 0 (.int .i64 W)).set_ 1 (.slice D k cD)
    have e0 : ((w10.setCell ⟨w.heap.size, 0, none⟩ (.int .i64 W)).setCell ⟨w.heap.size, 1, none⟩ (.slice D k cD)).cell? ⟨w.heap.size, 0, none⟩ = some (.int .i64 W) := by simpa using hZf.cell 0
    have e1 : ((w10.setCell ⟨w.heap.size, 0, none⟩ (.int .i64 W)).setCell ⟨w.heap.size, 1, none⟩ (.slice D k cD)).cell? ⟨w.heap.size, 1, none⟩ = some (.slice D k cD) := by simpa using hZf.cell 1
    have E0 := Lib.hid e0
    have E1 := Lib.hid e1
    clear hZf e0 e1 gz ne x0 x1 f0 f1
    go_wp2_with fail
    have e0 := E0.out
    have e1 := E1.out
    exact bodyPost_ret (v := .tuple #[.agg #[.int .i64 W, .slice D k cD], .slice B q cB]) (by simp [results, Tryz.results53, go_sem, e0, e1]) rfl
      ⟨W, k, D, cD, rows, B, q, cB, hs, P, rfl, Rd.of_own (own_set (own_set HO10.out NE.out _) NE.out _), HRL.out, hk9, fun b e => by have := (own_lt HO4.out b e).1; omega, (HP10.out.draw GZ.out (by have h : w4.drew.heap.size = w4.heap.size := rfl; omega)).baseO (by have h : w4.drew.heap.size = w4.heap.size := rfl; omega), hq10, bel_grown (bel_grown HB4.out HG10.out (fun b e => by injection e with e; omega)) GZ.out (fun b e => by injection e with e; omega)⟩
set_option maxRecDepth 100000 in
set_option maxHeartbeats 3200000 in
theorem DrawFewestCovering_s (A : Option Addr) (n c : Nat) (bs : List UInt8) (w : World) (hr : Rd w A (vB bs)) (hl : bs.length = n) (hn : n ≤ 1048576) :
    Calls Tryz.prog 22 #[.slice A n c] w (RetRO w) := by
  have hBZ := Blk.new w 29 #[.int .i64 0, .slice none 0 0]
  have hb0 := bel_alloc (Below.refl w.heap.size w) (.cells #[.int .i64 0, .slice none 0 0] 29)
  have hr0 := hr.below hb0
  obtain ⟨w1, hw1⟩ : ∃ w1, w.alloc (.cells #[.int .i64 0, .slice none 0 0] 29) = w1 := ⟨_, rfl⟩
  have hsz1 : w1.heap.size = w.heap.size + 1 := by rw [← hw1]; simp
  rw [hw1] at hBZ hb0 hr0
  have HW1 := Lib.hid hw1
  have HSZ1 := Lib.hid hsz1
  have HBZ := Lib.hid hBZ
  have HB0 := Lib.hid hb0
  have HR0 := Lib.hid hr0
  have HL := Lib.hid hl
  clear hBZ hb0 hw1 hsz1 hr hr0 hl
  go_enter Tryz.func22, Tryz.ntmps22
  go_wp2_with fail
  rw [HW1.out]
  clear HW1
  go_wp2_with fail
  refine (l20Both_s A n c bs w1 HR0.out HL.out hn).mono ?_
  rintro e w3 ⟨W, k, D, cD, rows, B, q, cB, hs, P, rfl, hr3, hl3, hk9, hD, hP, hq, hb3⟩
  have HB3 := Lib.hid hb3
  have hs3 := HB3.out.size
  have H1 := Lib.hid hr3
  have H2 := Lib.hid hl3
  have H3 := Lib.hid hD
  have H4 := Lib.hid hP
  clear hr3 hl3 hD hP hb3
  have HZ3 := Lib.hid (HBZ.out.below HB3.out)
  have z0 : w3.cell? ⟨w.heap.size, 0, none⟩ = some (.int .i64 0) := by simpa using HZ3.out.cell 0
  have z1 : w3.cell? ⟨w.heap.size, 1, none⟩ = some (.slice none 0 0) := by simpa using HZ3.out.cell 1
  have g0 := HZ3.out.frozen 0
  have g1 := HZ3.out.frozen 1
  have zl := HZ3.out.lt
  have hD4 := ((HZ3.out.set_ 0 (.int .i64 W)).set_ 1 (.slice D k cD)).alloc (.cells #[.int .i64 W, .slice D k cD] 29)
  have e0 : (((w3.setCell ⟨w.heap.size, 0, none⟩ (.int .i64 W)).setCell ⟨w.heap.size, 1, none⟩ (.slice D k cD)).alloc (.cells #[.int .i64 W, .slice D k cD] 29)).cell? ⟨w.heap.size, 0, none⟩ = some (.int .i64 W) := by simpa using hD4.cell 0
  have e1 : (((w3.setCell ⟨w.heap.size, 0, none⟩ (.int .i64 W)).setCell ⟨w.heap.size, 1, none⟩ (.slice D k cD)).alloc (.cells #[.int .i64 W, .slice D k cD] 29)).cell? ⟨w.heap.size, 1, none⟩ = some (.slice D k cD) := by simpa using hD4.cell 1
  have gz : w3.grownBy ((w3.setCell ⟨w.heap.size, 0, none⟩ (.int .i64 W)).setCell ⟨w.heap.size, 1, none⟩ (.slice D k cD)) (some w.heap.size) := grown_set (p := ⟨w.heap.size, 1, none⟩) (grown_set (p := ⟨w.heap.size, 0, none⟩) (World.grownBy.refl _ _) rfl _) rfl _
  have HE0 := Lib.hid e0
  have HE1 := Lib.hid e1
  have HGZ := Lib.hid gz
  have HB4 := Lib.hid (bel_alloc (Below.refl _ ((w3.setCell ⟨w.heap.size, 0, none⟩ (.int .i64 W)).setCell ⟨w.heap.size, 1, none⟩ (.slice D k cD))) (.cells #[.int .i64 W, .slice D k cD] 29))
  clear e0 e1 gz hD4
  go_wp2_with fail
  have e0 := HE0.out
  have e1 := HE1.out
  exact bodyPost_ret (v := .tuple #[.agg #[.int .i64 W, .slice D k cD], .slice B q cB]) (by simp [results, Tryz.results22, go_sem, e0, e1]) rfl
    ⟨W, k, D, cD, rows, B, q, cB, hs, P, rfl, ((H1.out.grown HGZ.out (fun b e r => by injection r with r; have := H3.out b e; have := HSZ1.out; omega)).below HB4.out), H2.out, hk9, fun b e => by have := H3.out b e; have := HSZ1.out; omega, ((H4.out.draw HGZ.out (by have := HSZ1.out; omega)).below HB4.out).baseO (by have := HSZ1.out; omega), hq, bel_trans (bel_grown (bel_trans HB0.out HB3.out) HGZ.out (fun b e => by injection e with e; omega)) HB4.out⟩
end Go.Proofs.YtcgjnonlndaoeaaGreatDoor

/- A shape put into an ordered list, once: the reference. -/
namespace Go.Proofs.YtcgjnonlndaoeaaGreatDoor
open Go.RowKit
set_option linter.unusedVariables false
attribute [local go_sem ↓] Go.wp_at_zero Go.wp_at_succ

theorem infoF2 : (Tryz.prog.info? 59).map (fun i => (i.zero, i.size, i.bytes)) = some (some (.slice none 0 0), 1, 24) := by kernel_rfl
def offF2 (c k : Nat) : Nat := if c = k then 0 else k
theorem run_uptoF (w : World) (g m c k : Nat) (hk : k ≤ c) : (Instr.slice 31 (.slice (some ⟨g, 0, none⟩) m c) none (some (.int .i64 (k : Int))) none).run Tryz.prog w = .ok (.slice (some ⟨g, 0, none⟩) k c) w := by
  have h2 : (k : Int) ≤ (c : Int) := by omega
  simp [go_sem, h2]
theorem run_fromF2 (w : World) (g m c k : Nat) (hk : k ≤ m) : (Instr.slice 31 (.slice (some ⟨g, 0, none⟩) m c) (some (.int .i64 (k : Int))) none none).run Tryz.prog w = .ok (.slice (some ⟨g, offF2 c k, none⟩) (m - k) (c - k)) w := by
  have h1 : (0 : Int) ≤ (k : Int) := by omega
  have h2 : (k : Int) ≤ (m : Int) := by omega
  unfold offF2
  by_cases hc : c = k
  · subst hc
    simp [go_sem, h2]
  · simp [go_sem, h2, hc]
theorem Rd.fromF {w : World} {g c k m : Nat} {l : List H} (h : Rd w (some ⟨g, 0, none⟩) (vS l)) (hl : l.length = m) (hmc : m ≤ c) : Rd w (some ⟨g, offF2 c k, none⟩) (vS (l.drop k)) := by
  have h2 := Rd.drop h k c (by rw [vS_length]; omega)
  rw [show vS (l.drop k) = (vS l).drop k from by simp [vS]]
  unfold offF2
  split
  · next e => rw [if_pos e] at h2; exact h2
  · next e =>
    rw [if_neg e] at h2
    have e2 : (some ⟨g, 0, none⟩ : Option Addr).map (·.add k) = some ⟨g, k, none⟩ := by simp only [Option.map_some]; unfold Addr.add; split <;> simp_all
    rw [e2] at h2
    exact h2
theorem ins_rows2 {α β : Type} {hs : List α} {F : List β} {k : Nat} (hl : hs.length = F.length) (hk : k ≤ F.length) {x0 : α} {f : β} (i : Nat) (x : α) (y : β) (h1 : (hs.take k ++ [x0] ++ hs.drop k)[i]? = some x) (h2 : (F.take k ++ [f] ++ F.drop k)[i]? = some y) :
    (∃ j : Nat, hs[j]? = some x ∧ F[j]? = some y) ∨ (x = x0 ∧ y = f) := by
  have e1 : (hs.take k).length = k := by rw [List.length_take]; omega
  have e2 : (F.take k).length = k := by rw [List.length_take]; omega
  rw [List.append_assoc] at h1 h2
  rcases Nat.lt_trichotomy i k with h | h | h
  · rw [List.getElem?_append_left (by omega), List.getElem?_take_of_lt h] at h1 h2
    exact .inl ⟨i, h1, h2⟩
  · subst h
    rw [List.getElem?_append_right (by omega), e1, Nat.sub_self] at h1
    rw [List.getElem?_append_right (by omega), e2, Nat.sub_self] at h2
    simp at h1 h2
    exact .inr ⟨h1.symm, h2.symm⟩
  · obtain ⟨j, rfl⟩ : ∃ j, i = k + 1 + j := ⟨i - (k + 1), by omega⟩
    rw [List.getElem?_append_right (by omega), e1, show k + 1 + j - k = j + 1 from by omega] at h1
    rw [List.getElem?_append_right (by omega), e2, show k + 1 + j - k = j + 1 from by omega] at h2
    simp only [List.singleton_append, List.getElem?_cons_succ, List.getElem?_drop] at h1 h2
    exact .inl ⟨_, h1, h2⟩
theorem cmpS_lt (s t : List C) : decide (cmpS s t < 0) = ltS s t := by
  have := cmpS_neg s t
  cases h : ltS s t with
  | true =>
    unfold cmpS
    rw [h]
    rfl
  | false =>
    unfold cmpS
    rw [h]
    simp only [Bool.false_eq_true, if_false]
    split <;> rfl
/-- The list with the shape put in: nothing that was there has turned. -/
def PutS (base : Nat) (w : World) (F : List (List C)) (e : Ending) (w' : World) : Prop :=
  ∃ g n c hs, e = .returned (.slice (some ⟨g, 0, none⟩) n c) ∧ OwnF base w' (some ⟨g, 0, none⟩) n c hs F ∧ Below w.heap.size w w'
set_option maxRecDepth 100000 in
set_option maxHeartbeats 3200000 in
theorem l3Put_s (g m cp : Nat) (hs : List H) (F : List (List C)) (B : Option Addr) (mb d : Nat) (f : List C) (base : Nat) (w : World) (ho : OwnF base w (some ⟨g, 0, none⟩) m cp hs F) (hf : CRow w (B, mb, d) f)
    (hl : ∀ x ∈ F, x.length ≤ 1048576) (hmb : mb ≤ 1048576) (hm : m ≤ 1073741824) (hb0 : base ≤ w.heap.size) :
    Calls Tryz.prog 107 #[.slice (some ⟨g, 0, none⟩) m cp, .slice B mb d] w (PutS base w (putG ltS F f)) := by
  have hmc : m ≤ cp ∧ cp ≤ 9223372036854775807 := by
    rcases ho.own.2 with ⟨h, _⟩ | ⟨g', cap, cur, hv, _, _, h1, h2, _⟩
    · cases h
    · injection hv with _ _ h3
      unfold maxLen at h2
      omega
  obtain ⟨hmc1, hmc2⟩ := hmc
  have hcm : cutG ltS F f F.length = cutG ltS F f m := by rw [ho.flen]
  have HIN : Hid (∀ k', cutG ltS F f m = k' → ¬ (0 < k' ∧ F.getD (k' - 1) default = f) → putG ltS F f = F.take k' ++ [f] ++ F.drop k') := fun k' h1 h2 => putG_new (hcm.trans h1) h2
  have HSM : Hid (∀ k', cutG ltS F f m = k' → 0 < k' → F.getD (k' - 1) default = f → putG ltS F f = F) := fun k' h1 h2 h3 => putG_same (hcm.trans h1) h2 h3
  have HO := Lib.hid ho
  have HF := Lib.hid hf
  have HL := Lib.hid hl
  have HFL := Lib.hid ho.flen
  clear ho hf hl hcm
  go_enter Tryz.func107, Tryz.ntmps107
  go_wp2
  go_loopw [5] (fun e5 wr => ∃ k : Nat, k ≤ m ∧ e5 = .int .i64 k ∧ cutG ltS F f m = cutG ltS F f k ∧ Below w.heap.size w wr) (fun e5 _ => (intOf e5).toNat)
  case atStart => exact ⟨m, Nat.le_refl _, rfl, rfl, Below.refl _ _⟩
  case round =>
    obtain ⟨k, hk, rfl, hcut, hb⟩ := hrel
    have HCUT := Lib.hid hcut
    clear hcut
    by_cases hk0 : 0 < k
    · obtain ⟨j, hjk⟩ : ∃ j, k = j + 1 := ⟨k - 1, by omega⟩
      obtain ⟨x, t, g', off, hsx, hfx, he, hg, c1, hrow⟩ := (HO.out.below hb).rd.at_ (show j < m by omega)
      simp only [Option.some.injEq, Addr.mk.injEq, and_true] at he
      obtain ⟨rfl, rfl⟩ := he
      rw [Nat.zero_add] at c1
      have hgd : F.getD j default = t := by rw [List.getD_eq_getElem?_getD, hfx]; rfl
      have htl := HL.out t (List.mem_of_getElem? hfx)
      obtain ⟨C1, m1, k1⟩ := x
      have h1 : t.length = m1 := hrow.1
      have H1 := Lib.hid h1
      have HR := Lib.hid hrow
      have hm1 : m1 ≤ 1048576 := by omega
      have HG := Lib.hid hgd
      have hj1 : (k : Int) - 1 = (j : Int) := by omega
      have hj0 : (0 : Int) ≤ (j : Int) := by omega
      have hjw : IntKind.i64.wrap (j : Int) = (j : Int) := Go.IntWalk.i64_in _ (by omega)
      have hjm : (j : Int) < (m : Int) := by omega
      have hkp : (k : Int) > 0 := by omega
      have HJ := Lib.hid hjk
      dsimp only at c1
      clear hgd hsx hfx hrow h1 htl hjk
      cases hlt : ltS f t with
      | true =>
        have HN : Hid (cutG ltS F f m = cutG ltS F f j) := by show _ = _; rw [HCUT.out, HJ.out]; show (if ltS f (F.getD j default) = true then _ else _) = _; rw [HG.out, if_pos hlt]
        have hcl := cmpS_lt f t
        obtain ⟨v, hv⟩ : ∃ v, cmpS f t = v := ⟨_, rfl⟩
        rw [hv, hlt] at hcl
        have hvl : v < 0 := by simpa using hcl
        have HV := Lib.hid hv
        clear hv hlt hcl
        go_wp2_with fail
        refine (CompareShapes_s B C1 mb d m1 k1 f t _ (HF.out.below hb).2.1 HR.out.2.1 HF.out.1 H1.out (by omega) (by omega)).mono ?_
        rw [HV.out]
        rintro e w1 ⟨rfl, hb1⟩
        go_wp2_with fail
        exact ⟨⟨j, by omega, rfl, HN.out, bel_trans hb hb1⟩, by simp [intOf]; have := HJ.out; omega⟩
      | false =>
        have HN : Hid (cutG ltS F f m = k) := by show _ = _; rw [HCUT.out, HJ.out]; show (if ltS f (F.getD j default) = true then _ else _) = _; rw [HG.out, if_neg (by rw [hlt]; simp)]
        have hcl := cmpS_lt f t
        obtain ⟨v, hv⟩ : ∃ v, cmpS f t = v := ⟨_, rfl⟩
        rw [hv, hlt] at hcl
        have hvl : ¬ v < 0 := by simpa using hcl
        have HVV := Lib.hid hv
        clear hv hlt
        by_cases htf : t = f
        · have HV := Lib.hid (HSM.out k HN.out hk0 (by rw [show k - 1 = j from by have := HJ.out; omega, HG.out, htf]))
          have HD : Hid (decide (t = f) = true) := decide_eq_true htf
          clear htf
          go_wp2_with fail
          refine (CompareShapes_s B C1 mb d m1 k1 f t _ (HF.out.below hb).2.1 HR.out.2.1 HF.out.1 H1.out (by omega) (by omega)).mono ?_
          rw [HVV.out]
          rintro e w1 ⟨rfl, hb1⟩
          have c2 := (hb1.cell hg).trans c1
          have hg2 : g < w1.heap.size := Nat.lt_of_lt_of_le hg hb1.size
          clear c1
          go_wp2_with fail
          refine (EqualShapes_s C1 B m1 k1 mb d t f _ (HR.out.below hb1).2.1 ((HF.out.below hb).below hb1).2.1 H1.out HF.out.1 (by omega) (by omega)).mono ?_
          rw [HD.out]
          rintro e w2 ⟨rfl, hb2⟩
          go_wp2_with fail
          go_ret
          exact ⟨g, m, cp, hs, rfl, by rw [HV.out]; exact HO.out.below (bel_trans hb (bel_trans hb1 hb2)), bel_trans hb (bel_trans hb1 hb2)⟩
        · have HV := Lib.hid (HIN.out k HN.out (fun h => htf (by have := h.2; rw [show k - 1 = j from by have := HJ.out; omega, HG.out] at this; exact this)))
          have HD : Hid (decide (t = f) = false) := decide_eq_false htf
          clear htf
          go_wp2_with fail
          refine (CompareShapes_s B C1 mb d m1 k1 f t _ (HF.out.below hb).2.1 HR.out.2.1 HF.out.1 H1.out (by omega) (by omega)).mono ?_
          rw [HVV.out]
          rintro e w1 ⟨rfl, hb1⟩
          have c2 := (hb1.cell hg).trans c1
          have hg2 : g < w1.heap.size := Nat.lt_of_lt_of_le hg hb1.size
          clear c1
          go_wp2_with fail
          refine (EqualShapes_s C1 B m1 k1 mb d t f _ (HR.out.below hb1).2.1 ((HF.out.below hb).below hb1).2.1 H1.out HF.out.1 (by omega) (by omega)).mono ?_
          rw [HD.out]
          rintro e w2 ⟨rfl, hb2⟩
          have hbb : Below w.heap.size w w2 := bel_trans hb (bel_trans hb1 hb2)
          clear c2
          obtain ⟨i0, hi, hz0, hz1, hz2⟩ := info_parts infoF2
          have hs1 : ∀ w', (Instr.slice 31 (.slice (some ⟨g, 0, none⟩) m cp) none (some (.int .i64 (k : Int))) none).run Tryz.prog w' = .ok (.slice (some ⟨g, 0, none⟩) k cp) w' := fun w' => run_uptoF w' g m cp k (by omega)
          have hs2 : ∀ w', (Instr.slice 31 (.slice (some ⟨g, 0, none⟩) m cp) (some (.int .i64 (k : Int))) none none).run Tryz.prog w' = .ok (.slice (some ⟨g, offF2 cp k, none⟩) (m - k) (cp - k)) w' := fun w' => run_fromF2 w' g m cp k (by omega)
          have R2 : Hid (Rd w2 (some ⟨g, offF2 cp k, none⟩) (vS (hs.drop k))) := Rd.fromF (Rd.of_own (HO.out.below hbb).own) (HO.out.hlen) (by omega)
          have R1 : Hid (Rd w2 (some ⟨g, 0, none⟩) (vS (hs.take k))) := by
            show Rd _ _ _
            rw [show vS (hs.take k) = (vS hs).take k from by simp [vS]]
            exact Rd.take (Rd.of_own (HO.out.below hbb).own) _
          have L1 : Hid ((hs.take k).length = k) := by show (hs.take k).length = k; rw [List.length_take, HO.out.hlen]; omega
          have L2 : Hid ((hs.drop k).length = m - k) := by show (hs.drop k).length = m - k; rw [List.length_drop, HO.out.hlen]
          have HB := Lib.hid hbb
          have HI := Lib.hid hi
          have HZ0 := Lib.hid hz0
          have HZ1 := Lib.hid hz1
          have HZ2 := Lib.hid hz2
          clear hi hz0 hz1 hz2
          go_wp2_with fail
          refine wp_region_rg 13 rfl (by kernel_rfl) ?_
          (refine rgT (i := 1) (v := ?_) rfl rfl (by kernel_rfl) (by kernel_rfl) (by kernel_rfl) (by rfl) (fun w' hcw => ?_) ?_; rotate_left; ((try dsimp only at hcw); have hbc := hcw.cells; go_simp; first | done | with_reducible rfl); simp only [List.setIfInBounds_toArray, List.set_cons_zero, List.set_cons_succ])
          (refine rgT (i := 2) (v := ?_) rfl rfl (by kernel_rfl) (by kernel_rfl) (by kernel_rfl) (by rfl) (fun w' hcw => ?_) ?_; rotate_left; ((try dsimp only at hcw); have hbc := hcw.cells; go_simp; first | done | with_reducible rfl); simp only [List.setIfInBounds_toArray, List.set_cons_zero, List.set_cons_succ])
          (refine rgT (i := 3) (v := ?_) rfl rfl (by kernel_rfl) (by kernel_rfl) (by kernel_rfl) (by rfl) (fun w' hcw => ?_) ?_; rotate_left; ((try dsimp only at hcw); have hbc := hcw.cells; go_simp; first | done | with_reducible rfl); simp only [List.setIfInBounds_toArray, List.set_cons_zero, List.set_cons_succ])
          (refine rgT (i := 5) (v := ?_) rfl rfl (by kernel_rfl) (by kernel_rfl) (by kernel_rfl) (by rfl) (fun w' hcw => ?_) ?_; rotate_left; ((try dsimp only at hcw); have hbc := hcw.cells; go_simp; first | done | with_reducible rfl); simp only [List.setIfInBounds_toArray, List.set_cons_zero, List.set_cons_succ])
          (refine rgT (i := 8) (v := ?_) rfl rfl (by kernel_rfl) (by kernel_rfl) (by kernel_rfl) (by rfl) (fun w' hcw => ?_) ?_; rotate_left; ((try dsimp only at hcw); have hbc := hcw.cells; go_simp; first | done | with_reducible rfl); simp only [List.setIfInBounds_toArray, List.set_cons_zero, List.set_cons_succ])
          (refine rgT (i := 9) (v := ?_) rfl rfl (by kernel_rfl) (by kernel_rfl) (by kernel_rfl) (by rfl) (fun w' hcw => ?_) ?_; rotate_left; ((try dsimp only at hcw); have hbc := hcw.cells; go_simp; first | done | with_reducible rfl); simp only [List.setIfInBounds_toArray, List.set_cons_zero, List.set_cons_succ])
          (refine rgT (i := 10) (v := ?_) rfl rfl (by kernel_rfl) (by kernel_rfl) (by kernel_rfl) (by rfl) (fun w' hcw => ?_) ?_; rotate_left; ((try dsimp only at hcw); have hbc := hcw.cells; go_simp; first | done | with_reducible rfl); simp only [List.setIfInBounds_toArray, List.set_cons_zero, List.set_cons_succ])
          refine ins_tail (T := 31) (e := 59) (i := i0) (z := .slice none 0 0) (size := 1) (bytes := 24) (i0 := 0) (iA := 4) (iN := 6) (iB := 7) (iD := 11) (iE := 12) (s0 := 34) (sA := 38) (sN := 40) (sB := 41) (sD := 45) (dE := 4) (t1 := 37) (t2 := 44) (xn := .tmp 39) (vn := .slice B mb d) (news := vS [(B, mb, d)]) (vs1 := vS (hs.take k)) (vs2 := vS (hs.drop k)) (A1 := some ⟨g, 0, none⟩) (m1 := k) (c1 := cp) (A2 := some ⟨g, offF2 cp k, none⟩) (m2 := m - k) (c2 := cp - k) _ ?ht ?hi ?hz ?h1 ?h2 rfl (by omega) ⟨⟨_, rfl, rfl, rfl, fun a w => ?p0⟩, ⟨_, rfl, rfl, rfl, rfl⟩, ⟨_, rfl, rfl, rfl, fun a w h => ?pN⟩, ⟨_, rfl, rfl, rfl, rfl⟩, ⟨_, rfl, rfl, rfl, rfl⟩, ⟨_, rfl, rfl, rfl, rfl⟩⟩ ⟨by simp, by decide, by decide, by decide⟩ (fun a h => (h.eval (by decide)).trans rfl) (by kernel_rfl) (by kernel_rfl) (by kernel_rfl) (by kernel_rfl) (by kernel_rfl) (by decide) (by decide) (by kernel_rfl) (by kernel_rfl) (by kernel_rfl) (by kernel_rfl) rfl ?q1 ?l1 ?o1 rfl ?q2 ?l2 ?o2 ?ln ?on ?hm ?hb ?hQ
          case ht => exact Tryz.underlying31
          case hi => exact HI.out
          case hz => exact HZ0.out
          case h1 => exact HZ1.out
          case h2 => exact HZ2.out
          case p0 => simp [go_sem, execOp]
          case pN => (generalize Act.eval a = ρ at h ⊢; simp [go_sem, execOp, h, vS, hd])
          case q1 => exact R1.out
          case l1 => rw [vS_length, L1.out] <;> omega
          case o1 => exact vS_one _
          case q2 => exact R2.out
          case l2 => rw [vS_length, L2.out] <;> omega
          case o2 => exact vS_one _
          case ln => rfl
          case on => exact vS_one _
          case hm => omega
          case hb => omega
          case hQ =>
            intro a' w' A' c' hfr hev how hex
            obtain ⟨v0, vA, vN, vB, vD, rfl⟩ := hfr.form hev
            rw [← vS_append, ← vS_append] at how
            obtain ⟨g', rfl, _, _⟩ := own_at how (by omega)
            have HOW := Lib.hid (own_base (base' := base) how (Nat.le_trans hb0 HB.out.size))
            clear how hev hfr
            refine NoPanic.normal ?_
            simp only [List.setIfInBounds_toArray, List.set_cons_zero, List.set_cons_succ]
            go_wp2
            go_ret
            refine ⟨g', k + 1 + (m - k), c', hs.take k ++ [(B, mb, d)] ++ hs.drop k, rfl, ⟨HOW.out, ?_, ?_⟩, bel_trans HB.out hex⟩
            · rw [HV.out]; simp only [List.length_append, List.length_take, List.length_drop, List.length_cons, List.length_nil, HFL.out]; omega
            · intro i x t h1 h2
              rw [HV.out] at h2
              rcases ins_rows2 (by rw [HO.out.hlen, HFL.out]) (by rw [HFL.out]; exact hk) i x t h1 h2 with ⟨j, h3, h4⟩ | ⟨h3, h4⟩
              · exact ((HO.out.row j x t h3 h4).below HB.out).below hex
              · subst h3 h4
                exact (HF.out.below HB.out).below hex
    · obtain rfl : k = 0 := by omega
      have HN : Hid (cutG ltS F f m = 0) := HCUT.out
      have HV := Lib.hid (HIN.out 0 HN.out (fun h => absurd h.1 (by omega)))
      obtain ⟨k, hkz⟩ : ∃ k : Nat, 0 = k := ⟨0, rfl⟩
      have hkp : ¬ 0 < k := by omega
      have hkp2 : decide (0 < k) = false := by simp; omega
      have HKZ := Lib.hid hkz
      rw [hkz] at HV hk
      rw [show ((0 : Nat) : Int) = (k : Int) from by rw [hkz]]
      clear hkz hk0
      obtain ⟨i0, hi, hz0, hz1, hz2⟩ := info_parts infoF2
      have hs1 : ∀ w', (Instr.slice 31 (.slice (some ⟨g, 0, none⟩) m cp) none (some (.int .i64 (k : Int))) none).run Tryz.prog w' = .ok (.slice (some ⟨g, 0, none⟩) k cp) w' := fun w' => run_uptoF w' g m cp k (by omega)
      have hs2 : ∀ w', (Instr.slice 31 (.slice (some ⟨g, 0, none⟩) m cp) (some (.int .i64 (k : Int))) none none).run Tryz.prog w' = .ok (.slice (some ⟨g, offF2 cp k, none⟩) (m - k) (cp - k)) w' := fun w' => run_fromF2 w' g m cp k (by omega)
      have R2 : Hid (Rd wr (some ⟨g, offF2 cp k, none⟩) (vS (hs.drop k))) := Rd.fromF (Rd.of_own (HO.out.below hb).own) (HO.out.hlen) (by omega)
      have R1 : Hid (Rd wr (some ⟨g, 0, none⟩) (vS (hs.take k))) := by
        show Rd _ _ _
        rw [show vS (hs.take k) = (vS hs).take k from by simp [vS]]
        exact Rd.take (Rd.of_own (HO.out.below hb).own) _
      have L1 : Hid ((hs.take k).length = k) := by show (hs.take k).length = k; rw [List.length_take, HO.out.hlen]; omega
      have L2 : Hid ((hs.drop k).length = m - k) := by show (hs.drop k).length = m - k; rw [List.length_drop, HO.out.hlen]
      have HB := Lib.hid hb
      have HI := Lib.hid hi
      have HZ0 := Lib.hid hz0
      have HZ1 := Lib.hid hz1
      have HZ2 := Lib.hid hz2
      clear hi hz0 hz1 hz2
      go_wp2_with fail
      refine wp_region_rg 13 rfl (by kernel_rfl) ?_
      (refine rgT (i := 1) (v := ?_) rfl rfl (by kernel_rfl) (by kernel_rfl) (by kernel_rfl) (by rfl) (fun w' hcw => ?_) ?_; rotate_left; ((try dsimp only at hcw); have hbc := hcw.cells; go_simp; first | done | with_reducible rfl); simp only [List.setIfInBounds_toArray, List.set_cons_zero, List.set_cons_succ])
      (refine rgT (i := 2) (v := ?_) rfl rfl (by kernel_rfl) (by kernel_rfl) (by kernel_rfl) (by rfl) (fun w' hcw => ?_) ?_; rotate_left; ((try dsimp only at hcw); have hbc := hcw.cells; go_simp; first | done | with_reducible rfl); simp only [List.setIfInBounds_toArray, List.set_cons_zero, List.set_cons_succ])
      (refine rgT (i := 3) (v := ?_) rfl rfl (by kernel_rfl) (by kernel_rfl) (by kernel_rfl) (by rfl) (fun w' hcw => ?_) ?_; rotate_left; ((try dsimp only at hcw); have hbc := hcw.cells; go_simp; first | done | with_reducible rfl); simp only [List.setIfInBounds_toArray, List.set_cons_zero, List.set_cons_succ])
      (refine rgT (i := 5) (v := ?_) rfl rfl (by kernel_rfl) (by kernel_rfl) (by kernel_rfl) (by rfl) (fun w' hcw => ?_) ?_; rotate_left; ((try dsimp only at hcw); have hbc := hcw.cells; go_simp; first | done | with_reducible rfl); simp only [List.setIfInBounds_toArray, List.set_cons_zero, List.set_cons_succ])
      (refine rgT (i := 8) (v := ?_) rfl rfl (by kernel_rfl) (by kernel_rfl) (by kernel_rfl) (by rfl) (fun w' hcw => ?_) ?_; rotate_left; ((try dsimp only at hcw); have hbc := hcw.cells; go_simp; first | done | with_reducible rfl); simp only [List.setIfInBounds_toArray, List.set_cons_zero, List.set_cons_succ])
      (refine rgT (i := 9) (v := ?_) rfl rfl (by kernel_rfl) (by kernel_rfl) (by kernel_rfl) (by rfl) (fun w' hcw => ?_) ?_; rotate_left; ((try dsimp only at hcw); have hbc := hcw.cells; go_simp; first | done | with_reducible rfl); simp only [List.setIfInBounds_toArray, List.set_cons_zero, List.set_cons_succ])
      (refine rgT (i := 10) (v := ?_) rfl rfl (by kernel_rfl) (by kernel_rfl) (by kernel_rfl) (by rfl) (fun w' hcw => ?_) ?_; rotate_left; ((try dsimp only at hcw); have hbc := hcw.cells; go_simp; first | done | with_reducible rfl); simp only [List.setIfInBounds_toArray, List.set_cons_zero, List.set_cons_succ])
      refine ins_tail (T := 31) (e := 59) (i := i0) (z := .slice none 0 0) (size := 1) (bytes := 24) (i0 := 0) (iA := 4) (iN := 6) (iB := 7) (iD := 11) (iE := 12) (s0 := 34) (sA := 38) (sN := 40) (sB := 41) (sD := 45) (dE := 4) (t1 := 37) (t2 := 44) (xn := .tmp 39) (vn := .slice B mb d) (news := vS [(B, mb, d)]) (vs1 := vS (hs.take k)) (vs2 := vS (hs.drop k)) (A1 := some ⟨g, 0, none⟩) (m1 := k) (c1 := cp) (A2 := some ⟨g, offF2 cp k, none⟩) (m2 := m - k) (c2 := cp - k) _ ?ht ?hi ?hz ?h1 ?h2 rfl (by omega) ⟨⟨_, rfl, rfl, rfl, fun a w => ?p0⟩, ⟨_, rfl, rfl, rfl, rfl⟩, ⟨_, rfl, rfl, rfl, fun a w h => ?pN⟩, ⟨_, rfl, rfl, rfl, rfl⟩, ⟨_, rfl, rfl, rfl, rfl⟩, ⟨_, rfl, rfl, rfl, rfl⟩⟩ ⟨by simp, by decide, by decide, by decide⟩ (fun a h => (h.eval (by decide)).trans rfl) (by kernel_rfl) (by kernel_rfl) (by kernel_rfl) (by kernel_rfl) (by kernel_rfl) (by decide) (by decide) (by kernel_rfl) (by kernel_rfl) (by kernel_rfl) (by kernel_rfl) rfl ?q1 ?l1 ?o1 rfl ?q2 ?l2 ?o2 ?ln ?on ?hm ?hb ?hQ
      case ht => exact Tryz.underlying31
      case hi => exact HI.out
      case hz => exact HZ0.out
      case h1 => exact HZ1.out
      case h2 => exact HZ2.out
      case p0 => simp [go_sem, execOp]
      case pN => (generalize Act.eval a = ρ at h ⊢; simp [go_sem, execOp, h, vS, hd])
      case q1 => exact R1.out
      case l1 => rw [vS_length, L1.out] <;> omega
      case o1 => exact vS_one _
      case q2 => exact R2.out
      case l2 => rw [vS_length, L2.out] <;> omega
      case o2 => exact vS_one _
      case ln => rfl
      case on => exact vS_one _
      case hm => omega
      case hb => omega
      case hQ =>
        intro a' w' A' c' hfr hev how hex
        obtain ⟨v0, vA, vN, vB, vD, rfl⟩ := hfr.form hev
        rw [← vS_append, ← vS_append] at how
        obtain ⟨g', rfl, _, _⟩ := own_at how (by omega)
        have HOW := Lib.hid (own_base (base' := base) how (Nat.le_trans hb0 HB.out.size))
        clear how hev hfr
        refine NoPanic.normal ?_
        simp only [List.setIfInBounds_toArray, List.set_cons_zero, List.set_cons_succ]
        go_wp2
        go_ret
        refine ⟨g', k + 1 + (m - k), c', hs.take k ++ [(B, mb, d)] ++ hs.drop k, rfl, ⟨HOW.out, ?_, ?_⟩, bel_trans HB.out hex⟩
        · rw [HV.out]; simp only [List.length_append, List.length_take, List.length_drop, List.length_cons, List.length_nil, HFL.out]; omega
        · intro i x t h1 h2
          rw [HV.out] at h2
          rcases ins_rows2 (by rw [HO.out.hlen, HFL.out]) (by rw [HFL.out]; exact hk) i x t h1 h2 with ⟨j, h3, h4⟩ | ⟨h3, h4⟩
          · exact ((HO.out.row j x t h3 h4).below HB.out).below hex
          · subst h3 h4
            exact (HF.out.below HB.out).below hex
end Go.Proofs.YtcgjnonlndaoeaaGreatDoor

/- Cells and shapes turned, the orientations of a shape: the reference. -/
namespace Go.Proofs.YtcgjnonlndaoeaaGreatDoor
open Go.RowKit
set_option linter.unusedVariables false
attribute [local go_sem ↓] Go.wp_at_zero Go.wp_at_succ

set_option maxHeartbeats 1600000 in
theorem l3Apply_s (x y : Int) (m : Nat) (w : World) (hq : in7 1000 (x, y)) (hm : m < 8) :
    Calls Tryz.prog 127 #[.agg #[.int .i64 x, .int .i64 y], .int .i64 (m : Int)] w (Ret w (.agg #[.int .i64 (motC m (x, y)).1, .int .i64 (motC m (x, y)).2])) := by
  obtain ⟨r, hr⟩ : ∃ r, m % 4 = r := ⟨_, rfl⟩
  have hr4 : r < 4 := by omega
  have hmr : (m : Int) % 4 = (r : Int) := by omega
  have hm0 : (0 : Int) ≤ (m : Int) := by omega
  have hm7 : (m : Int) ≤ 7 := by omega
  obtain ⟨⟨h1, h2⟩, h3, h4⟩ := id hq
  simp only at h1 h2 h3 h4
  have HOK := Lib.hid (in7_flip hq m)
  have HC : Hid (motC m (x, y) = rotC r (flipC m (x, y))) := by show motC m (x, y) = _; unfold motC; rw [hr]
  have ex : IntKind.i64.wrap (-x) = -x := Go.IntWalk.i64_in _ (by omega)
  clear hr hq
  by_cases h4m : 4 ≤ m
  · have HST : Hid (rotC 0 (flipC m (x, y)) = (-x, y)) := by show flipC m (x, y) = _; unfold flipC; rw [if_pos h4m]
    have h4i : (m : Int) ≥ 4 := by omega
    go_enter Tryz.func127, Tryz.ntmps127
    go_wp2
    go_loopw [5] (fun e13 wr => ∃ (j : Nat) (x' y' : Int), j ≤ r ∧ e13 = .int .i64 j ∧ rotC j (flipC m (x, y)) = (x', y') ∧ Blk wr w.heap.size 77 #[.int .i64 x', .int .i64 y'] ∧ Blk wr (w.heap.size + 1) 77 #[.int .i64 0, .int .i64 0] ∧ Below w.heap.size w wr) (fun e13 _ => r - (intOf e13).toNat)
    case atStart =>
      have hb1 : Blk ((w.alloc (.cells #[.int .i64 (-x), .int .i64 y] 77)).alloc (.cells #[.int .i64 0, .int .i64 0] 77)) w.heap.size 77 #[.int .i64 (-x), .int .i64 y] := (Blk.new w 77 #[.int .i64 (-x), .int .i64 y]).alloc _
      have hb2 : Blk ((w.alloc (.cells #[.int .i64 (-x), .int .i64 y] 77)).alloc (.cells #[.int .i64 0, .int .i64 0] 77)) (w.heap.size + 1) 77 #[.int .i64 0, .int .i64 0] := by
        have h := Blk.new (w.alloc (.cells #[.int .i64 (-x), .int .i64 y] 77)) 77 #[.int .i64 0, .int .i64 0]
        rw [show (w.alloc (.cells #[.int .i64 (-x), .int .i64 y] 77)).heap.size = w.heap.size + 1 from by simp] at h
        exact h
      exact ⟨0, (-x), y, Nat.zero_le _, rfl, HST.out, hb1, hb2, (by (repeat (first | with_reducible exact Below.refl _ _ | with_reducible assumption | with_reducible apply bel_alloc | with_reducible apply bel_drew | with_reducible apply bel_drewN | ((with_reducible refine bel_set ?_ ?_); rotate_left; (simp <;> omega)) | (with_reducible refine bel_trans ?_ (by with_reducible assumption)))))⟩
    case round =>
      obtain ⟨j, x', y', hj, rfl, hrot, hB, hB2, hb⟩ := hrel
      have ho : in7 1000 (x', y') := by rw [← hrot]; exact in7_rot HOK.out j
      obtain ⟨⟨k1, k2⟩, k3, k4⟩ := ho
      simp only at k1 k2 k3 k4
      have en : IntKind.i64.wrap (-y') = -y' := Go.IntWalk.i64_in _ (by omega)
      have c0 : wr.cell? ⟨w.heap.size, 0, none⟩ = some (.int .i64 x') := by simpa using hB.cell 0
      have c1 : wr.cell? ⟨w.heap.size, 1, none⟩ = some (.int .i64 y') := by simpa using hB.cell 1
      have f0 := hB.frozen 0
      have f1 := hB.frozen 1
      have d0 : wr.cell? ⟨w.heap.size + 1, 0, none⟩ = some (.int .i64 0) := by simpa using hB2.cell 0
      have d1 : wr.cell? ⟨w.heap.size + 1, 1, none⟩ = some (.int .i64 0) := by simpa using hB2.cell 1
      have fd0 := hB2.frozen 0
      have fd1 := hB2.frozen 1
      by_cases hlt : j < r
      · have hj1 : (j : Int) < (r : Int) := by omega
        have HR : Hid (rotC (j + 1) (flipC m (x, y)) = (-y', x')) := by show (-(rotC j _).2, (rotC j _).1) = _; rw [hrot]
        have hS : Blk ((wr.setCell ⟨w.heap.size, 0, none⟩ (.int .i64 (-y'))).setCell ⟨w.heap.size, 1, none⟩ (.int .i64 x')) w.heap.size 77 #[.int .i64 (-y'), .int .i64 x'] := by simpa using (hB.set_ 0 (.int .i64 (-y'))).set_ 1 (.int .i64 x')
        have hS2 : Blk ((wr.setCell ⟨w.heap.size, 0, none⟩ (.int .i64 (-y'))).setCell ⟨w.heap.size, 1, none⟩ (.int .i64 x')) (w.heap.size + 1) 77 #[.int .i64 0, .int .i64 0] := (hB2.far (by simp) _).far (by simp) _
        have HS := Lib.hid hS
        have HS2 := Lib.hid hS2
        clear hrot hB hB2 hS hS2
        go_wp2
        exact ⟨⟨j + 1, -y', x', by omega, by go_num, HR.out, HS.out, HS2.out, (by (repeat (first | with_reducible exact Below.refl _ _ | with_reducible assumption | with_reducible apply bel_alloc | with_reducible apply bel_drew | with_reducible apply bel_drewN | ((with_reducible refine bel_set ?_ ?_); rotate_left; (simp <;> omega)) | (with_reducible refine bel_trans ?_ (by with_reducible assumption)))))⟩, by simp [intOf]; omega⟩
      · have hjr : j = r := by omega
        subst hjr
        have HV : Hid (motC m (x, y) = (x', y')) := by show motC m (x, y) = _; rw [HC.out, hrot]
        have hj1 : ¬ (j : Int) < (j : Int) := by omega
        clear hrot hB hB2
        go_wp2
        exact bodyPost_ret (v := .agg #[.int .i64 x', .int .i64 y']) (by simp [results, Tryz.results127, go_sem, d0, d1]) rfl ⟨by rw [HV.out], (by (repeat (first | with_reducible exact Below.refl _ _ | with_reducible assumption | with_reducible apply bel_alloc | with_reducible apply bel_drew | with_reducible apply bel_drewN | ((with_reducible refine bel_set ?_ ?_); rotate_left; (simp <;> omega)) | (with_reducible refine bel_trans ?_ (by with_reducible assumption)))))⟩
  · have HST : Hid (rotC 0 (flipC m (x, y)) = (x, y)) := by show flipC m (x, y) = _; unfold flipC; rw [if_neg h4m]
    have h4i : ¬ (m : Int) ≥ 4 := by omega
    go_enter Tryz.func127, Tryz.ntmps127
    go_wp2
    go_loopw [5] (fun e13 wr => ∃ (j : Nat) (x' y' : Int), j ≤ r ∧ e13 = .int .i64 j ∧ rotC j (flipC m (x, y)) = (x', y') ∧ Blk wr w.heap.size 77 #[.int .i64 x', .int .i64 y'] ∧ Blk wr (w.heap.size + 1) 77 #[.int .i64 0, .int .i64 0] ∧ Below w.heap.size w wr) (fun e13 _ => r - (intOf e13).toNat)
    case atStart =>
      have hb1 : Blk ((w.alloc (.cells #[.int .i64 x, .int .i64 y] 77)).alloc (.cells #[.int .i64 0, .int .i64 0] 77)) w.heap.size 77 #[.int .i64 x, .int .i64 y] := (Blk.new w 77 #[.int .i64 x, .int .i64 y]).alloc _
      have hb2 : Blk ((w.alloc (.cells #[.int .i64 x, .int .i64 y] 77)).alloc (.cells #[.int .i64 0, .int .i64 0] 77)) (w.heap.size + 1) 77 #[.int .i64 0, .int .i64 0] := by
        have h := Blk.new (w.alloc (.cells #[.int .i64 x, .int .i64 y] 77)) 77 #[.int .i64 0, .int .i64 0]
        rw [show (w.alloc (.cells #[.int .i64 x, .int .i64 y] 77)).heap.size = w.heap.size + 1 from by simp] at h
        exact h
      exact ⟨0, x, y, Nat.zero_le _, rfl, HST.out, hb1, hb2, (by (repeat (first | with_reducible exact Below.refl _ _ | with_reducible assumption | with_reducible apply bel_alloc | with_reducible apply bel_drew | with_reducible apply bel_drewN | ((with_reducible refine bel_set ?_ ?_); rotate_left; (simp <;> omega)) | (with_reducible refine bel_trans ?_ (by with_reducible assumption)))))⟩
    case round =>
      obtain ⟨j, x', y', hj, rfl, hrot, hB, hB2, hb⟩ := hrel
      have ho : in7 1000 (x', y') := by rw [← hrot]; exact in7_rot HOK.out j
      obtain ⟨⟨k1, k2⟩, k3, k4⟩ := ho
      simp only at k1 k2 k3 k4
      have en : IntKind.i64.wrap (-y') = -y' := Go.IntWalk.i64_in _ (by omega)
      have c0 : wr.cell? ⟨w.heap.size, 0, none⟩ = some (.int .i64 x') := by simpa using hB.cell 0
      have c1 : wr.cell? ⟨w.heap.size, 1, none⟩ = some (.int .i64 y') := by simpa using hB.cell 1
      have f0 := hB.frozen 0
      have f1 := hB.frozen 1
      have d0 : wr.cell? ⟨w.heap.size + 1, 0, none⟩ = some (.int .i64 0) := by simpa using hB2.cell 0
      have d1 : wr.cell? ⟨w.heap.size + 1, 1, none⟩ = some (.int .i64 0) := by simpa using hB2.cell 1
      have fd0 := hB2.frozen 0
      have fd1 := hB2.frozen 1
      by_cases hlt : j < r
      · have hj1 : (j : Int) < (r : Int) := by omega
        have HR : Hid (rotC (j + 1) (flipC m (x, y)) = (-y', x')) := by show (-(rotC j _).2, (rotC j _).1) = _; rw [hrot]
        have hS : Blk ((wr.setCell ⟨w.heap.size, 0, none⟩ (.int .i64 (-y'))).setCell ⟨w.heap.size, 1, none⟩ (.int .i64 x')) w.heap.size 77 #[.int .i64 (-y'), .int .i64 x'] := by simpa using (hB.set_ 0 (.int .i64 (-y'))).set_ 1 (.int .i64 x')
        have hS2 : Blk ((wr.setCell ⟨w.heap.size, 0, none⟩ (.int .i64 (-y'))).setCell ⟨w.heap.size, 1, none⟩ (.int .i64 x')) (w.heap.size + 1) 77 #[.int .i64 0, .int .i64 0] := (hB2.far (by simp) _).far (by simp) _
        have HS := Lib.hid hS
        have HS2 := Lib.hid hS2
        clear hrot hB hB2 hS hS2
        go_wp2
        exact ⟨⟨j + 1, -y', x', by omega, by go_num, HR.out, HS.out, HS2.out, (by (repeat (first | with_reducible exact Below.refl _ _ | with_reducible assumption | with_reducible apply bel_alloc | with_reducible apply bel_drew | with_reducible apply bel_drewN | ((with_reducible refine bel_set ?_ ?_); rotate_left; (simp <;> omega)) | (with_reducible refine bel_trans ?_ (by with_reducible assumption)))))⟩, by simp [intOf]; omega⟩
      · have hjr : j = r := by omega
        subst hjr
        have HV : Hid (motC m (x, y) = (x', y')) := by show motC m (x, y) = _; rw [HC.out, hrot]
        have hj1 : ¬ (j : Int) < (j : Int) := by omega
        clear hrot hB hB2
        go_wp2
        exact bodyPost_ret (v := .agg #[.int .i64 x', .int .i64 y']) (by simp [results, Tryz.results127, go_sem, d0, d1]) rfl ⟨by rw [HV.out], (by (repeat (first | with_reducible exact Below.refl _ _ | with_reducible assumption | with_reducible apply bel_alloc | with_reducible apply bel_drew | with_reducible apply bel_drewN | ((with_reducible refine bel_set ?_ ?_); rotate_left; (simp <;> omega)) | (with_reducible refine bel_trans ?_ (by with_reducible assumption)))))⟩
theorem map_takeS {α β : Type} (f : α → β) (xs : List α) (k : Nat) (hk : k < xs.length) : (xs.take (k + 1)).map f = (xs.take k).map f ++ [f xs[k]] := by
  rw [List.take_succ_eq_append_getElem hk, List.map_append]; rfl
set_option maxHeartbeats 1600000 in
theorem l3Turn_s (A : Option Addr) (n c : Nat) (xs : List C) (m : Nat) (w : World) (hr : Rd w A (vC xs)) (hl : xs.length = n) (hs : isShape xs = true) (hm : m < 8) :
    Calls Tryz.prog 108 #[.slice A n c, .int .i64 (m : Int)] w (RetS w 77 2 (vC (turnV xs m))) := by
  have hn8 := shape_len hs
  have hti := turn_in hs m
  have hob := shape_onB hs
  rw [hl] at hn8
  obtain ⟨hn1, hn8⟩ := hn8
  have HL := Lib.hid hl
  have HR := Lib.hid hr
  have HTI := Lib.hid hti
  have HOB := Lib.hid hob
  clear hl hr hs hti hob
  go_enter Tryz.func108, Tryz.ntmps108
  have HI0 := Lib.hid (own_new w 77 2 0 #[] rfl (by simp [maxLen]) (Nat.le_refl _))
  go_wp2
  go_loopw [6, 5] (fun e10 e5 wr => ∃ (k cq : Nat) (D : Option Addr), k ≤ n ∧ e10 = .int .i64 k ∧ e5 = .slice D k cq ∧ wr.ownsRow w.heap.size 77 2 (.slice D k cq) k (vC ((xs.take k).map (motC m))) ∧ Below w.heap.size w wr) (fun e10 _ _ => n - (intOf e10).toNat)
  case atStart => exact ⟨0, 0, _, Nat.zero_le _, rfl, rfl, HI0.out, bel_alloc (Below.refl _ _) _⟩
  case round =>
    clear HI0
    obtain ⟨k, cq, D, hk, rfl, rfl, hown, hb⟩ := hrel
    by_cases hlt : k < n
    · have hkl : k < xs.length := by rw [HL.out]; exact hlt
      have hk0 : (0 : Int) ≤ (k : Int) := by omega
      have hk1 : (k : Int) < (n : Int) := by omega
      obtain ⟨g, off, hA, hg, d1, d2⟩ := RdC.at_ (HR.out.below hb) hkl
      subst hA
      have hst := map_takeS (motC m) xs k hkl
      have h7 := in7_onB (HOB.out _ (List.getElem_mem hkl))
      obtain ⟨p, hp⟩ : ∃ p, xs[k].1 = p := ⟨_, rfl⟩
      obtain ⟨q, hq⟩ : ∃ q, xs[k].2 = q := ⟨_, rfl⟩
      rw [show xs[k] = (p, q) from Prod.ext hp hq] at hst h7
      rw [hp] at d1
      rw [hq] at d2
      have hK : in7 1000 (p, q) := by unfold in7 at h7 ⊢; simp only at h7 ⊢; omega
      obtain ⟨⟨x', y'⟩, hxy⟩ : ∃ z, motC m (p, q) = z := ⟨_, rfl⟩
      rw [hxy] at hst
      have HCA : Hid (∀ w0, Calls Tryz.prog 127 #[.agg #[.int .i64 p, .int .i64 q], .int .i64 (m : Int)] w0 (Ret w0 (.agg #[.int .i64 x', .int .i64 y']))) := fun w0 => by
        have h := l3Apply_s p q m w0 hK hm
        rw [hxy] at h
        exact h
      have HST := Lib.hid hst
      have HO := Lib.hid hown
      clear hst hown hp hq h7 hxy hK
      go_wp2_with fail
      refine (HCA.out _).mono ?_
      rintro e w2 ⟨rfl, hb2⟩
      have hb02 := bel_trans hb hb2
      have HO2 := Lib.hid (own_keep HO.out hb2)
      have hbz := hb02.size
      clear d1 d2
      go_wp2_with (at_builtin; go_must (refine app_C _ rfl _ _ rfl w.heap.size _ _ _ _ rfl (HO2.out.alloc _) _ _ _ [(x', y')] rfl (rd_newC _ _ _ _) rfl (by omega) (by simp; omega) ?_); intro D2 cp2 w8 ho8 hg8 hat8; have HO8 := Lib.hid ho8; have HG8 := Lib.hid hg8; clear ho8 hg8 hat8)
      exact ⟨⟨k + 1, cp2, D2, by omega, by go_num, rfl, by rw [HST.out]; exact HO8.out, bel_app (bel_alloc hb02 _) HG8.out (fun g' hg1 => ((own_lt HO2.out) g' hg1).1)⟩, by simp [intOf]; omega⟩
    · obtain rfl : k = n := by omega
      rw [List.take_of_length_le (by rw [HL.out]; omega)] at hown
      have HO := Lib.hid hown
      have hk1 : ¬ (k : Int) < (k : Int) := by omega
      clear hown
      go_wp2_with fail
      refine (SortCells_s D k cq (xs.map (motC m)) _ (Rd.of_own HO.out) (by rw [List.length_map]; exact HL.out) (by omega)).mono ?_
      rintro e w2 ⟨E, q, ce, rfl, hO2, hb2⟩
      have hql : (sortC (xs.map (motC m))).length = q := by have := own_len hO2; rw [vC_length] at this; omega
      have hq8 : q ≤ 8 := by have := sortC_len (xs.map (motC m)); rw [List.length_map, HL.out] at this; omega
      have HO2 := Lib.hid hO2
      have HQL := Lib.hid hql
      clear hO2 hql
      go_wp2_with fail
      refine (l2Corner_s E q ce (sortC (xs.map (motC m))) _ (Rd.of_own HO2.out) HQL.out (by omega) (fun d hd => by have := HTI.out d ((sortC_mem _ _).1 hd); unfold in7 at this; unfold small; omega)).mono ?_
      rintro e w3 ⟨G, q3, cg, rfl, hO3, hb3⟩
      have HV : Hid (turnV xs m = cornS (sortC (xs.map (motC m)))) := by show cornI _ = _; exact corn_eq (by rw [List.length_map, HL.out]; omega)
      have HO3 := Lib.hid hO3
      have hbz := (bel_trans hb hb2).size
      clear hO3
      go_wp2_with fail
      go_ret
      exact ⟨G, q3, cg, rfl, by rw [HV.out]; exact own_base HO3.out hbz, bel_trans (bel_trans hb hb2) hb3⟩
set_option maxHeartbeats 1600000 in
theorem OrientationsOf_s (A : Option Addr) (n c : Nat) (xs : List C) (w : World) (hr : Rd w A (vC xs)) (hl : xs.length = n) (hs : isShape xs = true) :
    Calls Tryz.prog 88 #[.slice A n c] w (PutS w.heap.size w (orV xs)) := by
  have hn8 := (shape_len hs).2
  rw [hl] at hn8
  have hV : orV xs = orTo xs 8 := by unfold orV; rw [if_pos hs]
  have HTL : Hid (∀ m, 1 ≤ (turnV xs m).length ∧ (turnV xs m).length ≤ 8) := fun m => turn_len hs m
  have hmem := orTo_mem xs
  have HME : Hid (∀ k, ∀ x ∈ orTo xs k, x.length ≤ 1048576) := fun k x hx => by
    obtain ⟨m, _, rfl⟩ := hmem k x hx
    have := (turn_len hs m).2
    omega
  have HV := Lib.hid hV
  have HL := Lib.hid hl
  have HR := Lib.hid hr
  have HS := Lib.hid hs
  have HI0 : Hid (OwnF w.heap.size (w.alloc (.cells #[] 59)) (some ⟨w.heap.size, 0, none⟩) 0 0 [] []) := OwnF.none_ (own_new w 59 1 0 #[] rfl (by simp [maxLen]) (Nat.le_refl _))
  clear hl hr hs hV hmem
  go_enter Tryz.func88, Tryz.ntmps88
  go_wp2_with fail
  go_loopw [4, 3] (fun e8 e3 wr => ∃ (m q cq g : Nat) (hs : List H), m ≤ 8 ∧ e8 = .int .i64 m ∧ e3 = .slice (some ⟨g, 0, none⟩) q cq ∧ OwnF w.heap.size wr (some ⟨g, 0, none⟩) q cq hs (orTo xs m) ∧ Below w.heap.size w wr) (fun e8 _ _ => 8 - (intOf e8).toNat)
  case atStart => exact ⟨0, 0, 0, _, [], Nat.zero_le _, rfl, rfl, HI0.out, bel_alloc (Below.refl _ _) _⟩
  case round =>
    clear HI0
    obtain ⟨m, q, cq, g, hs, hm, rfl, rfl, hO, hb⟩ := hrel
    have hql : (orTo xs m).length = q := hO.flen
    have hol := orTo_len xs m
    have HO := Lib.hid hO
    clear hO
    by_cases hlt : m < 8
    · have hm0 : (0 : Int) ≤ (m : Int) := by omega
      have hm1 : (m : Int) < 8 := by omega
      have hst : orTo xs (m + 1) = putG ltS (orTo xs m) (turnV xs m) := rfl
      have hme := HME.out m
      have htl := HTL.out m
      obtain ⟨F, hF⟩ : ∃ F, orTo xs m = F := ⟨_, rfl⟩
      obtain ⟨t, ht⟩ : ∃ t, turnV xs m = t := ⟨_, rfl⟩
      have HTU : Hid (∀ w0, Rd w0 A (vC xs) → Calls Tryz.prog 108 #[.slice A n c, .int .i64 (m : Int)] w0 (RetS w0 77 2 (vC t))) := fun w0 h => by
        have h2 := l3Turn_s A n c xs m w0 h HL.out HS.out hlt
        rw [ht] at h2
        exact h2
      rw [hF, ht] at hst
      rw [hF] at hme hql HO hol
      rw [ht] at htl
      have HST := Lib.hid hst
      have HMF := Lib.hid hme
      clear hst hF ht hme
      go_wp2_with fail
      refine (IsShape_s A n c xs _ (HR.out.below hb) HL.out (by omega)).mono ?_
      rw [HS.out]
      rintro e w1 ⟨rfl, hb1⟩
      have hb01 := bel_trans hb hb1
      go_wp2_with fail
      refine (HTU.out _ (HR.out.below hb01)).mono ?_
      rintro e w2 ⟨E, q2, c2, rfl, hT, hb2⟩
      have hq2 : t.length = q2 := by have := own_len hT; rw [vC_length] at this; omega
      have hO2 := (HO.out.below hb1).below hb2
      have hb12 := bel_trans hb01 hb2
      have HO2 := Lib.hid hO2
      have HCR := Lib.hid (CRow.of_own hT)
      have hz2 := hb12.size
      clear hO2 hT HO
      go_wp2_with fail
      refine (l3Put_s g q cq hs F E q2 c2 t w.heap.size _ HO2.out HCR.out HMF.out (by omega) (by omega) hz2).mono ?_
      rintro e w3 ⟨g3, n3, c3, hs3, rfl, hO3, hb3⟩
      have HO3 := Lib.hid hO3
      clear hO3
      go_wp2_with fail
      exact ⟨⟨m + 1, n3, c3, g3, hs3, by omega, by go_num, rfl, by rw [HST.out]; exact HO3.out, bel_trans hb12 hb3⟩, by simp [intOf]; omega⟩
    · obtain rfl : m = 8 := by omega
      rw [← HV.out] at HO
      have hm1 : ¬ ((8 : Nat) : Int) < 8 := by omega
      go_wp2_with fail
      go_ret
      exact ⟨g, q, cq, hs, rfl, HO.out, hb⟩
end Go.Proofs.YtcgjnonlndaoeaaGreatDoor

/- The placements of a shape, of all pieces, in a region: the reference. -/
namespace Go.Proofs.YtcgjnonlndaoeaaGreatDoor
open Go.RowKit
set_option linter.unusedVariables false
attribute [local go_sem ↓] Go.wp_at_zero Go.wp_at_succ

theorem mv_smallS {t : List C} (h : ∀ c ∈ t, (0 ≤ c.1 ∧ c.1 ≤ 14) ∧ (0 ≤ c.2 ∧ c.2 ≤ 14)) {x y : Nat} (hx : x ≤ 6) (hy : y ≤ 6) : ∀ d ∈ mv t (x : Int) (y : Int), small d := by
  intro d hd
  rw [mv_mem] at hd
  have := h _ hd
  simp only at this
  unfold small
  omega
set_option maxRecDepth 100000 in
set_option maxHeartbeats 6400000 in
theorem PlacementsOf_s (W : Int) (A B : Option Addr) (n c k cb : Nat) (rows : List Int) (xs : List C) (w : World) (hr : Rd w A (vI rows)) (hl : rows.length = n) (hv : isReg W rows = true) (hrx : Rd w B (vC xs)) (hlx : xs.length = k) (hs : isShape xs = true) :
    Calls Tryz.prog 69 #[.agg #[.int .i64 W, .slice A n c], .slice B k cb] w (RetO w w.heap.size 3 1 (vI (plV W rows xs))) := by
  have hv0 := hv
  have hPV : plV W rows xs = putAll (rawTo W rows (orV xs) (orV xs).length) := by unfold plV; rw [if_pos hv]; rfl
  obtain ⟨m, rfl, hm1, hm6, hn1, hn6, hrow⟩ := isReg_yes hv
  have h36 : m * rows.length ≤ 6 * 6 := Nat.mul_le_mul hm6 hn6
  have hmt : ((m : Int)).toNat = m := Int.toNat_natCast _
  have hfine := orV_fine (s := xs)
  have hol := orV_len xs
  have HLX := Lib.hid hlx
  have HSX := Lib.hid hs
  obtain ⟨F, hF⟩ : ∃ F, orV xs = F := ⟨_, rfl⟩
  rw [hF] at hPV hfine hol
  have HF := Lib.hid hF
  have HPV := Lib.hid hPV
  have HFI := Lib.hid hfine
  have HL := Lib.hid hl
  have HV := Lib.hid hv0
  have HR := Lib.hid ((hr.alloc (.cells #[.int .i64 (m : Int), .slice A n c] 29)).alloc (.cells #[] 3))
  have HRX := Lib.hid ((hrx.alloc (.cells #[.int .i64 (m : Int), .slice A n c] 29)).alloc (.cells #[] 3))
  have H36 : Hid (m * rows.length ≤ 36) := h36
  have HMT := Lib.hid hmt
  have HI0 : Hid (((w.alloc (.cells #[.int .i64 (m : Int), .slice A n c] 29)).alloc (.cells #[] 3)).ownsRow w.heap.size 3 1 (.slice (some ⟨w.heap.size + 1, 0, none⟩) 0 0) 0 (vI [])) := by
    have h := own_new (w.alloc (.cells #[.int .i64 (m : Int), .slice A n c] 29)) 3 1 0 #[] rfl (by simp [maxLen]) (base := w.heap.size) (by simp)
    exact Lib.hid (by simpa [vI] using h)
  rw [hl] at hn1 hn6
  clear hl hr hrow hv hv0 hrx hlx hs h36 hmt hPV hfine hF
  go_enter Tryz.func69, Tryz.ntmps69
  go_wp2_with fail
  refine (OrientationsOf_s B k cb xs _ HRX.out HLX.out HSX.out).mono ?_
  rw [HF.out]
  rintro e w1 ⟨gA, q0, c0, hs, rfl, hO0, hb1⟩
  have HB1 := Lib.hid (((Blk.new w 29 #[.int .i64 (m : Int), .slice A n c]).alloc (.cells #[] 3)).below hb1)
  have HR1 := Lib.hid (HR.out.below hb1)
  have hbw1 : Below w.heap.size w w1 := bel_trans (bel_alloc (bel_alloc (Below.refl _ _) _) _) hb1
  have HI1 := Lib.hid (own_keep HI0.out hb1)
  have HRF := Lib.hid hO0.rd
  have HFL := Lib.hid hO0.flen
  have hq8 : q0 ≤ 8 := by have := hO0.flen; omega
  have hgA := (own_lt hO0.own gA rfl).2
  have HGR : Hid (∀ (i : Nat) x f, hs[i]? = some x → F[i]? = some f → ∀ g, ob x.1 = some g → g < w1.heap.size) := fun i x f h1 h2 g e => (hO0.row i x f h1 h2).lt g e
  clear hb1 hO0 HI0
  go_wp2_with fail
  go_loopw [7, 5] (fun e15 e5 wr => ∃ (i q cq g : Nat), i ≤ q0 ∧ e15 = .int .i64 i ∧ e5 = .slice (some ⟨g, 0, none⟩) q cq ∧ wr.ownsRow w.heap.size 3 1 (.slice (some ⟨g, 0, none⟩) q cq) q (vI (putAll (rawTo (m : Int) rows F i))) ∧ Below w1.heap.size w1 wr) (fun e15 _ _ => q0 - (intOf e15).toNat)
  case atStart => exact ⟨0, 0, 0, _, Nat.zero_le _, rfl, rfl, by simpa [rawTo, putAll] using HI1.out, Below.refl _ _⟩
  case round =>
    clear HI1
    obtain ⟨i, q, cq, gD, hi, rfl, rfl, hO, hb⟩ := hrel
    have hB := HB1.out.below hb
    have b0 : wr.cell? ⟨w.heap.size, 0, none⟩ = some (.int .i64 (m : Int)) := by simpa using hB.cell 0
    have b1 : wr.cell? ⟨w.heap.size, 1, none⟩ = some (.slice A n c) := by simpa using hB.cell 1
    have hgw := hB.lt
    clear hB
    by_cases hlt : i < q0
    · have hi0 : (0 : Int) ≤ (i : Int) := by omega
      have hi1 : (i : Int) < (q0 : Int) := by omega
      obtain ⟨x, t, gA', off, hsx, hfx, hAe, hg, d1, hrow⟩ := HRF.out.at_ hlt
      simp only [Option.some.injEq, Addr.mk.injEq, and_true] at hAe
      obtain ⟨rfl, rfl⟩ := hAe
      rw [Nat.zero_add] at d1
      have hft := HFI.out t (List.mem_of_getElem? hfx)
      have hgrt := HGR.out i x t hsx hfx
      have hstep : rawTo (m : Int) rows F (i + 1) = rawTo (m : Int) rows F i ++ rowY (m : Int) rows t n := by
        show _ ++ rowY _ _ (F.getD i []) rows.length = _
        rw [List.getD_eq_getElem?_getD, hfx, Option.getD_some, HL.out]
      have hol2 := (rawTo_msk H36.out F i).2
      obtain ⟨C1, m1, k1⟩ := x
      have hl1 : t.length = m1 := hrow.1
      obtain ⟨O, hOe⟩ : ∃ O, rawTo (m : Int) rows F i = O := ⟨_, rfl⟩
      rw [hOe] at hstep hO hol2
      have hrt : Rd w1 C1 (vC t) := hrow.2.1
      have HRT := Lib.hid hrt
      have HL1 := Lib.hid hl1
      have HFT := Lib.hid hft
      have HST := Lib.hid hstep
      have HO := Lib.hid hO
      have HGT := Lib.hid hgrt
      have hOl : O.length ≤ 288 := by omega
      dsimp only at d1
      have HD1 := Lib.hid d1
      have hm8 : m1 ≤ 8 := by have := hft.1.2; omega
      clear hsx hfx hrow hstep hO hl1 hft hOe hrt hol2 hgrt d1
      go_wp2_with fail
      refine (IsRegion_s _ _ _ _ rows _ (HR1.out.below hb) HL.out).mono ?_
      rw [HV.out]
      rintro e w2 ⟨rfl, hb2⟩
      have hb12 := bel_trans hb hb2
      have HO2 := Lib.hid (own_keep HO.out hb2)
      clear HO b0 b1 hgw
      go_wp2_with fail
      go_loopw [8, 5] (fun e22 e5 wr => ∃ (y q cq gD : Nat), y ≤ n ∧ e22 = .int .i64 y ∧ e5 = .slice (some ⟨gD, 0, none⟩) q cq ∧ wr.ownsRow w.heap.size 3 1 (.slice (some ⟨gD, 0, none⟩) q cq) q (vI (putAll (O ++ rowY (m : Int) rows t y))) ∧ Below w1.heap.size w1 wr) (fun e22 _ _ => n - (intOf e22).toNat)
      case atStart => exact ⟨0, q, cq, gD, Nat.zero_le _, rfl, rfl, by simpa [rowY] using HO2.out, hb12⟩
      case round =>
        clear HO2 hb hb2 hb12
        obtain ⟨y, q, cq, gD, hy, rfl, rfl, hO, hb⟩ := hrel
        have hB := HB1.out.below hb
        have b0 : wr.cell? ⟨w.heap.size, 0, none⟩ = some (.int .i64 (m : Int)) := by simpa using hB.cell 0
        have b1 : wr.cell? ⟨w.heap.size, 1, none⟩ = some (.slice A n c) := by simpa using hB.cell 1
        have hgw := hB.lt
        clear hB
        by_cases hly : y < n
        · have hy0 : (0 : Int) ≤ (y : Int) := by omega
          have hy1 : (y : Int) < (n : Int) := by omega
          have hstY : rowY (m : Int) rows t (y + 1) = rowY (m : Int) rows t y ++ rowX (m : Int) rows t y m := by show _ ++ rowX _ _ _ _ _ = _; rw [HMT.out]
          have hyl := (rowY_msk H36.out t y).2
          obtain ⟨O2, hO2⟩ : ∃ O2, O ++ rowY (m : Int) rows t y = O2 := ⟨_, rfl⟩
          have hstY2 : O ++ rowY (m : Int) rows t (y + 1) = O2 ++ rowX (m : Int) rows t y m := by rw [hstY, ← List.append_assoc, hO2]
          have hO2l : O2.length ≤ 400 := by
            rw [← hO2, List.length_append]
            have : y * m ≤ 6 * 6 := Nat.mul_le_mul (by omega) hm6
            omega
          rw [hO2] at hO
          have HST2 := Lib.hid hstY2
          have HO := Lib.hid hO
          clear hstY hyl hO2 hstY2 hO
          go_wp2_with fail
          go_loopw [9, 5] (fun e27 e5 wr => ∃ (x q cq gD : Nat), x ≤ m ∧ e27 = .int .i64 x ∧ e5 = .slice (some ⟨gD, 0, none⟩) q cq ∧ wr.ownsRow w.heap.size 3 1 (.slice (some ⟨gD, 0, none⟩) q cq) q (vI (putAll (O2 ++ rowX (m : Int) rows t y x))) ∧ Below w1.heap.size w1 wr) (fun e27 _ _ => m - (intOf e27).toNat)
          case atStart => exact ⟨0, q, cq, gD, Nat.zero_le _, rfl, rfl, by simpa [rowX] using HO.out, hb⟩
          case round =>
            clear HO hb b0 b1 hgw
            obtain ⟨x, q, cq, gD, hx, rfl, rfl, hO, hb⟩ := hrel
            have hB := HB1.out.below hb
            have b0 : wr.cell? ⟨w.heap.size, 0, none⟩ = some (.int .i64 (m : Int)) := by simpa using hB.cell 0
            have b1 : wr.cell? ⟨w.heap.size, 1, none⟩ = some (.slice A n c) := by simpa using hB.cell 1
            have hgw := hB.lt
            clear hB
            have hql : (putAll (O2 ++ rowX (m : Int) rows t y x)).length = q := by have := own_len hO; rw [vI_length] at this; omega
            have hpl := putAll_len (O2 ++ rowX (m : Int) rows t y x)
            have hxl := (rowX_msk H36.out t y x).2
            rw [List.length_append] at hpl
            have hq500 : q ≤ 500 := by omega
            by_cases hlx : x < m
            · have hx0 : (0 : Int) ≤ (x : Int) := by omega
              have hx1 : (x : Int) < (m : Int) := by omega
              obtain ⟨r, hmc⟩ : ∃ r, mcV (m : Int) rows (mv t (x : Int) (y : Int)) 0 = r := ⟨_, rfl⟩
              have hstX : O2 ++ rowX (m : Int) rows t y (x + 1) = (O2 ++ rowX (m : Int) rows t y x) ++ optL r := by
                show O2 ++ (_ ++ plAt _ _ _ _ _) = _
                unfold plAt
                rw [hmc, List.append_assoc]
              obtain ⟨O3, hO3⟩ : ∃ O3, O2 ++ rowX (m : Int) rows t y x = O3 := ⟨_, rfl⟩
              rw [hO3] at hstX hO
              have HST3 := Lib.hid hstX
              have HO := Lib.hid hO
              have HMC := Lib.hid hmc
              have HSV : Hid (∀ d ∈ mv t (x : Int) (y : Int), small d) := mv_smallS HFT.out.2 (by omega) (by omega)
              have HDI : Hid ((wr.alloc (.cells #[] 77)).ownsRow wr.heap.size 77 2 (.slice (some ⟨wr.heap.size, 0, none⟩) 0 0) 0 (vC ((mv t (x : Int) (y : Int)).take 0))) := by
                have h := own_new wr 77 2 0 #[] rfl (by simp [maxLen]) (Nat.le_refl wr.heap.size)
                exact Lib.hid (by simpa [vC] using h)
              have HWB : Hid (Below wr.heap.size wr (wr.alloc (.cells #[] 77))) := bel_alloc (Below.refl _ _) _
              clear hstX hO hmc hO3 hql hxl hpl
              go_wp2_with fail
              go_loopw [11, 10] (fun e11 e10 wq => ∃ (j cj : Nat) (E : Option Addr), j ≤ m1 ∧ e11 = .int .i64 j ∧ e10 = .slice E j cj ∧ wq.ownsRow wr.heap.size 77 2 (.slice E j cj) j (vC ((mv t (x : Int) (y : Int)).take j)) ∧ Below wr.heap.size wr wq) (fun e11 _ _ => m1 - (intOf e11).toNat)
              case atStart => exact ⟨0, 0, _, Nat.zero_le _, rfl, rfl, HDI.out, HWB.out⟩
              case round =>
                clear HDI HWB
                obtain ⟨j, cj, E, hj, rfl, rfl, hM, hbj⟩ := hrel
                have hb1j := bel_trans hb hbj
                have d1 := keep_below hb1j HD1.out
                have hgAj : gA < wr.heap.size := Nat.lt_of_lt_of_le hgA hb1j.size
                by_cases hlj : j < m1
                · have hjl : j < t.length := by rw [HL1.out]; exact hlj
                  have hj0 : (0 : Int) ≤ (j : Int) := by omega
                  have hj1 : (j : Int) < (m1 : Int) := by omega
                  obtain ⟨g, off, hA, hg0, d2, d3⟩ := RdC.at_ HRT.out hjl
                  have hg1 := HGT.out g (by rw [hA]; rfl)
                  have d2 := keep_below hb1j d2
                  have d3 := keep_below hb1j d3
                  have hgj : g < wr.heap.size := Nat.lt_of_lt_of_le hg1 hb1j.size
                  have hbsz := hb.size
                  have hgE : ¬ (some g = ob E) := fun e => by have := (own_lt hM g e.symm).1; omega
                  have hgAE : ¬ (some gA = ob E) := fun e => by have := (own_lt hM gA e.symm).1; omega
                  have hml : j < (mv t (x : Int) (y : Int)).length := by rw [mv_len]; exact hjl
                  have hst : (mv t (x : Int) (y : Int)).take (j + 1) = (mv t (x : Int) (y : Int)).take j ++ [(t[j].1 + (x : Int), t[j].2 + (y : Int))] := by
                    rw [List.take_succ_eq_append_getElem hml]
                    simp [mv]
                  have hsm := HFT.out.2 _ (List.getElem_mem hjl)
                  obtain ⟨p, hp⟩ : ∃ p, t[j].1 = p := ⟨_, rfl⟩
                  obtain ⟨r', hr'⟩ : ∃ r', t[j].2 = r' := ⟨_, rfl⟩
                  rw [hp, hr'] at hst hsm
                  rw [hp] at d2
                  rw [hr'] at d3
                  have e1 : IntKind.i64.wrap (p + (x : Int)) = p + (x : Int) := Go.IntWalk.i64_in _ (by omega)
                  have e2 : IntKind.i64.wrap (r' + (y : Int)) = r' + (y : Int) := Go.IntWalk.i64_in _ (by omega)
                  have HSTJ := Lib.hid hst
                  have HM := Lib.hid hM
                  have hbs := hbj.size
                  subst hA
                  clear hst hM hp hr' hsm hml hg0 b0 b1 hgw
                  go_wp2_with fail
                  (refine wp_region_tailN (C := Gr wr E) 22 (by kernel_rfl) (by kernel_rfl) (Gr.drawn _ _) (fun _ _ h k => h.ext k) ?_; simp only [List.take_succ_cons, List.take_zero, List.drop_succ_cons, List.drop_zero]; (repeat (first | (refine headSkip (by rfl) rfl ?_; simp only [List.setIfInBounds_toArray, List.set_cons_zero, List.set_cons_succ]) | (refine headV (v := ?_) (by rfl) rfl (fun w' hcw => ?_) ?_; rotate_left; ((try dsimp only at hcw); have hbc := hcw.cells; go_simp; first | done | with_reducible rfl | fail); simp only [List.setIfInBounds_toArray, List.set_cons_zero, List.set_cons_succ]))); unfold wpHead)
                  (refine tailK (by rfl) (fun w3 hc3 he3 K hK => ?_); go_simp; refine hK _ _ (hc3.ext (by (repeat (first | with_reducible exact Below.refl _ _ | with_reducible assumption | with_reducible apply bel_alloc | with_reducible apply bel_drew | with_reducible apply bel_drewN | ((with_reducible refine bel_set ?_ ?_); rotate_left; (simp <;> omega)) | (with_reducible refine bel_trans ?_ (by with_reducible assumption)))))) ?_; clear hK K)
                  (refine tailK (by rfl) (fun w4 hc4 he4 K hK => ?_); refine wpC _ _ _ rfl _ E j cj ((mv t (x : Int) (y : Int)).take j) rfl (own_keep ((own_keep HM.out he3).alloc _) he4) _ 1 1 [(p + (x : Int), r' + (y : Int))] rfl (Rd.below (rd_newC _ _ _ _) he4) rfl (by omega) (by have h2 := he3.size; have h3 := he4.size; simp at h3; omega) ?_; intro A2 c2 w5 hown5 hg5 _; refine hK _ _ (Gr.trans hc4 hg5) ?_; clear hK K; simp only [Act.put, List.setIfInBounds_toArray, List.set_cons_zero, List.set_cons_succ])
                  (refine tailK (by rfl) (fun w6 hc6 he6 K hK => ?_); go_simp; refine hK _ _ (hc6) ?_; clear hK K)
                  (refine fun w7 hc7 he7 => NoPanic.normal ?_)
                  have hb4 := bel_trans (bel_alloc (bel_trans hbj he3) _) he4
                  have hb5 := bel_app hb4 hg5 (fun g' hg' => ((own_lt HM.out) g' hg').1)
                  have HO3 := Lib.hid (own_keep (own_keep hown5 he6) he7)
                  clear hown5
                  go_wp2
                  exact ⟨⟨j + 1, c2, A2, by omega, by go_num, rfl, by rw [HSTJ.out]; exact HO3.out, bel_trans (bel_trans hb5 he6) he7⟩, by simp [intOf]; omega⟩
                · obtain rfl : j = m1 := by omega
                  have hmt2 : (mv t (x : Int) (y : Int)).take j = mv t (x : Int) (y : Int) := List.take_of_length_le (by rw [mv_len, HL1.out]; omega)
                  rw [hmt2] at hM
                  have hmvl : (mv t (x : Int) (y : Int)).length = j := by rw [mv_len]; exact HL1.out
                  have HMVL := Lib.hid hmvl
                  have HRM := Lib.hid (Rd.of_own hM)
                  have hj1 : ¬ (j : Int) < (j : Int) := by omega
                  have c0 := keep_below hbj b0
                  have c1 := keep_below hbj b1
                  have hgwj : w.heap.size < wr.heap.size := Nat.lt_of_lt_of_le hgw hbj.size
                  have HOJ := Lib.hid (own_keep HO.out hbj)
                  clear hM hmt2 hmvl b0 b1 hgw
                  go_wp2_with fail
                  refine (MaskOfCells_s (m : Int) A E n c j cj rows (mv t (x : Int) (y : Int)) _ (HR1.out.below hb1j) HL.out HV.out HRM.out HMVL.out (by omega) HSV.out).mono ?_
                  rw [HMC.out]
                  rintro e w4 ⟨rfl, hb4⟩
                  have HOK := Lib.hid (own_keep HOJ.out hb4)
                  have hb14 := bel_trans hb1j hb4
                  clear c0 c1 hgwj d1 HRM
                  cases r with
                  | none =>
                    simp only [mcR]
                    go_wp2_with fail
                    exact ⟨⟨x + 1, q, cq, gD, by omega, by go_num, rfl, by rw [HST3.out]; simpa [optL] using HOK.out, hb14⟩, by simp [intOf]; omega⟩
                  | some v =>
                    simp only [mcR]
                    have hbzz : w.heap.size ≤ w4.heap.size := (bel_trans hbw1 hb14).size
                    go_wp2_with fail
                    refine (l7Put_s gD q cq (putAll O3) (v : Int) w.heap.size _ HOK.out hbzz (by omega)).mono ?_
                    rintro e w5 ⟨g5, n5, c5, rfl, hO5, hb5⟩
                    have HO5 := Lib.hid hO5
                    have HP5 : Hid (putAll (O3 ++ [(v : Int)]) = putI (putAll O3) (v : Int)) := putAll_snoc _ _
                    clear hO5
                    go_wp2_with fail
                    exact ⟨⟨x + 1, n5, c5, g5, by omega, by go_num, rfl, by rw [HST3.out]; show World.ownsRow _ _ _ _ _ _ (vI (putAll (O3 ++ [(v : Int)]))); rw [HP5.out]; exact HO5.out, bel_trans hb14 hb5⟩, by simp [intOf]; omega⟩
            · obtain rfl : x = m := by omega
              rw [← HST2.out] at hO
              have HO := Lib.hid hO
              have hx1 : ¬ (x : Int) < (x : Int) := by omega
              clear hO hql hxl hpl
              go_wp2_with fail
              exact ⟨⟨y + 1, q, cq, gD, by omega, by go_num, rfl, HO.out, hb⟩, by simp [intOf]; omega⟩
        · obtain rfl : y = n := by omega
          rw [← HST.out] at hO
          have HO := Lib.hid hO
          have hy1 : ¬ (y : Int) < (y : Int) := by omega
          clear hO
          go_wp2_with fail
          exact ⟨⟨i + 1, q, cq, gD, by omega, by go_num, rfl, HO.out, hb⟩, by simp [intOf]; omega⟩
    · obtain rfl : i = q0 := by omega
      have HN : Hid (plV (m : Int) rows xs = putAll (rawTo (m : Int) rows F i)) := by show _ = _; rw [HPV.out, HFL.out]
      rw [← HN.out] at hO
      have HO := Lib.hid hO
      have hi1 : ¬ (i : Int) < (i : Int) := by omega
      clear hO
      go_wp2_with fail
      go_ret
      exact ⟨gD, q, cq, rfl, HO.out, bel_trans hbw1 hb⟩
theorem world_ltS {w : World} {a : Addr} {v : Value} (h : w.cell? a = some v) : a.block < w.heap.size := World.block_lt_of_cell? w a h
theorem putI_len (l : List Int) (n : Int) : (putI l n).length ≤ l.length + 1 := by
  unfold putI
  have := cutTo_le l n l.length
  split
  · omega
  · simp; omega
theorem pcs_atS {P : List (List C)} (h : pcs P = true) : P.length ≤ 5 ∧ ∀ f ∈ P, isShape f = true := by
  refine ⟨(pcs_small h).1, ?_⟩
  unfold pcs at h
  simp only [Bool.and_eq_true, List.all_eq_true] at h
  exact h.1
theorem foldl_take {β : Type} (f : β → Int → β) (b : β) (xs : List Int) (k : Nat) (hk : k < xs.length) : (xs.take (k + 1)).foldl f b = f ((xs.take k).foldl f b) xs[k] := by
  rw [List.take_succ_eq_append_getElem hk, List.foldl_append]; rfl
set_option maxHeartbeats 3200000 in
theorem AllPlacements_s (W : Int) (A B : Option Addr) (n c q cb : Nat) (rows : List Int) (hs : List H) (P : List (List C)) (w : World) (hr : Rd w A (vI rows)) (hl : rows.length = n) (hv : isReg W rows = true) (hp : RdP w B q hs P) (hpc : pcs P = true) :
    Calls Tryz.prog 41 #[.agg #[.int .i64 W, .slice A n c], .slice B q cb] w (RetO w w.heap.size 3 1 (vI (allV W rows P))) := by
  obtain ⟨hq5, hsh⟩ := pcs_atS hpc
  rw [hp.flen] at hq5
  have htc : totC P ≤ 1048576 := by have := (pcs_small hpc).2; omega
  have hN : allV W rows P = putAll (catTo W rows P q) := by unfold allV; rw [hp.flen]
  have HN := Lib.hid hN
  have HSH := Lib.hid hsh
  have HTC := Lib.hid htc
  have HPC := Lib.hid hpc
  have HL := Lib.hid hl
  have HV := Lib.hid hv
  have HR := Lib.hid ((hr.alloc (.cells #[.int .i64 W, .slice A n c] 29)).alloc (.cells #[] 3))
  have HP := Lib.hid ((hp.alloc (.cells #[.int .i64 W, .slice A n c] 29)).alloc (.cells #[] 3))
  have HB1 := Lib.hid ((Blk.new w 29 #[.int .i64 W, .slice A n c]).alloc (.cells #[] 3))
  have HI0 : Hid (((w.alloc (.cells #[.int .i64 W, .slice A n c] 29)).alloc (.cells #[] 3)).ownsRow w.heap.size 3 1 (.slice (some ⟨w.heap.size + 1, 0, none⟩) 0 0) 0 (vI [])) := by
    have h := own_new (w.alloc (.cells #[.int .i64 W, .slice A n c] 29)) 3 1 0 #[] rfl (by simp [maxLen]) (base := w.heap.size) (by simp)
    exact Lib.hid (by simpa [vI] using h)
  have hbw1 : Below w.heap.size w ((w.alloc (.cells #[.int .i64 W, .slice A n c] 29)).alloc (.cells #[] 3)) := bel_alloc (bel_alloc (Below.refl _ _) _) _
  clear hl hr hv hp hN hsh hpc htc
  go_enter Tryz.func41, Tryz.ntmps41
  go_wp2_with fail
  obtain ⟨w1, hw1⟩ : ∃ w1, (w.alloc (.cells #[.int .i64 W, .slice A n c] 29)).alloc (.cells #[] 3) = w1 := ⟨_, rfl⟩
  rw [hw1] at HR HP HB1 hbw1 HI0 ⊢
  clear hw1
  go_loopw [6, 5] (fun e6 e5 wr => ∃ (i k cq g : Nat), i ≤ q ∧ e6 = .int .i64 i ∧ e5 = .slice (some ⟨g, 0, none⟩) k cq ∧ wr.ownsRow w.heap.size 3 1 (.slice (some ⟨g, 0, none⟩) k cq) k (vI (putAll (catTo W rows P i))) ∧ Below w1.heap.size w1 wr) (fun e6 _ _ => q - (intOf e6).toNat)
  case atStart => exact ⟨0, 0, 0, _, Nat.zero_le _, rfl, rfl, by simpa [catTo, putAll] using HI0.out, Below.refl _ _⟩
  case round =>
    clear HI0
    obtain ⟨i, k, cq, g0, hi, rfl, rfl, hO, hb⟩ := hrel
    have hkl : (putAll (catTo W rows P i)).length = k := by have := own_len hO; rw [vI_length] at this; omega
    have hcl := (catTo_msk W rows P i).2
    have hpl := putAll_len (catTo W rows P i)
    have hk : k ≤ 1440 := by omega
    clear hkl hpl
    by_cases hlt : i < q
    · have hi0 : (0 : Int) ≤ (i : Int) := by omega
      have hi1 : (i : Int) < (q : Int) := by omega
      have HO := Lib.hid hO
      obtain ⟨x, f, g, off, _, hfx, hBe, hg0, d0, l1, r1⟩ := HP.out.at_ hlt
      have hfs := HSH.out f (List.mem_of_getElem? hfx)
      have hst : catTo W rows P (i + 1) = catTo W rows P i ++ plV W rows f := by
        show _ ++ plV W rows (P.getD i []) = _
        rw [List.getD_eq_getElem?_getD, hfx, Option.getD_some]
      obtain ⟨C1, m1, k1⟩ := x
      have HFS := Lib.hid hfs
      have HR1 := Lib.hid r1
      have HL1 := Lib.hid l1
      have HST := Lib.hid hst
      have hpl := plV_len W rows f
      dsimp only at d0
      have HD0 := Lib.hid d0
      subst hBe
      clear hfx hst hO r1 l1 hfs d0
      go_wp2_with fail
      refine (ArePieces_s _ q cb hs P _ (HP.out.below hb) (by omega) HTC.out).mono ?_
      rw [HPC.out]
      rintro e w2 ⟨rfl, hb2⟩
      have hb12 := bel_trans hb hb2
      have hB := HB1.out.below hb12
      have b0 : w2.cell? ⟨w.heap.size, 0, none⟩ = some (.int .i64 W) := by simpa using hB.cell 0
      have b1 : w2.cell? ⟨w.heap.size, 1, none⟩ = some (.slice A n c) := by simpa using hB.cell 1
      have hgw := hB.lt
      have d1 := keep_below hb12 HD0.out
      have hg2 : g < w2.heap.size := world_ltS d1
      have HO2 := Lib.hid (own_keep HO.out hb2)
      clear hB HO
      go_wp2_with fail
      (refine wp_region_tailN (C := ExC w2) 5 (by kernel_rfl) (by kernel_rfl) (ExC.drawn _) (fun _ _ h k => ExC.ext h k) ?_; simp only [List.take_succ_cons, List.take_zero, List.drop_succ_cons, List.drop_zero]; (repeat (first | (refine headSkip (by rfl) rfl ?_; simp only [List.setIfInBounds_toArray, List.set_cons_zero, List.set_cons_succ]) | (refine headV (v := ?_) (by rfl) rfl (fun w' hcw => ?_) ?_; rotate_left; ((try dsimp only at hcw); have hbc := hcw.cells; go_simp; first | done | with_reducible rfl | fail); simp only [List.setIfInBounds_toArray, List.set_cons_zero, List.set_cons_succ]))); unfold wpHead)
      refine tailK (by rfl) (fun u1 hc1 he1 K hK => ?_)
      go_simp
      refine (PlacementsOf_s W A C1 n c m1 k1 rows f _ (HR.out.below (bel_trans hb12 hc1)) HL.out HV.out (HR1.out.below (bel_trans hb12 hc1)) HL1.out HFS.out).mono ?_
      rintro e u2 ⟨gE, q2, c2, rfl, hOE, hbE⟩
      have hc2 := bel_trans hc1 hbE
      refine hK _ _ hc2 ?_
      clear hK K
      have hq2 : (plV W rows f).length = q2 := by have := own_len hOE; rw [vI_length] at this; omega
      have HQ2 := Lib.hid hq2
      have HRE := Lib.hid (Rd.of_own hOE)
      (refine tailK (by rfl) (fun u3 hc3 he3 K hK => ?_); go_simp; refine hK _ _ (hc3) ?_; clear hK K)
      (refine fun w4 hc4 he4 => NoPanic.normal ?_)
      have HR4 := Lib.hid ((HRE.out.below he3).below he4)
      have HO4 := Lib.hid (own_keep HO2.out hc4)
      have hb14 := bel_trans hb12 hc4
      have hq3 : q2 ≤ 288 := by omega
      clear hOE hq2 hpl d1 b0 b1 hgw hc3 he3 hc2 hbE hc1 he1 he4 HO2 HRE hg2 hc4
      go_wp2_with fail
      go_loopw [8, 5] (fun e8 e5 wr => ∃ (j k cq g : Nat), j ≤ q2 ∧ e8 = .int .i64 j ∧ e5 = .slice (some ⟨g, 0, none⟩) k cq ∧ wr.ownsRow w.heap.size 3 1 (.slice (some ⟨g, 0, none⟩) k cq) k (vI (((plV W rows f).take j).foldl putI (putAll (catTo W rows P i)))) ∧ k ≤ 1440 + j ∧ Below w4.heap.size w4 wr) (fun e8 _ _ => q2 - (intOf e8).toNat)
      case atStart => exact ⟨0, k, cq, _, Nat.zero_le _, rfl, rfl, by simpa using HO4.out, by omega, Below.refl _ _⟩
      case round =>
        clear HO4
        obtain ⟨j, k, cq, gO, hj, rfl, rfl, hO, hkk, hbj⟩ := hrel
        by_cases hlj : j < q2
        · have hjl : j < (plV W rows f).length := by rw [HQ2.out]; exact hlj
          have hj0 : (0 : Int) ≤ (j : Int) := by omega
          have hj1 : (j : Int) < (q2 : Int) := by omega
          obtain ⟨gR, oR, hA, hgR, d1⟩ := RdI.at_ (HR4.out.below hbj) hjl
          simp only [Option.some.injEq, Addr.mk.injEq, and_true] at hA
          obtain ⟨rfl, rfl⟩ := hA
          rw [Nat.zero_add] at d1
          have hst2 := foldl_take putI (putAll (catTo W rows P i)) (plV W rows f) j hjl
          obtain ⟨v, hv⟩ : ∃ v, (plV W rows f)[j] = v := ⟨_, rfl⟩
          obtain ⟨L, hL⟩ : ∃ L, ((plV W rows f).take j).foldl putI (putAll (catTo W rows P i)) = L := ⟨_, rfl⟩
          rw [hv] at d1 hst2
          rw [hL] at hst2 hO
          have hLk : L.length = k := by have := own_len hO; rw [vI_length] at this; omega
          have hpi := putI_len L v
          have HST2 := Lib.hid hst2
          have HO := Lib.hid hO
          have HPI := Lib.hid hpi
          have HLK := Lib.hid hLk
          have hbz := (bel_trans hbw1 (bel_trans hb14 hbj)).size
          clear hst2 hO hv hL hpi hLk
          go_wp2_with fail
          refine (l7Put_s gO k cq L v w.heap.size _ HO.out hbz (by omega)).mono ?_
          rintro e w5 ⟨g5, n5, c5, rfl, hO5, hb5⟩
          have hn5 : (putI L v).length = n5 := by have := own_len hO5; rw [vI_length] at this; omega
          have hn6 : n5 ≤ 1440 + (j + 1) := by have := HPI.out; have := HLK.out; omega
          have HO5 := Lib.hid hO5
          clear hO5 d1 hn5
          go_wp2_with fail
          exact ⟨⟨j + 1, n5, c5, g5, by omega, by go_num, rfl, by rw [HST2.out]; exact HO5.out, hn6, bel_trans hbj hb5⟩, by simp [intOf]; omega⟩
        · obtain rfl : j = q2 := by omega
          have he : ((plV W rows f).take j).foldl putI (putAll (catTo W rows P i)) = putAll (catTo W rows P (i + 1)) := by
            rw [HST.out, List.take_of_length_le (by rw [HQ2.out]; omega)]
            simp [putAll]
          rw [he] at hO
          have HO := Lib.hid hO
          have hj1 : ¬ (j : Int) < (j : Int) := by omega
          clear he hO
          go_wp2_with fail
          exact ⟨⟨i + 1, k, cq, gO, by omega, by go_num, rfl, HO.out, bel_trans hb14 hbj⟩, by simp [intOf]; omega⟩
    · obtain rfl : i = q := by omega
      rw [← HN.out] at hO
      have HO := Lib.hid hO
      have hi1 : ¬ (i : Int) < (i : Int) := by omega
      clear hO
      go_wp2_with fail
      go_ret
      exact ⟨g0, k, cq, rfl, HO.out, bel_trans hbw1 hb⟩
end Go.Proofs.YtcgjnonlndaoeaaGreatDoor

/- The reference's placements where the region or the pieces are none. -/
namespace Go.Proofs.YtcgjnonlndaoeaaGreatDoor
open Go.RowKit
set_option linter.unusedVariables false
attribute [local go_sem ↓] Go.wp_at_zero Go.wp_at_succ

set_option maxRecDepth 100000 in
set_option maxHeartbeats 6400000 in
theorem PlacementsOf_n (W : Int) (A B : Option Addr) (n c k cb : Nat) (rows : List Int) (xs : List C) (w : World) (hr : Rd w A (vI rows)) (hl : rows.length = n) (hv : isReg W rows = false) (hrx : Rd w B (vC xs)) (hlx : xs.length = k) (hs : isShape xs = true) :
    Calls Tryz.prog 69 #[.agg #[.int .i64 W, .slice A n c], .slice B k cb] w (RetO w w.heap.size 3 1 (vI [])) := by
  have hol := orV_len xs
  have HLX := Lib.hid hlx
  have HSX := Lib.hid hs
  have HL := Lib.hid hl
  have HV := Lib.hid hv
  have HR := Lib.hid ((hr.alloc (.cells #[.int .i64 W, .slice A n c] 29)).alloc (.cells #[] 3))
  have HRX := Lib.hid ((hrx.alloc (.cells #[.int .i64 W, .slice A n c] 29)).alloc (.cells #[] 3))
  have HI0 : Hid (((w.alloc (.cells #[.int .i64 W, .slice A n c] 29)).alloc (.cells #[] 3)).ownsRow w.heap.size 3 1 (.slice (some ⟨w.heap.size + 1, 0, none⟩) 0 0) 0 (vI [])) := by
    have h := own_new (w.alloc (.cells #[.int .i64 W, .slice A n c] 29)) 3 1 0 #[] rfl (by simp [maxLen]) (base := w.heap.size) (by simp)
    exact Lib.hid (by simpa [vI] using h)
  clear hl hr hv hrx hlx hs
  go_enter Tryz.func69, Tryz.ntmps69
  go_wp2_with fail
  refine (OrientationsOf_s B k cb xs _ HRX.out HLX.out HSX.out).mono ?_
  rintro e w1 ⟨gA, q0, c0, hs, rfl, hO0, hb1⟩
  have hB := ((Blk.new w 29 #[.int .i64 W, .slice A n c]).alloc (.cells #[] 3)).below hb1
  have HR1 := Lib.hid (HR.out.below hb1)
  have hbw1 := Lib.hid (bel_trans (bel_alloc (bel_alloc (Below.refl w.heap.size w) (.cells #[.int .i64 W, .slice A n c] 29)) (.cells #[] 3)) hb1)
  have HI1 := Lib.hid (own_keep HI0.out hb1)
  have HBB := Lib.hid hB
  have b0 : w1.cell? ⟨w.heap.size, 0, none⟩ = some (.int .i64 W) := by simpa using hB.cell 0
  have b1 : w1.cell? ⟨w.heap.size, 1, none⟩ = some (.slice A n c) := by simpa using hB.cell 1
  have bl := hB.lt
  clear hb1 hO0 HI0 hB
  go_wp2_with fail
  go_loopw [7, 5] (fun e15 e5 wr => e15 = .int .i64 (0 : Nat) ∧ e5 = .slice (some ⟨w.heap.size + 1, 0, none⟩) 0 0 ∧ wr = w1) (fun _ _ _ => 0)
  case atStart => exact ⟨rfl, rfl, rfl⟩
  case round =>
    obtain ⟨rfl, rfl, rfl⟩ := hrel
    by_cases h0 : 0 < q0
    · have h0I : (0 : Int) < (q0 : Int) := by omega
      go_wp2_with fail
      refine (IsRegion_s W A n c rows _ HR1.out HL.out).mono ?_
      rw [HV.out]
      rintro e w2 ⟨rfl, hb2⟩
      have HO2 := Lib.hid (own_keep HI1.out hb2)
      have HB2 := Lib.hid (bel_trans hbw1.out hb2)
      clear hb2
      go_wp2_with fail
      go_ret
      exact ⟨_, 0, 0, rfl, HO2.out, HB2.out⟩
    · obtain rfl : q0 = 0 := by omega
      go_wp2_with fail
      go_ret
      exact ⟨_, 0, 0, rfl, HI1.out, hbw1.out⟩
set_option maxRecDepth 100000 in
set_option maxHeartbeats 6400000 in
theorem AllPlacements_n (W : Int) (A B : Option Addr) (n c q cb : Nat) (rows : List Int) (hs : List H) (P : List (List C)) (w : World) (hr : Rd w A (vI rows)) (hl : rows.length = n) (hv : (isReg W rows && pcs P) = false) (hp : RdP w B q hs P) (hq : q ≤ 1048576) (htc : totC P ≤ 1048576) :
    Calls Tryz.prog 41 #[.agg #[.int .i64 W, .slice A n c], .slice B q cb] w (RetO w w.heap.size 3 1 (vI [])) := by
  have hsh : pcs P = true → isReg W rows = false ∧ ∀ f ∈ P, isShape f = true := fun h => ⟨by rw [h, Bool.and_true] at hv; exact hv, (pcs_atS h).2⟩
  obtain ⟨pc, hpc⟩ : ∃ b, pcs P = b := ⟨_, rfl⟩
  rw [hpc] at hsh
  have HSH := Lib.hid hsh
  have HTC := Lib.hid htc
  have HPC := Lib.hid hpc
  have HL := Lib.hid hl
  have HR := Lib.hid ((hr.alloc (.cells #[.int .i64 W, .slice A n c] 29)).alloc (.cells #[] 3))
  have HP := Lib.hid ((hp.alloc (.cells #[.int .i64 W, .slice A n c] 29)).alloc (.cells #[] 3))
  have HB1 := Lib.hid ((Blk.new w 29 #[.int .i64 W, .slice A n c]).alloc (.cells #[] 3))
  have HI0 : Hid (((w.alloc (.cells #[.int .i64 W, .slice A n c] 29)).alloc (.cells #[] 3)).ownsRow w.heap.size 3 1 (.slice (some ⟨w.heap.size + 1, 0, none⟩) 0 0) 0 (vI [])) := by
    have h := own_new (w.alloc (.cells #[.int .i64 W, .slice A n c] 29)) 3 1 0 #[] rfl (by simp [maxLen]) (base := w.heap.size) (by simp)
    exact Lib.hid (by simpa [vI] using h)
  have hbw1 : Below w.heap.size w ((w.alloc (.cells #[.int .i64 W, .slice A n c] 29)).alloc (.cells #[] 3)) := bel_alloc (bel_alloc (Below.refl _ _) _) _
  clear hl hr hp hsh hpc htc hv
  go_enter Tryz.func41, Tryz.ntmps41
  go_wp2_with fail
  obtain ⟨w1, hw1⟩ : ∃ w1, (w.alloc (.cells #[.int .i64 W, .slice A n c] 29)).alloc (.cells #[] 3) = w1 := ⟨_, rfl⟩
  rw [hw1] at HR HP HB1 hbw1 HI0 ⊢
  have HBW := Lib.hid hbw1
  clear hw1 hbw1
  go_loopw [6, 5] (fun e6 e5 wr => ∃ (i : Nat), i ≤ q ∧ e6 = .int .i64 i ∧ e5 = .slice (some ⟨w.heap.size + 1, 0, none⟩) 0 0 ∧ Below w1.heap.size w1 wr) (fun e6 _ _ => q - (intOf e6).toNat)
  case atStart => exact ⟨0, Nat.zero_le _, rfl, rfl, Below.refl _ _⟩
  case round =>
    obtain ⟨i, hi, rfl, rfl, hb⟩ := hrel
    have HB := Lib.hid hb
    clear hb
    by_cases hlt : i < q
    · have hi0 : (0 : Int) ≤ (i : Int) := by omega
      have hi1 : (i : Int) < (q : Int) := by omega
      go_wp2_with fail
      refine (ArePieces_s _ q cb hs P _ (HP.out.below HB.out) hq HTC.out).mono ?_
      rw [HPC.out]
      rintro e w2 ⟨rfl, hb2⟩
      have HB12 := Lib.hid (bel_trans HB.out hb2)
      clear hb2
      cases pc with
      | false =>
        go_wp2_with fail
        go_ret
        exact ⟨_, 0, 0, rfl, own_keep HI0.out HB12.out, bel_trans HBW.out HB12.out⟩
      | true =>
        obtain ⟨x, f, g, off, _, hfx, hBe, hg0, d0, l1, r1⟩ := HP.out.at_ hlt
        have hfs := (HSH.out rfl).2 f (List.mem_of_getElem? hfx)
        have HNV := Lib.hid (HSH.out rfl).1
        obtain ⟨C1, m1, k1⟩ := x
        have HFS := Lib.hid hfs
        have HR1 := Lib.hid r1
        have HL1 := Lib.hid l1
        dsimp only at d0
        have d1 := keep_below HB12.out d0
        subst hBe
        clear hfx r1 l1 hfs d0
        have hB := HB1.out.below HB12.out
        have b0 : w2.cell? ⟨w.heap.size, 0, none⟩ = some (.int .i64 W) := by simpa using hB.cell 0
        have b1 : w2.cell? ⟨w.heap.size, 1, none⟩ = some (.slice A n c) := by simpa using hB.cell 1
        have hgw := hB.lt
        have hg2 : g < w2.heap.size := world_ltS d1
        clear hB
        go_wp2_with fail
        (refine wp_region_tailN (C := ExC w2) 5 (by kernel_rfl) (by kernel_rfl) (ExC.drawn _) (fun _ _ h k => ExC.ext h k) ?_; simp only [List.take_succ_cons, List.take_zero, List.drop_succ_cons, List.drop_zero]; (repeat (first | (refine headSkip (by rfl) rfl ?_; simp only [List.setIfInBounds_toArray, List.set_cons_zero, List.set_cons_succ]) | (refine headV (v := ?_) (by rfl) rfl (fun w' hcw => ?_) ?_; rotate_left; ((try dsimp only at hcw); have hbc := hcw.cells; go_simp; first | done | with_reducible rfl | fail); simp only [List.setIfInBounds_toArray, List.set_cons_zero, List.set_cons_succ]))); unfold wpHead)
        refine tailK (by rfl) (fun u1 hc1 he1 K hK => ?_)
        go_simp
        refine (PlacementsOf_n W A C1 n c m1 k1 rows f _ (HR.out.below (bel_trans HB12.out hc1)) HL.out HNV.out (HR1.out.below (bel_trans HB12.out hc1)) HL1.out HFS.out).mono ?_
        rintro e u2 ⟨gE, q2, c2, rfl, hOE, hbE⟩
        have hc2 := bel_trans hc1 hbE
        refine hK _ _ hc2 ?_
        clear hK K
        have hq2 : q2 = 0 := by have := own_len hOE; simp [vI] at this; omega
        subst hq2
        (refine tailK (by rfl) (fun u3 hc3 he3 K hK => ?_); go_simp; refine hK _ _ (hc3) ?_; clear hK K)
        (refine fun w4 hc4 he4 => NoPanic.normal ?_)
        have HB14 := Lib.hid (bel_trans HB12.out hc4)
        clear hOE d1 b0 b1 hgw hc3 he3 hc2 hbE hc1 he1 he4 hg2 hc4
        go_wp2_with fail
        go_loopw [8, 5] (fun e8 e5 wr => e8 = .int .i64 (0 : Nat) ∧ e5 = .slice (some ⟨w.heap.size + 1, 0, none⟩) 0 0 ∧ wr = w4) (fun _ _ _ => 0)
        case atStart => exact ⟨rfl, rfl, rfl⟩
        case round =>
          obtain ⟨rfl, rfl, rfl⟩ := hrel
          go_wp2_with fail
          exact ⟨⟨i + 1, by omega, by go_num, rfl, HB14.out⟩, by simp [intOf]; omega⟩
    · obtain rfl : i = q := by omega
      have hi1 : ¬ (i : Int) < (i : Int) := by omega
      go_wp2_with fail
      go_ret
      exact ⟨_, 0, 0, rfl, own_keep HI0.out HB.out, bel_trans HBW.out HB.out⟩
end Go.Proofs.YtcgjnonlndaoeaaGreatDoor

/- How many bits a number has: the library's way by sums of neighbours. No program is in sight. -/
namespace Go.Proofs.YtcgjnonlndaoeaaGreatDoor
open Go.RowKit
set_option linter.unusedVariables false
/-- Numbers by bytes. -/
def byt : List Nat → Nat
  | [] => 0
  | d :: t => 256 * byt t + d
theorem land_split (k a b c d : Nat) (hb : b < 2 ^ k) (hd : d < 2 ^ k) : (2 ^ k * a + b) &&& (2 ^ k * c + d) = 2 ^ k * (a &&& c) + (b &&& d) := by
  have hbd : b &&& d < 2 ^ k := Nat.lt_of_le_of_lt Nat.and_le_left hb
  apply Nat.eq_of_testBit_eq
  intro i
  rw [Nat.testBit_and, Nat.testBit_two_pow_mul_add a hb, Nat.testBit_two_pow_mul_add c hd, Nat.testBit_two_pow_mul_add _ hbd]
  split
  · rw [Nat.testBit_and]
  · rw [Nat.testBit_and]
theorem low_and (t a b m : Nat) (ha : a < 2 ^ t) (hm : m < 2 ^ t) : (2 ^ t * b + a) &&& m = a &&& m := by
  have h := land_split t b a 0 m ha hm
  simpa using h
theorem byt_len0 (m : Nat) : byt (List.replicate 0 m) = 0 := rfl
theorem byt_shift_and (j m : Nat) (hj : j ≤ 8) (hm : m < 2 ^ (8 - j)) : ∀ ds : List Nat, (∀ d ∈ ds, d < 256) → byt ds / 2 ^ j &&& byt (List.replicate ds.length m) = byt (ds.map fun d => d / 2 ^ j &&& m)
  | [], _ => by simp [byt]
  | d :: t, h => by
    have ih := byt_shift_and j m hj hm t (fun x hx => h x (by simp [hx]))
    have hd := h d (by simp)
    have hp : 2 ^ j * 2 ^ (8 - j) = 256 := by rw [← Nat.pow_add, show j + (8 - j) = 8 from by omega]
    have hjp : 0 < 2 ^ j := Nat.pow_pos (by decide)
    have hkp : 0 < 2 ^ (8 - j) := Nat.pow_pos (by decide)
    have hdj : d / 2 ^ j < 2 ^ (8 - j) := by rw [Nat.div_lt_iff_lt_mul hjp, Nat.mul_comm, hp]; exact hd
    have hm2 : m < 2 ^ 8 := Nat.lt_of_lt_of_le hm (Nat.pow_le_pow_right (by decide) (by omega))
    have e1 : (256 * byt t + d) / 2 ^ j = 2 ^ 8 * (byt t / 2 ^ j) + (2 ^ (8 - j) * (byt t % 2 ^ j) + d / 2 ^ j) := by
      have e2 : 256 * byt t + d = 2 ^ j * (2 ^ (8 - j) * byt t) + d := by rw [← Nat.mul_assoc, hp]
      rw [e2, Nat.mul_add_div hjp]
      have e3 := Nat.div_add_mod (byt t) (2 ^ j)
      have e4 : 2 ^ (8 - j) * byt t = 2 ^ 8 * (byt t / 2 ^ j) + 2 ^ (8 - j) * (byt t % 2 ^ j) := by
        conv => lhs; rw [← e3]
        rw [Nat.mul_add, ← Nat.mul_assoc, Nat.mul_comm (2 ^ (8 - j)) (2 ^ j), hp]
      omega
    have hlow : 2 ^ (8 - j) * (byt t % 2 ^ j) + d / 2 ^ j < 2 ^ 8 := by
      have h1 : byt t % 2 ^ j + 1 ≤ 2 ^ j := Nat.mod_lt _ hjp
      have h2 : 2 ^ (8 - j) * (byt t % 2 ^ j + 1) ≤ 2 ^ (8 - j) * 2 ^ j := Nat.mul_le_mul_left _ h1
      rw [Nat.mul_comm _ (2 ^ j), hp, Nat.mul_add] at h2
      omega
    show (256 * byt t + d) / 2 ^ j &&& (256 * byt (List.replicate t.length m) + m) = 256 * byt (t.map _) + (d / 2 ^ j &&& m)
    rw [e1, show (256 : Nat) = 2 ^ 8 from rfl, land_split 8 _ _ _ _ hlow hm2, ih, low_and (8 - j) _ _ _ hdj hm]
theorem byt_and (m : Nat) (hm : m < 256) (ds : List Nat) (h : ∀ d ∈ ds, d < 256) : byt ds &&& byt (List.replicate ds.length m) = byt (ds.map fun d => d &&& m) := by
  have h1 := byt_shift_and 0 m (by decide) (by simpa using hm) ds h
  simpa using h1
theorem byt_add : ∀ a b : List Nat, a.length = b.length → byt a + byt b = byt (List.zipWith (· + ·) a b)
  | [], [], _ => rfl
  | x :: s, y :: t, h => by
    have := byt_add s t (by simpa using h)
    show 256 * byt s + x + (256 * byt t + y) = 256 * byt (List.zipWith _ s t) + (x + y)
    omega
  | [], _ :: _, h => by simp at h
  | _ :: _, [], h => by simp at h
theorem byt_map2 (f g : Nat → Nat) (ds : List Nat) : byt (ds.map f) + byt (ds.map g) = byt (ds.map fun d => f d + g d) := by
  rw [byt_add _ _ (by simp)]
  congr 1
  induction ds with
  | nil => rfl
  | cons d t ih => simp [ih]
/-- The first sums of a byte. -/
def st1 (b : Nat) : Nat := (b / 2 &&& 85) + (b &&& 85)
def st2 (b : Nat) : Nat := (b / 4 &&& 51) + (b &&& 51)
def nb8 (b : Nat) : Nat := (List.range 8).countP fun i => b.testBit i
theorem st_all : ((List.range 256).all fun b => decide (st1 b < 256) && decide (st2 (st1 b) < 256) && decide (st2 (st1 b) / 16 ≤ 4) && decide (st2 (st1 b) % 16 ≤ 4) && decide (st2 (st1 b) / 16 + st2 (st1 b) % 16 = nb8 b)) = true := by decide +kernel
theorem st_ok {b : Nat} (h : b < 256) : st1 b < 256 ∧ st2 (st1 b) < 256 ∧ st2 (st1 b) / 16 ≤ 4 ∧ st2 (st1 b) % 16 ≤ 4 ∧ st2 (st1 b) / 16 + st2 (st1 b) % 16 = nb8 b := by
  have h0 := st_all
  rw [List.all_eq_true] at h0
  have := h0 b (by simpa using h)
  simpa [Bool.and_eq_true, and_assoc] using this
theorem stage1 (ds : List Nat) (h : ∀ d ∈ ds, d < 256) : (byt ds / 2 &&& byt (List.replicate ds.length 85)) + (byt ds &&& byt (List.replicate ds.length 85)) = byt (ds.map st1) := by
  have h1 := byt_shift_and 1 85 (by decide) (by decide) ds h
  rw [Nat.pow_one] at h1
  rw [h1, byt_and 85 (by decide) ds h, byt_map2]
  rfl
theorem stage2 (ds : List Nat) (h : ∀ d ∈ ds, d < 256) : (byt ds / 4 &&& byt (List.replicate ds.length 51)) + (byt ds &&& byt (List.replicate ds.length 51)) = byt (ds.map st2) := by
  have h1 := byt_shift_and 2 51 (by decide) (by decide) ds h
  rw [show (2 : Nat) ^ 2 = 4 from rfl] at h1
  rw [h1, byt_and 51 (by decide) ds h, byt_map2]
  rfl
/-- Bytes whose halves are small: the halves are added. -/
theorem stage3 : ∀ ds : List Nat, (∀ d ∈ ds, d < 256 ∧ d / 16 ≤ 4 ∧ d % 16 ≤ 4) → (byt ds / 16 + byt ds) &&& byt (List.replicate ds.length 15) = byt (ds.map fun d => d / 16 + d % 16)
  | [], _ => by simp [byt]
  | d :: t, h => by
    have ih := stage3 t (fun x hx => h x (by simp [hx]))
    obtain ⟨h1, h2, h3⟩ := h d (by simp)
    have hl : byt t % 16 ≤ 4 := by
      cases t with
      | nil => simp [byt]
      | cons e s =>
        have := (h e (by simp)).2.2
        show (256 * byt s + e) % 16 ≤ 4
        omega
    have e1 : (256 * byt t + d) / 16 + (256 * byt t + d) = 2 ^ 8 * (byt t / 16 + byt t) + (16 * (byt t % 16) + d / 16 + d) := by omega
    show ((256 * byt t + d) / 16 + (256 * byt t + d)) &&& (256 * byt (List.replicate t.length 15) + 15) = 256 * byt (t.map _) + (d / 16 + d % 16)
    rw [e1, show (256 : Nat) = 2 ^ 8 from rfl, land_split 8 _ _ _ _ (by omega) (by decide), ih]
    congr 1
    rw [show (15 : Nat) = 2 ^ 4 - 1 from rfl, Nat.and_two_pow_sub_one_eq_mod]
    omega
/-- The last sums. -/
theorem last7 (c0 c1 c2 c3 c4 c5 c6 c7 x y z : Nat) (h0 : c0 ≤ 8) (h1 : c1 ≤ 8) (h2 : c2 ≤ 8) (h3 : c3 ≤ 8) (h4 : c4 ≤ 8) (h5 : c5 ≤ 8) (h6 : c6 ≤ 8) (h7 : c7 ≤ 8)
    (hx : x = byt [c0, c1, c2, c3, c4, c5, c6, c7] + byt [c0, c1, c2, c3, c4, c5, c6, c7] / 256) (hy : y = x + x / 65536) (hz : z = y + y / 4294967296) : z % 128 = c0 + c1 + c2 + c3 + c4 + c5 + c6 + c7 := by
  simp only [byt] at hx
  have hx' : x = (c0 + c1) + 256 * (c1 + c2) + 65536 * (c2 + c3) + 16777216 * (c3 + c4) + 4294967296 * (c4 + c5) + 1099511627776 * (c5 + c6) + 281474976710656 * (c6 + c7) + 72057594037927936 * c7 := by omega
  have hy' : y = (c0 + c1 + c2 + c3) + 256 * (c1 + c2 + c3 + c4) + 65536 * (c2 + c3 + c4 + c5) + 16777216 * (c3 + c4 + c5 + c6) + 4294967296 * (c4 + c5 + c6 + c7) + 1099511627776 * (c5 + c6 + c7) + 281474976710656 * (c6 + c7) + 72057594037927936 * c7 := by omega
  clear hx hx' hy
  obtain ⟨lo, hlo⟩ : ∃ lo, lo = (c0 + c1 + c2 + c3) + 256 * (c1 + c2 + c3 + c4) + 65536 * (c2 + c3 + c4 + c5) + 16777216 * (c3 + c4 + c5 + c6) := ⟨_, rfl⟩
  obtain ⟨hi, hhi⟩ : ∃ hi, hi = (c4 + c5 + c6 + c7) + 256 * (c5 + c6 + c7) + 65536 * (c6 + c7) + 16777216 * c7 := ⟨_, rfl⟩
  have h32 : lo < 4294967296 := by omega
  have hyl : y = lo + 4294967296 * hi := by omega
  have hd : y / 4294967296 = hi := by rw [hyl, Nat.add_mul_div_left _ _ (by decide), Nat.div_eq_of_lt h32, Nat.zero_add]
  rw [hd] at hz
  obtain ⟨a, ha⟩ : ∃ a, a = (c1 + c2 + c3 + c4) + 256 * (c2 + c3 + c4 + c5) + 65536 * (c3 + c4 + c5 + c6) + 16777216 * hi + (c5 + c6 + c7) + 256 * (c6 + c7) + 65536 * c7 := ⟨_, rfl⟩
  have hz' : z = (c0 + c1 + c2 + c3 + c4 + c5 + c6 + c7) + 256 * a := by omega
  clear hy' hz hd ha hyl hlo hhi h32
  omega
/-- The number of bits. -/
def pop (n : Nat) : Nat := (List.range 64).countP fun i => n.testBit i
def bytes8 (n : Nat) : List Nat := [n % 256, n / 256 % 256, n / 65536 % 256, n / 16777216 % 256, n / 4294967296 % 256, n / 1099511627776 % 256, n / 281474976710656 % 256, n / 72057594037927936]
theorem byt_bytes (n : Nat) : byt (bytes8 n) = n := by
  simp only [bytes8, byt]
  omega
theorem bytes_lt {n : Nat} (h : n < 2 ^ 64) : ∀ d ∈ bytes8 n, d < 256 := by
  intro d hd
  simp only [bytes8, List.mem_cons, List.not_mem_nil, or_false] at hd
  omega
theorem countP_shift (p : Nat → Bool) (a b : Nat) : (List.range (a + b)).countP p = (List.range a).countP p + (List.range b).countP fun i => p (a + i) := by
  induction b with
  | zero => simp
  | succ b ih => rw [← Nat.add_assoc, List.range_succ, List.countP_append, ih, List.range_succ, List.countP_append, Nat.add_assoc]; simp
theorem nb8_at (n k : Nat) : nb8 (n / 2 ^ (8 * k) % 256) = (List.range 8).countP fun i => n.testBit (8 * k + i) := by
  unfold nb8
  apply List.countP_congr
  intro i hi
  have hi8 : i < 8 := by simpa using hi
  rw [show (256 : Nat) = 2 ^ 8 from rfl, Nat.testBit_mod_two_pow, Nat.testBit_div_two_pow]
  simp [hi8, Nat.add_comm]
theorem pop_bytes {n : Nat} (h : n < 2 ^ 64) : pop n = nb8 (n % 256) + nb8 (n / 256 % 256) + nb8 (n / 65536 % 256) + nb8 (n / 16777216 % 256) + nb8 (n / 4294967296 % 256) + nb8 (n / 1099511627776 % 256) + nb8 (n / 281474976710656 % 256) + nb8 (n / 72057594037927936) := by
  have e7 : n / 72057594037927936 = n / 2 ^ (8 * 7) % 256 := by
    rw [show (2 : Nat) ^ (8 * 7) = 72057594037927936 from rfl]; omega
  have h0 : nb8 (n % 256) = (List.range 8).countP fun i => n.testBit (0 + i) := by have h := nb8_at n 0; rw [show (2 : Nat) ^ (8 * 0) = 1 from rfl, Nat.div_one] at h; exact h
  have h1 : nb8 (n / 256 % 256) = (List.range 8).countP fun i => n.testBit (8 + i) := nb8_at n 1
  have h2 : nb8 (n / 65536 % 256) = (List.range 8).countP fun i => n.testBit (16 + i) := nb8_at n 2
  have h3 : nb8 (n / 16777216 % 256) = (List.range 8).countP fun i => n.testBit (24 + i) := nb8_at n 3
  have h4 : nb8 (n / 4294967296 % 256) = (List.range 8).countP fun i => n.testBit (32 + i) := nb8_at n 4
  have h5 : nb8 (n / 1099511627776 % 256) = (List.range 8).countP fun i => n.testBit (40 + i) := nb8_at n 5
  have h6 : nb8 (n / 281474976710656 % 256) = (List.range 8).countP fun i => n.testBit (48 + i) := nb8_at n 6
  have h7 : nb8 (n / 72057594037927936) = (List.range 8).countP fun i => n.testBit (56 + i) := by rw [e7]; exact nb8_at n 7
  simp only [Nat.zero_add] at h0
  rw [h0, h1, h2, h3, h4, h5, h6, h7]
  unfold pop
  have s := fun a => countP_shift (fun i => n.testBit i) a 8
  rw [show (64 : Nat) = 56 + 8 from rfl, s, show (56 : Nat) = 48 + 8 from rfl, s, show (48 : Nat) = 40 + 8 from rfl, s, show (40 : Nat) = 32 + 8 from rfl, s, show (32 : Nat) = 24 + 8 from rfl, s, show (24 : Nat) = 16 + 8 from rfl, s, show (16 : Nat) = 8 + 8 from rfl, s]
/-- The library's sums. -/
def popS (n : Nat) : Nat :=
  let a := (n / 2 &&& 0x5555555555555555) + (n &&& 0x5555555555555555)
  let b := (a / 4 &&& 0x3333333333333333) + (a &&& 0x3333333333333333)
  let c := (b / 16 + b) &&& 0x0f0f0f0f0f0f0f0f
  let x := c + c / 256
  let y := x + x / 65536
  let z := y + y / 4294967296
  z % 128
theorem popS_eq {n : Nat} (h : n < 2 ^ 64) : popS n = pop n := by
  have hb := bytes_lt h
  have e0 := byt_bytes n
  have s1 := stage1 (bytes8 n) hb
  have hb1 : ∀ d ∈ (bytes8 n).map st1, d < 256 := fun d hd => by
    obtain ⟨b, hb', rfl⟩ := List.mem_map.1 hd
    exact (st_ok (hb b hb')).1
  have s2 := stage2 ((bytes8 n).map st1) hb1
  have hb2 : ∀ d ∈ ((bytes8 n).map st1).map st2, d < 256 ∧ d / 16 ≤ 4 ∧ d % 16 ≤ 4 := fun d hd => by
    rw [List.map_map] at hd
    obtain ⟨b, hb', rfl⟩ := List.mem_map.1 hd
    have := st_ok (hb b hb')
    exact ⟨this.2.1, this.2.2.1, this.2.2.2.1⟩
  have s3 := stage3 (((bytes8 n).map st1).map st2) hb2
  rw [e0] at s1
  have m1 : byt (List.replicate (bytes8 n).length 85) = 0x5555555555555555 := by simp only [bytes8, List.length_cons, List.length_nil]; decide
  have m2 : byt (List.replicate ((bytes8 n).map st1).length 51) = 0x3333333333333333 := by simp only [bytes8, List.map_cons, List.map_nil, List.length_cons, List.length_nil]; decide
  have m3 : byt (List.replicate (((bytes8 n).map st1).map st2).length 15) = 0x0f0f0f0f0f0f0f0f := by simp only [bytes8, List.map_cons, List.map_nil, List.length_cons, List.length_nil]; decide
  rw [m1] at s1
  rw [m2] at s2
  rw [m3] at s3
  have hl : ((((bytes8 n).map st1).map st2).map fun d => d / 16 + d % 16) = (bytes8 n).map nb8 := by
    rw [List.map_map, List.map_map]
    refine List.map_congr_left fun b hb' => ?_
    exact (st_ok (hb b hb')).2.2.2.2
  rw [hl] at s3
  have n8 : ∀ b, nb8 b ≤ 8 := fun b => by
    have h := List.countP_le_length (p := fun i => b.testBit i) (l := List.range 8)
    simpa [nb8] using h
  unfold popS
  simp only [s1, s2, s3]
  rw [pop_bytes h]
  have := last7 (nb8 (n % 256)) (nb8 (n / 256 % 256)) (nb8 (n / 65536 % 256)) (nb8 (n / 16777216 % 256)) (nb8 (n / 4294967296 % 256)) (nb8 (n / 1099511627776 % 256)) (nb8 (n / 281474976710656 % 256)) (nb8 (n / 72057594037927936)) _ _ _ (n8 _) (n8 _) (n8 _) (n8 _) (n8 _) (n8 _) (n8 _) (n8 _) rfl rfl rfl
  simpa only [bytes8, List.map_cons, List.map_nil] using this
end Go.Proofs.YtcgjnonlndaoeaaGreatDoor
