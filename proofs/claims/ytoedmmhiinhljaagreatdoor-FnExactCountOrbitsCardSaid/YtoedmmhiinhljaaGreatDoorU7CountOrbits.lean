/- Texts of this claim, one behind the other: part 7. -/
import Derived.Test.YtoedmmhiinhljaaGreatDoorU6CountOrbits
import Derived.Outline
import Derived.WalkLawsBesides
import Derived.WalkSpells
import Derived.BigQuiet
import Derived.Deep.QuietTactic
import Derived.Deep.RegionHeld3
import Derived.Deep.RegionWith
import Derived.Deep.DeepCutAuto
import Derived.Deep.CutBlock
import Derived.Deep.DrawnRows
import Derived.Laws.CopyOwn
import Derived.Sort.OwnSortedInts
/- Cells moved, moved to their corner, the neighbours of a cell: the program. -/
namespace Go.Proofs.YtoedmmhiinhljaaGreatDoor
open Go.RowKit
set_option linter.unusedVariables false
attribute [local go_sem ↓] Go.wp_at_zero Go.wp_at_succ

set_option maxHeartbeats 800000 in
theorem moved_i (A : Option Addr) (n c : Nat) (xs : List C) (x y : Int) (w : World) (hr : Rd w A (vC xs)) (hl : xs.length = n) (hn : n ≤ 1048576) (hs : ∀ d ∈ xs, small d) (hx : -1000 ≤ x ∧ x ≤ 1000) (hy : -1000 ≤ y ∧ y ≤ 1000) :
    Calls Tryz.prog 73 #[.slice A n c, .int .i64 x, .int .i64 y] w (RetS w 66 2 (vC (mv xs x y))) := by
  have HL := Lib.hid hl
  have HS := Lib.hid hs
  obtain ⟨hx1, hx2⟩ := hx
  obtain ⟨hy1, hy2⟩ := hy
  clear hl hs
  go_enter Tryz.func73, Tryz.ntmps73
  go_wp2
  go_loopw [12, 7] (fun e12 e7 wr => ∃ (k cq : Nat) (D : Option Addr), k ≤ n ∧ e12 = .int .i64 k ∧ e7 = .slice D k cq ∧ wr.ownsRow w.heap.size 66 2 (.slice D k cq) k (vC (mv (xs.take k) x y)) ∧ Below w.heap.size w wr) (fun e12 _ _ => n - (intOf e12).toNat)
  case atStart => exact ⟨0, 0, none, Nat.zero_le _, rfl, rfl, own_nil _ _ _ _, Below.refl _ _⟩
  case round =>
    obtain ⟨k, cq, D, hk, rfl, rfl, hown, hb⟩ := hrel
    by_cases hlt : k < n
    · have hkl : k < xs.length := by rw [HL.out]; exact hlt
      have hk0 : (0 : Int) ≤ (k : Int) := by omega
      have hk1 : (k : Int) < (n : Int) := by omega
      obtain ⟨g, off, rfl, hg, d1, d2⟩ := RdC.at_ (hr.below hb) hkl
      have hst := mv_take xs x y k hkl
      have hsm := HS.out _ (List.getElem_mem hkl)
      obtain ⟨p, hp⟩ : ∃ p, xs[k].1 = p := ⟨_, rfl⟩
      obtain ⟨q, hq⟩ : ∃ q, xs[k].2 = q := ⟨_, rfl⟩
      unfold small at hsm
      rw [hp, hq] at hsm hst
      rw [hp] at d1
      rw [hq] at d2
      have e1 : IntKind.i64.wrap (p + x) = p + x := Go.IntWalk.i64_in _ (by omega)
      have e2 : IntKind.i64.wrap (q + y) = q + y := Go.IntWalk.i64_in _ (by omega)
      have HST := Lib.hid hst
      have HO := Lib.hid hown
      have hbs := hb.size
      have HRN : Hid (Rd ((wr.alloc (.cells #[.int .i64 p, .int .i64 q] 66)).alloc (.cells #[.int .i64 (p + x), .int .i64 (q + y)] 66)) (some ⟨wr.heap.size + 1, 0, none⟩) (vC [(p + x, q + y)])) := by
        have := rd_newC (wr.alloc (.cells #[.int .i64 p, .int .i64 q] 66)) 66 (p + x) (q + y)
        rw [show (wr.alloc (.cells #[.int .i64 p, .int .i64 q] 66)).heap.size = wr.heap.size + 1 from by simp] at this
        exact this
      clear hst hown hp hq hsm
      go_wp2_with (at_builtin; go_must (refine app_C _ rfl _ _ rfl w.heap.size _ _ _ _ rfl ((HO.out.alloc _).alloc _) _ _ _ [(p + x, q + y)] rfl HRN.out rfl (by omega) (by simp; omega) ?_); intro D2 cp2 w8 ho8 hg8 hat8; have HO8 := Lib.hid ho8; have HG8 := Lib.hid hg8; clear ho8 hg8 hat8)
      exact ⟨⟨k + 1, cp2, D2, by omega, by go_num, rfl, by rw [HST.out]; exact HO8.out, bel_app (bel_alloc (bel_alloc hb _) _) HG8.out (fun g' hg1 => ((own_lt HO.out) g' hg1).1)⟩, by simp [intOf]; omega⟩
    · obtain rfl : k = n := by omega
      rw [List.take_of_length_le (by rw [HL.out]; omega)] at hown
      have HO := Lib.hid hown
      have hk1 : ¬ (k : Int) < (k : Int) := by omega
      clear hown
      go_wp2
      go_ret
      exact ⟨_, _, _, rfl, HO.out, hb⟩
set_option maxHeartbeats 1600000 in
theorem corner_i (A : Option Addr) (n c : Nat) (xs : List C) (w : World) (hr : Rd w A (vC xs)) (hl : xs.length = n) (hn1 : 1 ≤ n) (hn : n ≤ 12) (hs : ∀ d ∈ xs, small d) :
    Calls Tryz.prog 108 #[.slice A n c] w (RetS w 66 2 (vC (cornI xs))) := by
  have h0 : 0 < xs.length := by omega
  have hsm := minC_small h0 hs
  have hms : ∀ k, k ≤ n → (-1000 ≤ minTo (·.1) xs k ∧ minTo (·.1) xs k ≤ 1000) ∧ (-1000 ≤ minTo (·.2) xs k ∧ minTo (·.2) xs k ≤ 1000) := by
    intro k hk
    obtain ⟨a, ha, e1⟩ := minTo_at (·.1) xs h0 k (by omega)
    obtain ⟨b, hb, e2⟩ := minTo_at (·.2) xs h0 k (by omega)
    have h1 := hs a ha
    have h2 := hs b hb
    unfold small at h1 h2
    rw [e1, e2]
    exact ⟨h1.1, h2.2⟩
  have hV : cornI xs = sortC (mv xs (-(minTo (·.1) xs n)) (-(minTo (·.2) xs n))) := by unfold cornI minC; rw [hl]
  have HV := Lib.hid hV
  have HL := Lib.hid hl
  have HS := Lib.hid hs
  have HMS := Lib.hid hms
  have HR := Lib.hid hr
  obtain ⟨g0, o0, hA, hg0, z1, z2⟩ := RdC.at_ hr h0
  subst hA
  obtain ⟨u, hu⟩ : ∃ u, xs[0].1 = u := ⟨_, rfl⟩
  obtain ⟨v, hv⟩ : ∃ v, xs[0].2 = v := ⟨_, rfl⟩
  rw [hu] at z1
  rw [hv] at z2
  simp only [Nat.zero_mul, Nat.add_zero] at z1 z2
  have H1 : Hid (minTo (·.1) xs 0 = u) := by show (xs.getD 0 default).1 = u; rw [getD_in xs h0, hu]
  have H2 : Hid (minTo (·.2) xs 0 = v) := by show (xs.getD 0 default).2 = v; rw [getD_in xs h0, hv]
  have hn0 : (0 : Int) < (n : Int) := by omega
  have hn00 : 0 < n := by omega
  clear hl hs hms hr hV hu hv hsm
  go_enter Tryz.func108, Tryz.ntmps108
  go_wp2_with fail
  (refine wp_region_below (by kernel_rfl) (by kernel_rfl) ?_; (repeat (first | go_big_quiet_skip | (refine quietV (v := ?_) (by rfl) rfl (fun w' hbw => ?_) ?_; rotate_left; ((try dsimp only at hbw); have hbc := (bcell hbw).1; have hbf := (bcell hbw).2; go_simp; first | done | with_reducible rfl | fail); simp only [List.setIfInBounds_toArray, List.set_cons_zero, List.set_cons_succ]))); refine wpQuiet_nil ?_; intro wq hbq)
  clear z1 z2
  go_wp2_with fail
  go_loopw [17, 3, 4] (fun e17 e3 e4 wr => ∃ (k : Nat) (px py : Int), k ≤ n ∧ e17 = .int .i64 k ∧ e3 = .int .i64 px ∧ e4 = .int .i64 py ∧ minTo (·.1) xs k = px ∧ minTo (·.2) xs k = py ∧ Below w.heap.size w wr) (fun e17 _ _ _ => n - (intOf e17).toNat)
  case atStart => exact ⟨0, u, v, Nat.zero_le _, rfl, rfl, rfl, H1.out, H2.out, hbq⟩
  case round =>
    obtain ⟨k, px, py, hk, rfl, rfl, rfl, hpx, hpy, hb⟩ := hrel
    have HPX := Lib.hid hpx
    have HPY := Lib.hid hpy
    clear hpx hpy
    by_cases hlt : k < n
    · have hkl : k < xs.length := by rw [HL.out]; exact hlt
      have hk0 : (0 : Int) ≤ (k : Int) := by omega
      have hk1 : (k : Int) < (n : Int) := by omega
      obtain ⟨g, off, he, hg, d1, d2⟩ := RdC.at_ (HR.out.below hb) hkl
      simp only [Option.some.injEq, Addr.mk.injEq, and_true] at he
      obtain ⟨rfl, rfl⟩ := he
      obtain ⟨p, hp⟩ : ∃ p, xs[k].1 = p := ⟨_, rfl⟩
      obtain ⟨q, hq⟩ : ∃ q, xs[k].2 = q := ⟨_, rfl⟩
      rw [hp] at d1
      rw [hq] at d2
      have S1 : Hid (minTo (·.1) xs (k + 1) = if p < px then p else px) := by show minTo (·.1) xs (k + 1) = _; unfold minTo; rw [getD_in xs hkl, hp, HPX.out]
      have S2 : Hid (minTo (·.2) xs (k + 1) = if q < py then q else py) := by show minTo (·.2) xs (k + 1) = _; unfold minTo; rw [getD_in xs hkl, hq, HPY.out]
      clear hp hq
      by_cases h1 : p < px
      · by_cases h2 : q < py
        · have T1 : Hid (minTo (·.1) xs (k + 1) = p) := by show _ = _; rw [S1.out]; exact if_pos h1
          have T2 : Hid (minTo (·.2) xs (k + 1) = q) := by show _ = _; rw [S2.out]; exact if_pos h2
          go_wp2_with fail
          (refine wp_region_below (by kernel_rfl) (by kernel_rfl) ?_; (repeat (first | go_big_quiet_skip | (refine quietV (v := ?_) (by rfl) rfl (fun w' hbw => ?_) ?_; rotate_left; ((try dsimp only at hbw); have hbc := (bcell hbw).1; have hbf := (bcell hbw).2; go_simp; first | done | with_reducible rfl | fail); simp only [List.setIfInBounds_toArray, List.set_cons_zero, List.set_cons_succ]))); refine wpQuiet_nil ?_; intro wq hbq)
          go_wp2_with fail
          exact ⟨⟨k + 1, p, q, by omega, by go_num, by first | rfl | (simp <;> omega), by first | rfl | (simp <;> omega), T1.out, T2.out, bel_trans (bel_alloc hb _) hbq⟩, by simp [intOf]; omega⟩
        · have T1 : Hid (minTo (·.1) xs (k + 1) = p) := by show _ = _; rw [S1.out]; exact if_pos h1
          have T2 : Hid (minTo (·.2) xs (k + 1) = py) := by show _ = _; rw [S2.out]; exact if_neg h2
          go_wp2_with fail
          (refine wp_region_below (by kernel_rfl) (by kernel_rfl) ?_; (repeat (first | go_big_quiet_skip | (refine quietV (v := ?_) (by rfl) rfl (fun w' hbw => ?_) ?_; rotate_left; ((try dsimp only at hbw); have hbc := (bcell hbw).1; have hbf := (bcell hbw).2; go_simp; first | done | with_reducible rfl | fail); simp only [List.setIfInBounds_toArray, List.set_cons_zero, List.set_cons_succ]))); refine wpQuiet_nil ?_; intro wq hbq)
          go_wp2_with fail
          exact ⟨⟨k + 1, p, py, by omega, by go_num, by first | rfl | (simp <;> omega), by first | rfl | (simp <;> omega), T1.out, T2.out, bel_trans (bel_alloc hb _) hbq⟩, by simp [intOf]; omega⟩
      · by_cases h2 : q < py
        · have T1 : Hid (minTo (·.1) xs (k + 1) = px) := by show _ = _; rw [S1.out]; exact if_neg h1
          have T2 : Hid (minTo (·.2) xs (k + 1) = q) := by show _ = _; rw [S2.out]; exact if_pos h2
          go_wp2_with fail
          (refine wp_region_below (by kernel_rfl) (by kernel_rfl) ?_; (repeat (first | go_big_quiet_skip | (refine quietV (v := ?_) (by rfl) rfl (fun w' hbw => ?_) ?_; rotate_left; ((try dsimp only at hbw); have hbc := (bcell hbw).1; have hbf := (bcell hbw).2; go_simp; first | done | with_reducible rfl | fail); simp only [List.setIfInBounds_toArray, List.set_cons_zero, List.set_cons_succ]))); refine wpQuiet_nil ?_; intro wq hbq)
          go_wp2_with fail
          exact ⟨⟨k + 1, px, q, by omega, by go_num, by first | rfl | (simp <;> omega), by first | rfl | (simp <;> omega), T1.out, T2.out, bel_trans (bel_alloc hb _) hbq⟩, by simp [intOf]; omega⟩
        · have T1 : Hid (minTo (·.1) xs (k + 1) = px) := by show _ = _; rw [S1.out]; exact if_neg h1
          have T2 : Hid (minTo (·.2) xs (k + 1) = py) := by show _ = _; rw [S2.out]; exact if_neg h2
          go_wp2_with fail
          (refine wp_region_below (by kernel_rfl) (by kernel_rfl) ?_; (repeat (first | go_big_quiet_skip | (refine quietV (v := ?_) (by rfl) rfl (fun w' hbw => ?_) ?_; rotate_left; ((try dsimp only at hbw); have hbc := (bcell hbw).1; have hbf := (bcell hbw).2; go_simp; first | done | with_reducible rfl | fail); simp only [List.setIfInBounds_toArray, List.set_cons_zero, List.set_cons_succ]))); refine wpQuiet_nil ?_; intro wq hbq)
          go_wp2_with fail
          exact ⟨⟨k + 1, px, py, by omega, by go_num, by first | rfl | (simp <;> omega), by first | rfl | (simp <;> omega), T1.out, T2.out, bel_trans (bel_alloc hb _) hbq⟩, by simp [intOf]; omega⟩
    · obtain rfl : k = n := by omega
      have hk1 : ¬ (k : Int) < (k : Int) := by omega
      have hms := HMS.out k (Nat.le_refl _)
      rw [HPX.out, HPY.out] at hms
      obtain ⟨⟨q1, q2⟩, q3, q4⟩ := hms
      have e1 : IntKind.i64.wrap (-px) = -px := Go.IntWalk.i64_in _ (by omega)
      have e2 : IntKind.i64.wrap (-py) = -py := Go.IntWalk.i64_in _ (by omega)
      go_wp2_with fail
      refine (moved_i _ k c xs (-px) (-py) _ (HR.out.below hb) HL.out (by omega) HS.out (by omega) (by omega)).mono ?_
      rintro e w1 ⟨D, m, cD, rfl, ho, hb1⟩
      have hm : m = k := by have := own_len ho; rw [vC_length, mv_len, HL.out] at this; omega
      subst hm
      have HO := Lib.hid ho
      clear ho
      go_wp2_with fail
      refine (SortCells_i D m cD _ _ (Rd.of_own HO.out) (by rw [mv_len]; exact HL.out) hn1 hn).mono ?_
      rintro e w2 ⟨E, m2, cE, rfl, ho2, hb2⟩
      rw [← HPX.out, ← HPY.out, ← HV.out] at ho2
      have HO2 := Lib.hid (own_base (base' := w.heap.size) ho2 (by have := hb.size; have := hb1.size; omega))
      clear ho2
      go_wp2_with fail
      go_ret
      exact ⟨_, _, _, rfl, HO2.out, bel_trans (bel_trans hb hb1) hb2⟩
end Go.Proofs.YtoedmmhiinhljaaGreatDoor

/- The place of a shape in an ordered list: the library's search with the program's own test. -/
namespace Go.Proofs.YtoedmmhiinhljaaGreatDoor
open Go.RowKit
set_option linter.unusedVariables false
attribute [local go_sem ↓] Go.wp_at_zero Go.wp_at_succ

theorem world_lt {w : World} {a : Addr} {v : Value} (h : w.cell? a = some v) : a.block < w.heap.size := World.block_lt_of_cell? w a h
set_option maxHeartbeats 800000 in
/-- The test: is the shape at place i not less than the one that is sought? -/
theorem putTest (b2 b3 : Nat) (A : Option Addr) (n c : Nat) (hs : List H) (F : List (List C)) (B : Option Addr) (m d : Nat) (f : List C) (i : Nat) (w : World) (hr : RdF w A n hs F) (hf : CRow w (B, m, d) f)
    (c2 : w.cell? ⟨b2, 0, none⟩ = some (.slice A n c)) (c3 : w.cell? ⟨b3, 0, none⟩ = some (.slice B m d)) (hi : i < n) (hl : ∀ x ∈ F, x.length ≤ 1048576) (hm : m ≤ 1048576) (b : Bool) (hv : b = !ltS (F.getD i default) f) :
    Calls Tryz.prog 104 #[.int .i64 (i : Int), .pointer (some ⟨b2, 0, none⟩), .pointer (some ⟨b3, 0, none⟩)] w (Ret w (.bool b)) := by
  obtain ⟨x, t, g, off, hsx, hfx, rfl, hg, c1, hrow⟩ := hr.at_ hi
  have ht : F.getD i default = t := by rw [List.getD_eq_getElem?_getD, hfx]; rfl
  have htl := hl t (List.mem_of_getElem? hfx)
  obtain ⟨C1, m1, k1⟩ := x
  have h1 : t.length = m1 := hrow.1
  have H1 := Lib.hid h1
  have HR := Lib.hid hrow
  have HF := Lib.hid hf
  have HB := Lib.hid (world_lt c2)
  have HB3 := Lib.hid (world_lt c3)
  have hb2 := HB.out
  have hb3 := HB3.out
  have hm1 : m1 ≤ 1048576 := by omega
  have hi0 : (0 : Int) ≤ (i : Int) := by omega
  have hi1 : (i : Int) < (n : Int) := by omega
  dsimp only at c1
  obtain ⟨v, hve⟩ : ∃ v, cmpS t f = v := ⟨_, rfl⟩
  have hb : b = decide (v ≥ 0) := by rw [hv, ht, ← hve, cmpS_neg]
  have HV := Lib.hid hve
  subst hb
  clear hv hve ht htl hsx hfx hrow hf h1 hr hl
  go_enter Tryz.func104, Tryz.ntmps104
  go_wp2_with fail
  (refine wp_region_below (by kernel_rfl) (by kernel_rfl) ?_; (repeat (first | go_big_quiet_skip | (refine quietV (v := ?_) (by rfl) rfl (fun w' hbw => ?_) ?_; rotate_left; ((try dsimp only at hbw); have hbc := (bcell hbw).1; have hbf := (bcell hbw).2; go_simp; first | done | with_reducible rfl | exact callsB (v := .int .i64 v) (by rw [← HV.out]; exact CompareShapes_i C1 B m1 k1 m d t f _ (HR.out.2.1.below hbw) (HF.out.2.1.below hbw) H1.out HF.out.1 (by omega) (by omega)) hbw); simp only [List.setIfInBounds_toArray, List.set_cons_zero, List.set_cons_succ]))); refine wpQuiet_nil ?_; intro wq hbq)
  go_wp2_with fail
  go_ret
  exact ⟨rfl, hbq⟩
set_option maxHeartbeats 1600000 in
theorem putSearch (b2 b3 : Nat) (A : Option Addr) (n c : Nat) (hs : List H) (F : List (List C)) (B : Option Addr) (m d : Nat) (f : List C) (w : World) (hr : RdF w A n hs F) (hf : CRow w (B, m, d) f)
    (c2 : w.cell? ⟨b2, 0, none⟩ = some (.slice A n c)) (c3 : w.cell? ⟨b3, 0, none⟩ = some (.slice B m d)) (hl : ∀ x ∈ F, x.length ≤ 1048576) (hm : m ≤ 1048576) (hn : n ≤ 1099511627776) (hi : IncG ltS F) :
    Calls Tryz.prog 103 #[.int .i64 (n : Int), .func (.func 104) #[] #[.pointer (some ⟨b2, 0, none⟩), .pointer (some ⟨b3, 0, none⟩)]] w (Ret w (.int .i64 (F.countP (fun x => ltS x f) : Nat))) := by
  have HL := Lib.hid hl
  have HI := Lib.hid hi
  have HR := Lib.hid hr
  have HF := Lib.hid hf
  have HN := Lib.hid hr.flen
  have HC2 := Lib.hid c2
  have HC3 := Lib.hid c3
  clear hl hi hr hf c2 c3
  go_enter Tryz.func103, Tryz.ntmps103
  go_wp2
  go_loopw [5, 6] (fun e5 e6 wr => ∃ (lo hi : Nat), e5 = .int .i64 lo ∧ e6 = .int .i64 hi ∧ lo ≤ hi ∧ hi ≤ n ∧ (∀ t, t < lo → ltS (F.getD t default) f = true) ∧ (∀ t, hi ≤ t → t < n → ltS (F.getD t default) f = false) ∧ Below w.heap.size w wr) (fun e5 e6 _ => (intOf e6).toNat - (intOf e5).toNat)
  case atStart => exact ⟨0, n, rfl, rfl, Nat.zero_le _, Nat.le_refl _, fun t h => absurd h (by omega), fun t h1 h2 => by omega, Below.refl _ _⟩
  case round =>
    obtain ⟨lo, hi, rfl, rfl, hlh, hin, hlow, hhigh, hb⟩ := hrel
    have HLO := Lib.hid hlow
    have HHI := Lib.hid hhigh
    clear hlow hhigh
    by_cases hlt : lo < hi
    · have hltI : (lo : Int) < (hi : Int) := by omega
      obtain ⟨k, hk⟩ : ∃ k, (lo + hi) / 2 = k := ⟨_, rfl⟩
      have hkI : ((lo : Int) + (hi : Int)) / 2 = (k : Int) := by rw [← hk]; simp
      have hk1 : lo ≤ k := by omega
      have hk2 : k < hi := by omega
      have HK := Lib.hid hk
      clear hk
      cases ht : ltS (F.getD k default) f with
      | true =>
        have HT := Lib.hid ht
        clear ht
        go_wp2_with fail
        refine (putTest b2 b3 A n c hs F B m d f k _ (HR.out.below hb) (HF.out.below hb) ((hb.cell (world_lt HC2.out)).trans HC2.out) ((hb.cell (world_lt HC3.out)).trans HC3.out) (by omega) HL.out hm false (by rw [HT.out]; rfl)).mono ?_
        rintro e w1 ⟨rfl, hb1⟩
        go_wp2_with fail
        refine ⟨⟨k + 1, hi, by go_num, rfl, by omega, hin, fun t h => ?_, HHI.out, bel_trans hb hb1⟩, by simp [intOf]; omega⟩
        cases he : ltS (F.getD t default) f with
        | true => rfl
        | false =>
          exfalso
          rcases Nat.lt_or_ge t k with h1 | h1
          · have := incG_get ltS_sto HI.out h1 (by rw [HN.out]; omega)
            rw [ltS_sto.trans this HT.out] at he
            cases he
          · obtain rfl : t = k := by omega
            rw [HT.out] at he
            cases he
      | false =>
        have HT := Lib.hid ht
        clear ht
        go_wp2_with fail
        refine (putTest b2 b3 A n c hs F B m d f k _ (HR.out.below hb) (HF.out.below hb) ((hb.cell (world_lt HC2.out)).trans HC2.out) ((hb.cell (world_lt HC3.out)).trans HC3.out) (by omega) HL.out hm true (by rw [HT.out]; rfl)).mono ?_
        rintro e w1 ⟨rfl, hb1⟩
        go_wp2_with fail
        refine ⟨⟨lo, k, rfl, rfl, hk1, by omega, HLO.out, fun t h1 h2 => ?_, bel_trans hb hb1⟩, by simp [intOf]; omega⟩
        cases he : ltS (F.getD t default) f with
        | false => rfl
        | true =>
          exfalso
          rcases Nat.lt_or_ge k t with h3 | h3
          · have := incG_get ltS_sto HI.out h3 (by rw [HN.out]; omega)
            have h4 := ltS_sto.trans this he
            rw [HT.out] at h4
            cases h4
          · obtain rfl : t = k := by omega
            rw [HT.out] at he
            cases he
    · obtain rfl : lo = hi := by omega
      have hltI : ¬ (lo : Int) < (lo : Int) := by omega
      have HV : Hid (F.countP (fun x => ltS x f) = lo) := countP_cut (by rw [HN.out]; exact hin)
        (fun t x h1 h2 => by have := HLO.out t h1; rwa [List.getD_eq_getElem?_getD, h2] at this)
        (fun t x h1 h2 => by have := HHI.out t h1 (by have := (List.getElem?_eq_some_iff.1 h2).1; rw [HN.out] at this; exact this); rwa [List.getD_eq_getElem?_getD, h2] at this)
      go_wp2
      go_ret
      exact ⟨by rw [HV.out]; rfl, hb⟩
end Go.Proofs.YtoedmmhiinhljaaGreatDoor

/- A shape put into an ordered list, once: the program. -/
namespace Go.Proofs.YtoedmmhiinhljaaGreatDoor
open Go.RowKit
set_option linter.unusedVariables false
attribute [local go_sem ↓] Go.wp_at_zero Go.wp_at_succ

theorem infoF : (Tryz.prog.info? 51).map (fun i => (i.zero, i.size, i.bytes)) = some (some (.slice none 0 0), 1, 24) := by kernel_rfl
section
variable (w : World) {ops : Array Oper} {rest : List Oper} {o : Oper} {a : Act} {Q : Exit → Act → World → Prop}
theorem app_F (hgd : o.guard = none) (s x : Operand) (ho : o.op = .call { callee := .builtin .append, args := #[s, x], argTypes := #[31, 31] })
    (base : Nat) (A : Option Addr) (n c : Nat) (l : List H) (hs : a.eval s = .slice A n c) (hown : w.ownsRow base 51 1 (.slice A n c) n (vS l))
    (A2 : Option Addr) (m c2 : Nat) (l2 : List H) (hx : a.eval x = .slice A2 m c2) (hr : Rd w A2 (vS l2)) (hl : l2.length = m) (hb : n + m ≤ 1099511627776) (hbase : base ≤ w.heap.size)
    (h : ∀ A' c' w', w'.ownsRow base 51 1 (.slice A' (n + m) c') (n + m) (vS (l ++ l2)) → w.grownBy w' (ob A) → (ob A' = ob A ∨ ob A' = some w.heap.size) → wpList Tryz.prog ops Q rest (a.put o.dst (.slice A' (n + m) c')) w') :
    wpList Tryz.prog ops Q (o :: rest) a w := by
  obtain ⟨i0, hi, hz0, hz1, hz2⟩ := info_parts infoF
  refine wpList_app w hgd s x _ ho base _ i0 _ 1 24 Tryz.underlying31 hi hz0 hz1 hz2 rfl (by omega) A n c _ hs hown A2 m c2 _ hx hr (by rw [vS_length, hl]; omega) (vS_one _) (by unfold maxLen; omega) (by omega) hbase ?_
  intro A' c' w' h1
  rw [← vS_append] at h1
  exact h A' c' w' h1
end
def offF (c k : Nat) : Nat := if c = k then 0 else k
theorem run_fromF (w : World) (g m c k : Nat) (hk : k ≤ m) : (Instr.slice 31 (.slice (some ⟨g, 0, none⟩) m c) (some (.int .i64 (k : Int))) none none).run Tryz.prog w = .ok (.slice (some ⟨g, offF c k, none⟩) (m - k) (c - k)) w := by
  have h1 : (0 : Int) ≤ (k : Int) := by omega
  have h2 : (k : Int) ≤ (m : Int) := by omega
  unfold offF
  by_cases hc : c = k
  · subst hc
    simp [go_sem, h2]
  · simp [go_sem, h2, hc]
/-- What lies behind place k moves on by one. -/
theorem run_shift (w : World) (base g n c k : Nat) (L : List H) (ho : w.ownsRow base 51 1 (.slice (some ⟨g, 0, none⟩) (n + 1) c) (n + 1) (vS L)) (hk : k ≤ n) (ty : TypeId) :
    ∃ w', (Builtin.copy_ #[31, 31] ty #[.slice (some ⟨g, offF c (k + 1), none⟩) (n + 1 - (k + 1)) (c - (k + 1)), .slice (some ⟨g, offF c k, none⟩) (n + 1 - k) (c - k)]).run Tryz.prog w = .ok (goInt ((n - k : Nat))) w' ∧
      w'.ownsRow base 51 1 (.slice (some ⟨g, 0, none⟩) (n + 1) c) (n + 1) (vS (L.take (k + 1) ++ (L.drop k).take (n - k))) ∧ w.grownBy w' (some g) := by
  have hlen : L.length = n + 1 := by have := own_len ho; rw [vS_length] at this; omega
  have hsz : (Tryz.prog.info? 51).map (·.size) = some 1 := by kernel_rfl
  by_cases hkn : k = n
  · subst hkn
    refine ⟨w, ?_, ?_, World.grownBy.refl _ _⟩
    · have := run_copy_none (P := Tryz.prog) w 31 31 ty 51 (some ⟨g, offF c (k + 1), none⟩) (some ⟨g, offF c k, none⟩) (k + 1 - (k + 1)) (c - (k + 1)) (k + 1 - k) (c - k) Tryz.underlying31 hsz (by simp)
      rw [this]
      simp
    · rw [Nat.sub_self, List.take_zero, List.append_nil, List.take_of_length_le (by omega)]
      exact ho
  · rcases ho.2 with ⟨hv, h0⟩ | ⟨g', cap, cur, hv, hbg, hg, hnc, hcm, hcs, ht⟩
    · omega
    · injection hv with hA hn hc
      injection hA with hA
      injection hA with hA1
      subst hA1 hc
      have hoff1 : offF c (k + 1) = k + 1 := by unfold offF; rw [if_neg (by omega)]
      have hoff2 : offF c k = k := by unfold offF; rw [if_neg (by omega)]
      have hcsl : (vS ((L.drop k).take (n - k))).length = n - k := by rw [vS_length, List.length_take, List.length_drop]; omega
      have hsrc : ∀ j v, (vS ((L.drop k).take (n - k)))[j]? = some v → w.cell? ((⟨g, k, none⟩ : Addr).add j) = some v := by
        intro j v hj
        have hjl : j < n - k := by rw [← hcsl]; exact (List.getElem?_eq_some_iff.1 hj).1
        have e : (⟨g, k, none⟩ : Addr).add j = ⟨g, k + j, none⟩ := by unfold Addr.add; split <;> simp_all
        rw [e]
        have hc := ho.cellAt (k + j) (by omega)
        rw [hc, ← hj]
        simp only [vS, List.getElem?_map, List.getElem?_take, List.getElem?_drop, if_pos hjl]
      have hr := run_copy_row (P := Tryz.prog) w 31 31 ty 51 g (k + 1) (n + 1 - (k + 1)) (c - (k + 1)) ⟨g, k, none⟩ (n + 1 - k) (c - k) cur 51 (vS ((L.drop k).take (n - k))) Tryz.underlying31 hsz hg
        (by rw [hcsl]; show n - k = min _ _; omega) hsrc (by rw [hcsl]; omega) (vS_one _)
      rw [hoff1, hoff2, hr, hcsl]
      refine ⟨_, rfl, ⟨?_, .inr ⟨g, c, _, rfl, hbg, setRow_heap w g cur _ _ _ hg, hnc, hcm, ?_, ?_⟩⟩, ⟨rfl, rfl, rfl, by simp [World.setRow], fun q hq hne => setRow_other w g q _ (fun e => hne (by rw [e]))⟩⟩
      · rw [vS_length, List.length_append, List.length_take, List.length_take, List.length_drop]; omega
      · simp only [List.size_toArray, List.length_append, List.length_take, List.length_drop, Array.length_toList]
        rw [hcsl]
        omega
      · have hcurl : cur.toList.length = c * 1 := by rw [Array.length_toList, hcs]
        have hk1 : cur.toList.take (k + 1) = vS (L.take (k + 1)) := by
          have h2 := congrArg (List.take (k + 1)) ht
          rw [List.take_take, Nat.min_eq_left (by omega)] at h2
          rw [h2]
          simp [vS]
        simp only [List.append_assoc]
        rw [hk1, vS_append]
        have hl1 : (vS (L.take (k + 1))).length = k + 1 := by rw [vS_length, List.length_take]; omega
        rw [← List.append_assoc, List.take_append_of_le_length (by rw [List.length_append, hl1, hcsl]; omega)]
        rw [List.take_of_length_le (by rw [List.length_append, hl1, hcsl]; omega)]
theorem wp_copyF {o : Oper} {a : Act} {w w' : World} {K : Act → World → Prop} {Q : Exit → Act → World → Prop} (d s : Operand) (dT sT : TypeId) (ho : o.op = .call { callee := .builtin .copy, args := #[d, s], argTypes := #[dT, sT] })
    {v1 v2 v : Value} (hd : a.eval d = v1) (hs : a.eval s = v2) (hrun : (Builtin.copy_ #[dT, sT] o.type #[v1, v2]).run Tryz.prog w = .ok v w') (hk : K (a.put o.dst v) w') : o.wp Tryz.prog a w K Q := by
  unfold Oper.wp
  simp [execOp, ho, resolve, invoke, builtin, hd, hs, hrun, Result.andThen]
  exact hk
theorem grown_comp2 {a w w' : World} {r r' : Option Nat} (h : a.grownBy w r) (h' : w.grownBy w' r') (hr : ∀ g, r' = some g → r = some g ∨ a.heap.size ≤ g) : a.grownBy w' r :=
  ⟨h'.os.trans h.os, h'.tape.trans h.tape, h'.output.trans h.output, Nat.le_trans h.size h'.size, fun k hk hne => (h'.block k (Nat.lt_of_lt_of_le hk h.size) (fun e => by
    rcases hr k e.symm with h1 | h1
    · exact hne h1.symm
    · omega)).trans (h.block k hk hne)⟩
theorem grown_of_below {w w' : World} (h : Below w.heap.size w w') (r : Option Nat) : w.grownBy w' r := ⟨h.os, h.tape, h.output, h.size, fun k hk _ => h.block k hk⟩
theorem grown_setC {a w : World} {r : Option Nat} (h : a.grownBy w r) {p : Addr} (hp : r = some p.block ∨ a.heap.size ≤ p.block) (u : Value) : a.grownBy (w.setCell p u) r :=
  ⟨h.os, h.tape, h.output, by simpa [World.setCell] using h.size, fun k hk hne => by
    rw [Below.heap_setCell w p u k (by
      rintro rfl
      rcases hp with h1 | h1
      · exact hne h1.symm
      · omega)]
    exact h.block k hk hne⟩
theorem ins_set {α : Type} (hs : List α) (z x : α) (n k : Nat) (hn : hs.length = n) (hk : k ≤ n) : (((hs ++ [z]).take (k + 1)) ++ ((hs ++ [z]).drop k).take (n - k)).set k x = hs.take k ++ [x] ++ hs.drop k := by
  have h1 : ((hs ++ [z]).drop k).take (n - k) = hs.drop k := by
    rw [List.drop_append_of_le_length (by omega), List.take_append_of_le_length (by rw [List.length_drop]; omega), List.take_of_length_le (by rw [List.length_drop]; omega)]
  have hkl : k < (hs ++ [z]).length := by simp; omega
  rw [h1, List.take_succ_eq_append_getElem hkl]
  have h2 : (hs ++ [z]).take k = hs.take k := List.take_append_of_le_length (by omega)
  rw [h2, List.append_assoc, List.set_append_right _ _ (by rw [List.length_take]; omega), List.length_take, Nat.min_eq_left (by omega), Nat.sub_self]
  simp
theorem ins_rows {α β : Type} {hs : List α} {F : List β} {k : Nat} (hl : hs.length = F.length) (hk : k ≤ F.length) {x0 : α} {f : β} (i : Nat) (x : α) (y : β) (h1 : (hs.take k ++ [x0] ++ hs.drop k)[i]? = some x) (h2 : (F.take k ++ [f] ++ F.drop k)[i]? = some y) :
    (∃ j : Nat, hs[j]? = some x ∧ F[j]? = some y) ∨ (x = x0 ∧ y = f) := by
  have e1 : (hs.take k).length = k := by rw [List.length_take]; omega
  have e2 : (F.take k).length = k := by rw [List.length_take]; omega
  rw [List.append_assoc] at h1 h2
  rcases Nat.lt_trichotomy i k with h | h | h
  · rw [List.getElem?_append_left (by omega), List.getElem?_take_of_lt h] at h1 h2
    exact .inl ⟨i, h1, h2⟩
  · subst h
    rw [List.getElem?_append_right (by omega), e1, Nat.sub_self] at h1
    rw [List.getElem?_append_right (by omega), e2, Nat.sub_self] at h2
    simp at h1 h2
    exact .inr ⟨h1.symm, h2.symm⟩
  · obtain ⟨j, rfl⟩ : ∃ j, i = k + 1 + j := ⟨i - (k + 1), by omega⟩
    rw [List.getElem?_append_right (by omega), e1, show k + 1 + j - k = j + 1 from by omega] at h1
    rw [List.getElem?_append_right (by omega), e2, show k + 1 + j - k = j + 1 from by omega] at h2
    simp only [List.singleton_append, List.getElem?_cons_succ, List.getElem?_drop] at h1 h2
    exact .inl ⟨_, h1, h2⟩
/-- The list with the shape put in. -/
def PutP (base : Nat) (w : World) (A : Option Addr) (F : List (List C)) (e : Ending) (w' : World) : Prop :=
  ∃ A' n' c' hs', e = .returned (.slice A' n' c') ∧ OwnF base w' A' n' c' hs' F ∧ w.grownBy w' (ob A) ∧ ∀ g, ob A' = some g → ob A = some g ∨ w.heap.size ≤ g
theorem putB_same {F : List (List C)} {f : List C} {k : Nat} (hk : F.countP (fun x => ltS x f) = k) (h1 : k < F.length) (h2 : F.getD k default = f) : putB ltS F f = F := by unfold putB; rw [hk, if_pos ⟨h1, h2⟩]
theorem putB_new {F : List (List C)} {f : List C} {k : Nat} (hk : F.countP (fun x => ltS x f) = k) (h1 : ¬ (k < F.length ∧ F.getD k default = f)) : putB ltS F f = F.take k ++ [f] ++ F.drop k := by unfold putB; rw [hk, if_neg h1]
set_option maxHeartbeats 3200000 in
theorem putShape_i (A : Option Addr) (n c : Nat) (hs : List H) (F : List (List C)) (B : Option Addr) (m d : Nat) (f : List C) (base : Nat) (w : World) (ho : OwnF base w A n c hs F) (hf : CRow w (B, m, d) f) (hi : IncG ltS F)
    (hl : ∀ x ∈ F, x.length ≤ 1048576) (hm : m ≤ 1048576) (hn : n ≤ 1073741824) (hbs : base ≤ w.heap.size) :
    Calls Tryz.prog 85 #[.slice A n c, .slice B m d] w (PutP base w A (putB ltS F f)) := by
  obtain ⟨k, hk⟩ : ∃ k, F.countP (fun x => ltS x f) = k := ⟨_, rfl⟩
  have hkn : k ≤ n := by rw [← hk, ← ho.flen]; exact List.countP_le_length
  have hAlt := own_lt ho.own
  have hB2 := (Blk.new w 31 #[.slice A n c]).alloc (.cells #[.slice B m d] 51)
  have hB3 : Blk ((w.alloc (.cells #[.slice A n c] 31)).alloc (.cells #[.slice B m d] 51)) (w.heap.size + 1) 51 #[.slice B m d] := by simpa using Blk.new (w.alloc (.cells #[.slice A n c] 31)) 51 #[.slice B m d]
  have hb0 : Below w.heap.size w ((w.alloc (.cells #[.slice A n c] 31)).alloc (.cells #[.slice B m d] 51)) := (by (repeat (first | with_reducible exact Below.refl _ _ | with_reducible assumption | with_reducible apply bel_alloc | with_reducible apply bel_drew | with_reducible apply bel_drewN | ((with_reducible refine bel_set ?_ ?_); rotate_left; (simp <;> omega)) | (with_reducible refine bel_trans ?_ (by with_reducible assumption)))))
  obtain ⟨W0, hW0⟩ : ∃ W0, (w.alloc (.cells #[.slice A n c] 31)).alloc (.cells #[.slice B m d] 51) = W0 := ⟨_, rfl⟩
  rw [hW0] at hB2 hB3 hb0
  have HS := putSearch w.heap.size (w.heap.size + 1) A n c hs F B m d f W0 (ho.rd.below hb0) (hf.below hb0) (by simpa using hB2.cell 0) (by simpa using hB3.cell 0) hl hm (by omega) hi
  rw [hk] at HS
  have HSE := Lib.hid HS
  have HO := Lib.hid ho
  have HF := Lib.hid hf
  have HK := Lib.hid hk
  have HL := Lib.hid hl
  have HB2 := Lib.hid hB2
  have HB3 := Lib.hid hB3
  have HW := Lib.hid hW0
  have HFL := Lib.hid ho.flen
  have HA := Lib.hid hAlt
  have hz0 := hb0.size
  clear HS ho hf hk hl hB2 hB3 hW0 hAlt hi
  go_enter Tryz.func85, Tryz.ntmps85
  go_wp2_with fail
  rw [HW.out]
  refine HSE.out.mono ?_
  rintro e w1 ⟨rfl, hb1⟩
  have hb01 := bel_trans hb0 hb1
  have HX2 := Lib.hid (HB2.out.below hb1)
  have HX3 := Lib.hid (HB3.out.below hb1)
  have c2 : w1.cell? ⟨w.heap.size, 0, none⟩ = some (.slice A n c) := by simpa using HX2.out.cell 0
  have c3 : w1.cell? ⟨w.heap.size + 1, 0, none⟩ = some (.slice B m d) := by simpa using HX3.out.cell 0
  have l2 := HX2.out.lt
  have l3 := HX3.out.lt
  have HO1 := Lib.hid (HO.out.below hb01)
  have HF1 := Lib.hid (HF.out.below hb01)
  by_cases hkk : k < n
  · obtain ⟨x, t, g, off, hsx, hfx, hAg, hg, d1, hrow⟩ := HO1.out.rd.at_ hkk
    have ht : F.getD k default = t := by rw [List.getD_eq_getElem?_getD, hfx]; rfl
    have htl := HL.out t (List.mem_of_getElem? hfx)
    obtain ⟨C1, m1, k1⟩ := x
    have h1 : t.length = m1 := hrow.1
    have H1 := Lib.hid h1
    have HR := Lib.hid hrow
    have hm1 : m1 ≤ 1048576 := by omega
    have hk0 : (0 : Int) ≤ (k : Int) := by omega
    have hkI : (k : Int) < (n : Int) := by omega
    dsimp only at d1
    by_cases htf : t = f
    · have HV := Lib.hid (putB_same HK.out (by rw [HFL.out]; exact hkk) (ht.trans htf))
      have HD : Hid (decide (t = f) = true) := decide_eq_true htf
      subst hAg
      clear ht htf hsx hfx hrow h1 htl
      go_wp2_with fail
      (refine wp_region_below (by kernel_rfl) (by kernel_rfl) ?_; (repeat (first | go_big_quiet_skip | (refine quietV (v := ?_) (by rfl) rfl (fun w' hbw => ?_) ?_; rotate_left; ((try dsimp only at hbw); have hbc := (bcell hbw).1; have hbf := (bcell hbw).2; go_simp; first | done | with_reducible rfl | exact callsBB (EqualShapes_i C1 B m1 k1 m d t f _ (HR.out.2.1.below hbw) (HF1.out.2.1.below hbw) H1.out HF1.out.1 (by omega) (by omega)) HD.out hbw); simp only [List.setIfInBounds_toArray, List.set_cons_zero, List.set_cons_succ]))); refine wpQuiet_nil ?_; intro wq hbq)
      have c2q : wq.cell? ⟨w.heap.size, 0, none⟩ = some (.slice (some ⟨g, off, none⟩) n c) := by simpa using (HX2.out.below hbq).cell 0
      have l2q := (HX2.out.below hbq).lt
      clear c2 c3 l2 l3
      go_wp2_with fail
      go_ret
      exact ⟨_, n, c, hs, rfl, by rw [HV.out]; exact HO1.out.below hbq, grown_of_below (bel_trans hb01 hbq) _, fun g e => .inl e⟩
    · have HV := Lib.hid (putB_new HK.out (fun h => htf (ht.symm.trans h.2)))
      have HD : Hid (decide (t = f) = false) := decide_eq_false htf
      have HAG := Lib.hid hAg
      rw [hAg] at c2
      have hkd : decide (k < n) = true := by simp [hkk]
      clear ht htf hsx hfx hrow h1 htl hAg
      go_wp2_with fail
      (refine wp_region_below (by kernel_rfl) (by kernel_rfl) ?_; (repeat (first | go_big_quiet_skip | (refine quietV (v := ?_) (by rfl) rfl (fun w' hbw => ?_) ?_; rotate_left; ((try dsimp only at hbw); have hbc := (bcell hbw).1; have hbf := (bcell hbw).2; go_simp; first | done | with_reducible rfl | exact callsBB (EqualShapes_i C1 B m1 k1 m d t f _ (HR.out.2.1.below hbw) (HF1.out.2.1.below hbw) H1.out HF1.out.1 (by omega) (by omega)) HD.out hbw); simp only [List.setIfInBounds_toArray, List.set_cons_zero, List.set_cons_succ]))); refine wpQuiet_nil ?_; intro wq hbq)
      clear d1 hkd
      rw [← HAG.out] at c2 ⊢
      have hb0q := bel_trans hb01 hbq
      have hz1 := hb0q.size
      have HX2q := Lib.hid (HX2.out.below hbq)
      have HX3q := Lib.hid (HX3.out.below hbq)
      have HOq := Lib.hid (HO1.out.below hbq)
      have c2q : wq.cell? ⟨w.heap.size, 0, none⟩ = some (.slice A n c) := by simpa using HX2q.out.cell 0
      have z2q := HX2q.out.frozen 0
      have l2q := HX2q.out.lt
      clear c2 c3 l2 l3
      go_wp2_with (at_builtin; go_must (refine app_F _ rfl _ _ rfl base _ _ _ hs rfl (HOq.out.own.alloc _) _ _ _ [(none, 0, 0)] rfl (rd_newS _ _ _) rfl (by omega) (by simp; omega) ?_); intro A3 c5 w3 ho3 hg3 hat3; have HO3 := Lib.hid ho3; have HG3 := Lib.hid hg3; have HAT := Lib.hid hat3; have hX3 := (HX2q.out.alloc (.cells #[.slice none 0 0] 51)).grown hg3 (fun e => by have := (HA.out _ e.symm).2; omega); have e2 : w3.cell? ⟨w.heap.size, 0, none⟩ = some (.slice A n c) := (by simpa using hX3.cell 0); have f2 := hX3.frozen 0; have l4 := hX3.lt; have HX4 := Lib.hid (hX3.set_ 0 (.slice A3 (n + 1) c5)); have HY4 := Lib.hid (((HX3q.out.alloc (.cells #[.slice none 0 0] 51)).grown hg3 (fun e => by have := (HA.out _ e.symm).2; omega)).far (p := ⟨w.heap.size, 0, none⟩) (by simp) (.slice A3 (n + 1) c5)); clear hX3 ho3 hg3 hat3)
      obtain ⟨g3, hA3, hbg3, hg3l⟩ := own_at HO3.out (by omega)
      subst hA3
      have hg3n : g3 ≠ w.heap.size ∧ g3 ≠ w.heap.size + 1 := by
        rcases HAT.out with h | h
        · have := (HA.out g3 h.symm).2; omega
        · simp only [ob, Option.map_some, Option.some.injEq, World.size_alloc] at h; omega
      obtain ⟨hg3n, hg3m⟩ := hg3n
      have HO4 := Lib.hid (own_set HO3.out (p := ⟨w.heap.size, 0, none⟩) (fun g e => by simp only [ob, Option.map_some, Option.some.injEq] at e; subst e; exact hg3n) (.slice (some ⟨g3, 0, none⟩) (n + 1) c5))
      have HG4 : Hid (w.grownBy (w3.setCell ⟨w.heap.size, 0, none⟩ (.slice (some ⟨g3, 0, none⟩) (n + 1) c5)) (ob A)) :=
        grown_setC (grown_comp2 (grown_of_below (bel_alloc hb0q _) (ob A)) HG3.out (fun g h => .inl h)) (.inr (Nat.le_refl _)) _
      have HR4 : Hid (∀ x t, CRow wq x t → CRow (w3.setCell ⟨w.heap.size, 0, none⟩ (.slice (some ⟨g3, 0, none⟩) (n + 1) c5)) x t) := fun x t h =>
        ((h.below (bel_alloc (Below.refl _ _) _)).grown HG3.out (fun g e r => (h.apart HOq.out.own) g e r)).grown (grown_set (World.grownBy.refl _ (some w.heap.size)) rfl _) (fun g e r => by
          injection r with r
          obtain ⟨cur, z, h1⟩ := h.2.2 g e
          have h2 := HX2q.out
          unfold Blk at h2
          rw [r, h1] at h2
          injection h2 with h2
          injection h2 with _ h3
          exact absurd h3 (by decide))
      obtain ⟨w4, hw4⟩ : ∃ w4, w3.setCell ⟨w.heap.size, 0, none⟩ (.slice (some ⟨g3, 0, none⟩) (n + 1) c5) = w4 := ⟨_, rfl⟩
      rw [hw4] at HX4 HY4 HO4 HG4 HR4 ⊢
      have d2 : w4.cell? ⟨w.heap.size, 0, none⟩ = some (.slice (some ⟨g3, 0, none⟩) (n + 1) c5) := by simpa using HX4.out.cell 0
      have l6 := HX4.out.lt
      have hk0 : (0 : Int) ≤ (k : Int) := by omega
      obtain ⟨k1, hk1⟩ : ∃ k1 : Nat, k + 1 = k1 := ⟨_, rfl⟩
      have hk1I : (k : Int) + 1 = (k1 : Int) := by omega
      have hk1w : IntKind.i64.wrap (k1 : Int) = (k1 : Int) := Go.IntWalk.i64_in _ (by omega)
      have hs1 : ∀ w', (Instr.slice 31 (.slice (some ⟨g3, 0, none⟩) (n + 1) c5) (some (.int .i64 (k1 : Int))) none none).run Tryz.prog w' = .ok (.slice (some ⟨g3, offF c5 k1, none⟩) (n + 1 - k1) (c5 - k1)) w' := fun w' => run_fromF w' g3 (n + 1) c5 k1 (by omega)
      have hs2 : ∀ w', (Instr.slice 31 (.slice (some ⟨g3, 0, none⟩) (n + 1) c5) (some (.int .i64 (k : Int))) none none).run Tryz.prog w' = .ok (.slice (some ⟨g3, offF c5 k, none⟩) (n + 1 - k) (c5 - k)) w' := fun w' => run_fromF w' g3 (n + 1) c5 k (by omega)
      have HK1 := Lib.hid hk1
      clear hk1 hw4 e2 f2 l4
      go_wp2_with fail
      (refine wp_region_tailN (C := Gr w4 (some ⟨g3, 0, none⟩)) 7 (by kernel_rfl) (by kernel_rfl) (Gr.drawn _ _) (fun _ _ h k => h.ext k) ?_; simp only [List.take_succ_cons, List.take_zero, List.drop_succ_cons, List.drop_zero]; (repeat (first | (refine headSkip (by rfl) rfl ?_; simp only [List.setIfInBounds_toArray, List.set_cons_zero, List.set_cons_succ]) | (refine headV (v := ?_) (by rfl) rfl (fun w' hcw => ?_) ?_; rotate_left; ((try dsimp only at hcw); have hbc := hcw.cells; go_simp; first | done | with_reducible rfl | (have hcc := hcw.cell l6 (by simp [ob]; exact fun e => hg3n e.symm) 0; go_simp; first | done | with_reducible rfl)); simp only [List.setIfInBounds_toArray, List.set_cons_zero, List.set_cons_succ]))); unfold wpHead)
      refine tailK (by rfl) (fun u5 hc5 he5 K hK => ?_)
      obtain ⟨w5, hrun, ho5, hg5⟩ := run_shift u5 base g3 n c5 k (hs ++ [(none, 0, 0)]) (own_keep HO4.out he5) hkn 3
      rw [HK1.out] at hrun
      refine wp_copyF _ _ _ _ rfl rfl rfl hrun ?_
      refine hK _ _ (Gr.trans hc5 hg5) ?_
      clear hK K hrun
      simp only [Act.put, List.setIfInBounds_toArray, List.set_cons_zero, List.set_cons_succ]
      (refine fun w6 hc6 he6 => NoPanic.normal ?_)
      have HO6 := Lib.hid (own_keep ho5 he6)
      have HG6 : Hid (w4.grownBy w6 (some g3)) := hc6
      have HX6 := Lib.hid (HX4.out.grown HG6.out (fun e => by injection e with e; exact hg3n e.symm))
      have HY6 := Lib.hid (HY4.out.grown HG6.out (fun e => by injection e with e; exact hg3m e.symm))
      have b2 : w6.cell? ⟨w.heap.size, 0, none⟩ = some (.slice (some ⟨g3, 0, none⟩) (n + 1) c5) := by simpa using HX6.out.cell 0
      have b3 : w6.cell? ⟨w.heap.size + 1, 0, none⟩ = some (.slice B m d) := by simpa using HY6.out.cell 0
      have l7 := HX6.out.lt
      have l8 := HY6.out.lt
      have hck := HO6.out.cellAt k (by omega)
      have hkl : k < (vS (List.take (k + 1) (hs ++ [(none, 0, 0)]) ++ List.take (n - k) (List.drop k (hs ++ [(none, 0, 0)])))).length := by
        have := own_len HO6.out; omega
      rw [List.getElem?_eq_getElem hkl] at hck
      generalize (vS (List.take (k + 1) (hs ++ [(none, 0, 0)]) ++ List.take (n - k) (List.drop k (hs ++ [(none, 0, 0)]))))[k] = z at hck
      have hfk := HO6.out.frozenAt k
      have hg6l := own_lt HO6.out g3 rfl
      have hst := (HO6.out.stored k (.slice B m d)).1
      rw [show (vS (List.take (k + 1) (hs ++ [(none, 0, 0)]) ++ List.take (n - k) (List.drop k (hs ++ [(none, 0, 0)])))).set k (.slice B m d) = vS (hs.take k ++ [(B, m, d)] ++ hs.drop k) from by rw [← ins_set hs (none, 0, 0) (B, m, d) n k HO.out.hlen hkn]; simp [vS, List.map_set, hd]] at hst
      have HST := Lib.hid hst
      obtain ⟨hg6a, hg6b⟩ := hg6l
      have hkI2 : (k : Int) < (n : Int) + 1 := by omega
      have HRW : Hid (∀ x t, CRow wq x t → CRow (w6.setCell ⟨g3, k, none⟩ (.slice B m d)) x t) := fun x t h => by
        have h4 := HR4.out x t h
        have ne := h4.apart HO4.out
        exact (h4.grown HG6.out (fun g e r => ne g e r)).grown (grown_set (World.grownBy.refl _ (some g3)) rfl _) (fun g e r => ne g e r)
      have HGW : Hid (w.grownBy (w6.setCell ⟨g3, k, none⟩ (.slice B m d)) (ob A)) := by
        have hh : ob A = some g3 ∨ w.heap.size ≤ g3 := by
          rcases HAT.out with h | h
          · exact .inl h.symm
          · simp only [ob, Option.map_some, Option.some.injEq, World.size_alloc] at h; right; omega
        exact grown_setC (grown_comp2 HG4.out HG6.out (fun g h => by injection h with h; subst h; exact hh)) hh _
      clear hst hc5 he5 ho5 hg5 hc6 he6 d2 l6 hs1 hs2
      go_wp2_with fail
      go_ret
      refine ⟨some ⟨g3, 0, none⟩, n + 1, c5, hs.take k ++ [(B, m, d)] ++ hs.drop k, rfl, ⟨HST.out, ?_, ?_⟩, HGW.out, ?_⟩
      · rw [HV.out]; simp only [List.length_append, List.length_take, List.length_drop, List.length_cons, List.length_nil, HFL.out]; omega
      · intro i x t h1 h2
        rw [HV.out] at h2
        rcases ins_rows (by rw [HO.out.hlen, HFL.out]) (by rw [HFL.out]; exact hkn) i x t h1 h2 with ⟨j, h3, h4⟩ | ⟨h3, h4⟩
        · exact HRW.out x t (HOq.out.row j x t h3 h4)
        · subst h3 h4
          exact HRW.out _ _ (HF1.out.below hbq)
      · intro g e
        rcases HAT.out with h | h
        · exact .inl (h ▸ e)
        · rw [h] at e
          simp only [World.size_alloc, Option.some.injEq] at e
          right; omega
  · have HV := Lib.hid (putB_new HK.out (fun h => hkk (by have := h.1; rwa [HFL.out] at this)))
    have hkd : decide (k < n) = false := by simp; omega
    have hkI : ¬ (k : Int) < (n : Int) := by omega
    go_wp2_with fail
    (refine wp_region_below (by kernel_rfl) (by kernel_rfl) ?_; (repeat (first | go_big_quiet_skip | (refine quietV (v := ?_) (by rfl) rfl (fun w' hbw => ?_) ?_; rotate_left; ((try dsimp only at hbw); have hbc := (bcell hbw).1; have hbf := (bcell hbw).2; go_simp; first | done | with_reducible rfl | fail); simp only [List.setIfInBounds_toArray, List.set_cons_zero, List.set_cons_succ]))); refine wpQuiet_nil ?_; intro wq hbq)
    clear hkd hkI hkk
    have hb0q := bel_trans hb01 hbq
    have hz1 := hb0q.size
    have HX2q := Lib.hid (HX2.out.below hbq)
    have HX3q := Lib.hid (HX3.out.below hbq)
    have HOq := Lib.hid (HO1.out.below hbq)
    have c2q : wq.cell? ⟨w.heap.size, 0, none⟩ = some (.slice A n c) := by simpa using HX2q.out.cell 0
    have z2q := HX2q.out.frozen 0
    have l2q := HX2q.out.lt
    clear c2 c3 l2 l3
    go_wp2_with (at_builtin; go_must (refine app_F _ rfl _ _ rfl base _ _ _ hs rfl (HOq.out.own.alloc _) _ _ _ [(none, 0, 0)] rfl (rd_newS _ _ _) rfl (by omega) (by simp; omega) ?_); intro A3 c5 w3 ho3 hg3 hat3; have HO3 := Lib.hid ho3; have HG3 := Lib.hid hg3; have HAT := Lib.hid hat3; have hX3 := (HX2q.out.alloc (.cells #[.slice none 0 0] 51)).grown hg3 (fun e => by have := (HA.out _ e.symm).2; omega); have e2 : w3.cell? ⟨w.heap.size, 0, none⟩ = some (.slice A n c) := (by simpa using hX3.cell 0); have f2 := hX3.frozen 0; have l4 := hX3.lt; have HX4 := Lib.hid (hX3.set_ 0 (.slice A3 (n + 1) c5)); have HY4 := Lib.hid (((HX3q.out.alloc (.cells #[.slice none 0 0] 51)).grown hg3 (fun e => by have := (HA.out _ e.symm).2; omega)).far (p := ⟨w.heap.size, 0, none⟩) (by simp) (.slice A3 (n + 1) c5)); clear hX3 ho3 hg3 hat3)
    obtain ⟨g3, hA3, hbg3, hg3l⟩ := own_at HO3.out (by omega)
    subst hA3
    have hg3n : g3 ≠ w.heap.size ∧ g3 ≠ w.heap.size + 1 := by
      rcases HAT.out with h | h
      · have := (HA.out g3 h.symm).2; omega
      · simp only [ob, Option.map_some, Option.some.injEq, World.size_alloc] at h; omega
    obtain ⟨hg3n, hg3m⟩ := hg3n
    have HO4 := Lib.hid (own_set HO3.out (p := ⟨w.heap.size, 0, none⟩) (fun g e => by simp only [ob, Option.map_some, Option.some.injEq] at e; subst e; exact hg3n) (.slice (some ⟨g3, 0, none⟩) (n + 1) c5))
    have HG4 : Hid (w.grownBy (w3.setCell ⟨w.heap.size, 0, none⟩ (.slice (some ⟨g3, 0, none⟩) (n + 1) c5)) (ob A)) :=
      grown_setC (grown_comp2 (grown_of_below (bel_alloc hb0q _) (ob A)) HG3.out (fun g h => .inl h)) (.inr (Nat.le_refl _)) _
    have HR4 : Hid (∀ x t, CRow wq x t → CRow (w3.setCell ⟨w.heap.size, 0, none⟩ (.slice (some ⟨g3, 0, none⟩) (n + 1) c5)) x t) := fun x t h =>
      ((h.below (bel_alloc (Below.refl _ _) _)).grown HG3.out (fun g e r => (h.apart HOq.out.own) g e r)).grown (grown_set (World.grownBy.refl _ (some w.heap.size)) rfl _) (fun g e r => by
        injection r with r
        obtain ⟨cur, z, h1⟩ := h.2.2 g e
        have h2 := HX2q.out
        unfold Blk at h2
        rw [r, h1] at h2
        injection h2 with h2
        injection h2 with _ h3
        exact absurd h3 (by decide))
    obtain ⟨w4, hw4⟩ : ∃ w4, w3.setCell ⟨w.heap.size, 0, none⟩ (.slice (some ⟨g3, 0, none⟩) (n + 1) c5) = w4 := ⟨_, rfl⟩
    rw [hw4] at HX4 HY4 HO4 HG4 HR4 ⊢
    have d2 : w4.cell? ⟨w.heap.size, 0, none⟩ = some (.slice (some ⟨g3, 0, none⟩) (n + 1) c5) := by simpa using HX4.out.cell 0
    have l6 := HX4.out.lt
    have hk0 : (0 : Int) ≤ (k : Int) := by omega
    obtain ⟨k1, hk1⟩ : ∃ k1 : Nat, k + 1 = k1 := ⟨_, rfl⟩
    have hk1I : (k : Int) + 1 = (k1 : Int) := by omega
    have hk1w : IntKind.i64.wrap (k1 : Int) = (k1 : Int) := Go.IntWalk.i64_in _ (by omega)
    have hs1 : ∀ w', (Instr.slice 31 (.slice (some ⟨g3, 0, none⟩) (n + 1) c5) (some (.int .i64 (k1 : Int))) none none).run Tryz.prog w' = .ok (.slice (some ⟨g3, offF c5 k1, none⟩) (n + 1 - k1) (c5 - k1)) w' := fun w' => run_fromF w' g3 (n + 1) c5 k1 (by omega)
    have hs2 : ∀ w', (Instr.slice 31 (.slice (some ⟨g3, 0, none⟩) (n + 1) c5) (some (.int .i64 (k : Int))) none none).run Tryz.prog w' = .ok (.slice (some ⟨g3, offF c5 k, none⟩) (n + 1 - k) (c5 - k)) w' := fun w' => run_fromF w' g3 (n + 1) c5 k (by omega)
    have HK1 := Lib.hid hk1
    clear hk1 hw4 e2 f2 l4
    go_wp2_with fail
    (refine wp_region_tailN (C := Gr w4 (some ⟨g3, 0, none⟩)) 7 (by kernel_rfl) (by kernel_rfl) (Gr.drawn _ _) (fun _ _ h k => h.ext k) ?_; simp only [List.take_succ_cons, List.take_zero, List.drop_succ_cons, List.drop_zero]; (repeat (first | (refine headSkip (by rfl) rfl ?_; simp only [List.setIfInBounds_toArray, List.set_cons_zero, List.set_cons_succ]) | (refine headV (v := ?_) (by rfl) rfl (fun w' hcw => ?_) ?_; rotate_left; ((try dsimp only at hcw); have hbc := hcw.cells; go_simp; first | done | with_reducible rfl | (have hcc := hcw.cell l6 (by simp [ob]; exact fun e => hg3n e.symm) 0; go_simp; first | done | with_reducible rfl)); simp only [List.setIfInBounds_toArray, List.set_cons_zero, List.set_cons_succ]))); unfold wpHead)
    refine tailK (by rfl) (fun u5 hc5 he5 K hK => ?_)
    obtain ⟨w5, hrun, ho5, hg5⟩ := run_shift u5 base g3 n c5 k (hs ++ [(none, 0, 0)]) (own_keep HO4.out he5) hkn 3
    rw [HK1.out] at hrun
    refine wp_copyF _ _ _ _ rfl rfl rfl hrun ?_
    refine hK _ _ (Gr.trans hc5 hg5) ?_
    clear hK K hrun
    simp only [Act.put, List.setIfInBounds_toArray, List.set_cons_zero, List.set_cons_succ]
    (refine fun w6 hc6 he6 => NoPanic.normal ?_)
    have HO6 := Lib.hid (own_keep ho5 he6)
    have HG6 : Hid (w4.grownBy w6 (some g3)) := hc6
    have HX6 := Lib.hid (HX4.out.grown HG6.out (fun e => by injection e with e; exact hg3n e.symm))
    have HY6 := Lib.hid (HY4.out.grown HG6.out (fun e => by injection e with e; exact hg3m e.symm))
    have b2 : w6.cell? ⟨w.heap.size, 0, none⟩ = some (.slice (some ⟨g3, 0, none⟩) (n + 1) c5) := by simpa using HX6.out.cell 0
    have b3 : w6.cell? ⟨w.heap.size + 1, 0, none⟩ = some (.slice B m d) := by simpa using HY6.out.cell 0
    have l7 := HX6.out.lt
    have l8 := HY6.out.lt
    have hck := HO6.out.cellAt k (by omega)
    have hkl : k < (vS (List.take (k + 1) (hs ++ [(none, 0, 0)]) ++ List.take (n - k) (List.drop k (hs ++ [(none, 0, 0)])))).length := by
      have := own_len HO6.out; omega
    rw [List.getElem?_eq_getElem hkl] at hck
    generalize (vS (List.take (k + 1) (hs ++ [(none, 0, 0)]) ++ List.take (n - k) (List.drop k (hs ++ [(none, 0, 0)]))))[k] = z at hck
    have hfk := HO6.out.frozenAt k
    have hg6l := own_lt HO6.out g3 rfl
    have hst := (HO6.out.stored k (.slice B m d)).1
    rw [show (vS (List.take (k + 1) (hs ++ [(none, 0, 0)]) ++ List.take (n - k) (List.drop k (hs ++ [(none, 0, 0)])))).set k (.slice B m d) = vS (hs.take k ++ [(B, m, d)] ++ hs.drop k) from by rw [← ins_set hs (none, 0, 0) (B, m, d) n k HO.out.hlen hkn]; simp [vS, List.map_set, hd]] at hst
    have HST := Lib.hid hst
    obtain ⟨hg6a, hg6b⟩ := hg6l
    have hkI2 : (k : Int) < (n : Int) + 1 := by omega
    have HRW : Hid (∀ x t, CRow wq x t → CRow (w6.setCell ⟨g3, k, none⟩ (.slice B m d)) x t) := fun x t h => by
      have h4 := HR4.out x t h
      have ne := h4.apart HO4.out
      exact (h4.grown HG6.out (fun g e r => ne g e r)).grown (grown_set (World.grownBy.refl _ (some g3)) rfl _) (fun g e r => ne g e r)
    have HGW : Hid (w.grownBy (w6.setCell ⟨g3, k, none⟩ (.slice B m d)) (ob A)) := by
      have hh : ob A = some g3 ∨ w.heap.size ≤ g3 := by
        rcases HAT.out with h | h
        · exact .inl h.symm
        · simp only [ob, Option.map_some, Option.some.injEq, World.size_alloc] at h; right; omega
      exact grown_setC (grown_comp2 HG4.out HG6.out (fun g h => by injection h with h; subst h; exact hh)) hh _
    clear hst hc5 he5 ho5 hg5 hc6 he6 d2 l6 hs1 hs2
    go_wp2_with fail
    go_ret
    refine ⟨some ⟨g3, 0, none⟩, n + 1, c5, hs.take k ++ [(B, m, d)] ++ hs.drop k, rfl, ⟨HST.out, ?_, ?_⟩, HGW.out, ?_⟩
    · rw [HV.out]; simp only [List.length_append, List.length_take, List.length_drop, List.length_cons, List.length_nil, HFL.out]; omega
    · intro i x t h1 h2
      rw [HV.out] at h2
      rcases ins_rows (by rw [HO.out.hlen, HFL.out]) (by rw [HFL.out]; exact hkn) i x t h1 h2 with ⟨j, h3, h4⟩ | ⟨h3, h4⟩
      · exact HRW.out x t (HOq.out.row j x t h3 h4)
      · subst h3 h4
        exact HRW.out _ _ (HF1.out.below hbq)
    · intro g e
      rcases HAT.out with h | h
      · exact .inl (h ▸ e)
      · rw [h] at e
        simp only [World.size_alloc, Option.some.injEq] at e
        right; omega
end Go.Proofs.YtoedmmhiinhljaaGreatDoor

/- Cells and shapes turned, the orientations of a shape: the program. -/
namespace Go.Proofs.YtoedmmhiinhljaaGreatDoor
open Go.RowKit
set_option linter.unusedVariables false
attribute [local go_sem ↓] Go.wp_at_zero Go.wp_at_succ

set_option maxHeartbeats 1600000 in
theorem carry_i (x y : Int) (m : Nat) (w : World) (hq : in7 1000 (x, y)) (hm : m < 8) :
    Calls Tryz.prog 107 #[.agg #[.int .i64 x, .int .i64 y], .int .i64 (m : Int)] w (Ret w (.agg #[.int .i64 (motC m (x, y)).1, .int .i64 (motC m (x, y)).2])) := by
  obtain ⟨r, hr⟩ : ∃ r, m % 4 = r := ⟨_, rfl⟩
  have hr4 : r < 4 := by omega
  have hmr : (m : Int) % 4 = (r : Int) := by omega
  have hm0 : (0 : Int) ≤ (m : Int) := by omega
  have hm7 : (m : Int) ≤ 7 := by omega
  obtain ⟨⟨h1, h2⟩, h3, h4⟩ := id hq
  simp only at h1 h2 h3 h4
  have HOK := Lib.hid (in7_flip hq m)
  have HC : Hid (motC m (x, y) = rotC r (flipC m (x, y))) := by show motC m (x, y) = _; unfold motC; rw [hr]
  have ex : IntKind.i64.wrap (-x) = -x := Go.IntWalk.i64_in _ (by omega)
  clear hr hq
  by_cases h4m : 4 ≤ m
  · have HST : Hid (rotC 0 (flipC m (x, y)) = (-x, y)) := by show flipC m (x, y) = _; unfold flipC; rw [if_pos h4m]
    have h4i : (m : Int) ≥ 4 := by omega
    go_enter Tryz.func107, Tryz.ntmps107
    go_wp2
    go_loopw [13] (fun e13 wr => ∃ (j : Nat) (x' y' : Int), j ≤ r ∧ e13 = .int .i64 j ∧ rotC j (flipC m (x, y)) = (x', y') ∧ Blk wr w.heap.size 66 #[.int .i64 x', .int .i64 y'] ∧ Blk wr (w.heap.size + 1) 66 #[.int .i64 0, .int .i64 0] ∧ Below w.heap.size w wr) (fun e13 _ => r - (intOf e13).toNat)
    case atStart =>
      have hb1 : Blk ((w.alloc (.cells #[.int .i64 (-x), .int .i64 y] 66)).alloc (.cells #[.int .i64 0, .int .i64 0] 66)) w.heap.size 66 #[.int .i64 (-x), .int .i64 y] := (Blk.new w 66 #[.int .i64 (-x), .int .i64 y]).alloc _
      have hb2 : Blk ((w.alloc (.cells #[.int .i64 (-x), .int .i64 y] 66)).alloc (.cells #[.int .i64 0, .int .i64 0] 66)) (w.heap.size + 1) 66 #[.int .i64 0, .int .i64 0] := by
        have h := Blk.new (w.alloc (.cells #[.int .i64 (-x), .int .i64 y] 66)) 66 #[.int .i64 0, .int .i64 0]
        rw [show (w.alloc (.cells #[.int .i64 (-x), .int .i64 y] 66)).heap.size = w.heap.size + 1 from by simp] at h
        exact h
      exact ⟨0, (-x), y, Nat.zero_le _, rfl, HST.out, hb1, hb2, (by (repeat (first | with_reducible exact Below.refl _ _ | with_reducible assumption | with_reducible apply bel_alloc | with_reducible apply bel_drew | with_reducible apply bel_drewN | ((with_reducible refine bel_set ?_ ?_); rotate_left; (simp <;> omega)) | (with_reducible refine bel_trans ?_ (by with_reducible assumption)))))⟩
    case round =>
      obtain ⟨j, x', y', hj, rfl, hrot, hB, hB2, hb⟩ := hrel
      have ho : in7 1000 (x', y') := by rw [← hrot]; exact in7_rot HOK.out j
      obtain ⟨⟨k1, k2⟩, k3, k4⟩ := ho
      simp only at k1 k2 k3 k4
      have en : IntKind.i64.wrap (-y') = -y' := Go.IntWalk.i64_in _ (by omega)
      have c0 : wr.cell? ⟨w.heap.size, 0, none⟩ = some (.int .i64 x') := by simpa using hB.cell 0
      have c1 : wr.cell? ⟨w.heap.size, 1, none⟩ = some (.int .i64 y') := by simpa using hB.cell 1
      have f0 := hB.frozen 0
      have f1 := hB.frozen 1
      have d0 : wr.cell? ⟨w.heap.size + 1, 0, none⟩ = some (.int .i64 0) := by simpa using hB2.cell 0
      have d1 : wr.cell? ⟨w.heap.size + 1, 1, none⟩ = some (.int .i64 0) := by simpa using hB2.cell 1
      have fd0 := hB2.frozen 0
      have fd1 := hB2.frozen 1
      by_cases hlt : j < r
      · have hj1 : (j : Int) < (r : Int) := by omega
        have HR : Hid (rotC (j + 1) (flipC m (x, y)) = (-y', x')) := by show (-(rotC j _).2, (rotC j _).1) = _; rw [hrot]
        have hS : Blk ((wr.setCell ⟨w.heap.size, 0, none⟩ (.int .i64 (-y'))).setCell ⟨w.heap.size, 1, none⟩ (.int .i64 x')) w.heap.size 66 #[.int .i64 (-y'), .int .i64 x'] := by simpa using (hB.set_ 0 (.int .i64 (-y'))).set_ 1 (.int .i64 x')
        have hS2 : Blk ((wr.setCell ⟨w.heap.size, 0, none⟩ (.int .i64 (-y'))).setCell ⟨w.heap.size, 1, none⟩ (.int .i64 x')) (w.heap.size + 1) 66 #[.int .i64 0, .int .i64 0] := (hB2.far (by simp) _).far (by simp) _
        have HS := Lib.hid hS
        have HS2 := Lib.hid hS2
        clear hrot hB hB2 hS hS2
        go_wp2
        exact ⟨⟨j + 1, -y', x', by omega, by go_num, HR.out, HS.out, HS2.out, (by (repeat (first | with_reducible exact Below.refl _ _ | with_reducible assumption | with_reducible apply bel_alloc | with_reducible apply bel_drew | with_reducible apply bel_drewN | ((with_reducible refine bel_set ?_ ?_); rotate_left; (simp <;> omega)) | (with_reducible refine bel_trans ?_ (by with_reducible assumption)))))⟩, by simp [intOf]; omega⟩
      · have hjr : j = r := by omega
        subst hjr
        have HV : Hid (motC m (x, y) = (x', y')) := by show motC m (x, y) = _; rw [HC.out, hrot]
        have hj1 : ¬ (j : Int) < (j : Int) := by omega
        clear hrot hB hB2
        go_wp2
        exact bodyPost_ret (v := .agg #[.int .i64 x', .int .i64 y']) (by simp [results, Tryz.results107, go_sem, d0, d1]) rfl ⟨by rw [HV.out], (by (repeat (first | with_reducible exact Below.refl _ _ | with_reducible assumption | with_reducible apply bel_alloc | with_reducible apply bel_drew | with_reducible apply bel_drewN | ((with_reducible refine bel_set ?_ ?_); rotate_left; (simp <;> omega)) | (with_reducible refine bel_trans ?_ (by with_reducible assumption)))))⟩
  · have HST : Hid (rotC 0 (flipC m (x, y)) = (x, y)) := by show flipC m (x, y) = _; unfold flipC; rw [if_neg h4m]
    have h4i : ¬ (m : Int) ≥ 4 := by omega
    go_enter Tryz.func107, Tryz.ntmps107
    go_wp2
    go_loopw [13] (fun e13 wr => ∃ (j : Nat) (x' y' : Int), j ≤ r ∧ e13 = .int .i64 j ∧ rotC j (flipC m (x, y)) = (x', y') ∧ Blk wr w.heap.size 66 #[.int .i64 x', .int .i64 y'] ∧ Blk wr (w.heap.size + 1) 66 #[.int .i64 0, .int .i64 0] ∧ Below w.heap.size w wr) (fun e13 _ => r - (intOf e13).toNat)
    case atStart =>
      have hb1 : Blk ((w.alloc (.cells #[.int .i64 x, .int .i64 y] 66)).alloc (.cells #[.int .i64 0, .int .i64 0] 66)) w.heap.size 66 #[.int .i64 x, .int .i64 y] := (Blk.new w 66 #[.int .i64 x, .int .i64 y]).alloc _
      have hb2 : Blk ((w.alloc (.cells #[.int .i64 x, .int .i64 y] 66)).alloc (.cells #[.int .i64 0, .int .i64 0] 66)) (w.heap.size + 1) 66 #[.int .i64 0, .int .i64 0] := by
        have h := Blk.new (w.alloc (.cells #[.int .i64 x, .int .i64 y] 66)) 66 #[.int .i64 0, .int .i64 0]
        rw [show (w.alloc (.cells #[.int .i64 x, .int .i64 y] 66)).heap.size = w.heap.size + 1 from by simp] at h
        exact h
      exact ⟨0, x, y, Nat.zero_le _, rfl, HST.out, hb1, hb2, (by (repeat (first | with_reducible exact Below.refl _ _ | with_reducible assumption | with_reducible apply bel_alloc | with_reducible apply bel_drew | with_reducible apply bel_drewN | ((with_reducible refine bel_set ?_ ?_); rotate_left; (simp <;> omega)) | (with_reducible refine bel_trans ?_ (by with_reducible assumption)))))⟩
    case round =>
      obtain ⟨j, x', y', hj, rfl, hrot, hB, hB2, hb⟩ := hrel
      have ho : in7 1000 (x', y') := by rw [← hrot]; exact in7_rot HOK.out j
      obtain ⟨⟨k1, k2⟩, k3, k4⟩ := ho
      simp only at k1 k2 k3 k4
      have en : IntKind.i64.wrap (-y') = -y' := Go.IntWalk.i64_in _ (by omega)
      have c0 : wr.cell? ⟨w.heap.size, 0, none⟩ = some (.int .i64 x') := by simpa using hB.cell 0
      have c1 : wr.cell? ⟨w.heap.size, 1, none⟩ = some (.int .i64 y') := by simpa using hB.cell 1
      have f0 := hB.frozen 0
      have f1 := hB.frozen 1
      have d0 : wr.cell? ⟨w.heap.size + 1, 0, none⟩ = some (.int .i64 0) := by simpa using hB2.cell 0
      have d1 : wr.cell? ⟨w.heap.size + 1, 1, none⟩ = some (.int .i64 0) := by simpa using hB2.cell 1
      have fd0 := hB2.frozen 0
      have fd1 := hB2.frozen 1
      by_cases hlt : j < r
      · have hj1 : (j : Int) < (r : Int) := by omega
        have HR : Hid (rotC (j + 1) (flipC m (x, y)) = (-y', x')) := by show (-(rotC j _).2, (rotC j _).1) = _; rw [hrot]
        have hS : Blk ((wr.setCell ⟨w.heap.size, 0, none⟩ (.int .i64 (-y'))).setCell ⟨w.heap.size, 1, none⟩ (.int .i64 x')) w.heap.size 66 #[.int .i64 (-y'), .int .i64 x'] := by simpa using (hB.set_ 0 (.int .i64 (-y'))).set_ 1 (.int .i64 x')
        have hS2 : Blk ((wr.setCell ⟨w.heap.size, 0, none⟩ (.int .i64 (-y'))).setCell ⟨w.heap.size, 1, none⟩ (.int .i64 x')) (w.heap.size + 1) 66 #[.int .i64 0, .int .i64 0] := (hB2.far (by simp) _).far (by simp) _
        have HS := Lib.hid hS
        have HS2 := Lib.hid hS2
        clear hrot hB hB2 hS hS2
        go_wp2
        exact ⟨⟨j + 1, -y', x', by omega, by go_num, HR.out, HS.out, HS2.out, (by (repeat (first | with_reducible exact Below.refl _ _ | with_reducible assumption | with_reducible apply bel_alloc | with_reducible apply bel_drew | with_reducible apply bel_drewN | ((with_reducible refine bel_set ?_ ?_); rotate_left; (simp <;> omega)) | (with_reducible refine bel_trans ?_ (by with_reducible assumption)))))⟩, by simp [intOf]; omega⟩
      · have hjr : j = r := by omega
        subst hjr
        have HV : Hid (motC m (x, y) = (x', y')) := by show motC m (x, y) = _; rw [HC.out, hrot]
        have hj1 : ¬ (j : Int) < (j : Int) := by omega
        clear hrot hB hB2
        go_wp2
        exact bodyPost_ret (v := .agg #[.int .i64 x', .int .i64 y']) (by simp [results, Tryz.results107, go_sem, d0, d1]) rfl ⟨by rw [HV.out], (by (repeat (first | with_reducible exact Below.refl _ _ | with_reducible assumption | with_reducible apply bel_alloc | with_reducible apply bel_drew | with_reducible apply bel_drewN | ((with_reducible refine bel_set ?_ ?_); rotate_left; (simp <;> omega)) | (with_reducible refine bel_trans ?_ (by with_reducible assumption)))))⟩
theorem map_take {α β : Type} (f : α → β) (xs : List α) (k : Nat) (hk : k < xs.length) : (xs.take (k + 1)).map f = (xs.take k).map f ++ [f xs[k]] := by
  rw [List.take_succ_eq_append_getElem hk, List.map_append]; rfl
set_option maxHeartbeats 1600000 in
theorem turned_i (A : Option Addr) (n c : Nat) (xs : List C) (m : Nat) (w : World) (hr : Rd w A (vC xs)) (hl : xs.length = n) (hs : isShape xs = true) (hm : m < 8) :
    Calls Tryz.prog 86 #[.slice A n c, .int .i64 (m : Int)] w (RetS w 66 2 (vC (turnV xs m))) := by
  have hn8 := shape_len hs
  have hti := turn_in hs m
  have hob := shape_onB hs
  rw [hl] at hn8
  obtain ⟨hn1, hn8⟩ := hn8
  have HL := Lib.hid hl
  have HR := Lib.hid hr
  have HTI := Lib.hid hti
  have HOB := Lib.hid hob
  clear hl hr hs hti hob
  go_enter Tryz.func86, Tryz.ntmps86
  go_wp2
  go_loopw [10, 5] (fun e10 e5 wr => ∃ (k cq : Nat) (D : Option Addr), k ≤ n ∧ e10 = .int .i64 k ∧ e5 = .slice D k cq ∧ wr.ownsRow w.heap.size 66 2 (.slice D k cq) k (vC ((xs.take k).map (motC m))) ∧ Below w.heap.size w wr) (fun e10 _ _ => n - (intOf e10).toNat)
  case atStart => exact ⟨0, 0, none, Nat.zero_le _, rfl, rfl, own_nil _ _ _ _, Below.refl _ _⟩
  case round =>
    obtain ⟨k, cq, D, hk, rfl, rfl, hown, hb⟩ := hrel
    by_cases hlt : k < n
    · have hkl : k < xs.length := by rw [HL.out]; exact hlt
      have hk0 : (0 : Int) ≤ (k : Int) := by omega
      have hk1 : (k : Int) < (n : Int) := by omega
      obtain ⟨g, off, hA, hg, d1, d2⟩ := RdC.at_ (HR.out.below hb) hkl
      subst hA
      have hst := map_take (motC m) xs k hkl
      have h7 := in7_onB (HOB.out _ (List.getElem_mem hkl))
      obtain ⟨p, hp⟩ : ∃ p, xs[k].1 = p := ⟨_, rfl⟩
      obtain ⟨q, hq⟩ : ∃ q, xs[k].2 = q := ⟨_, rfl⟩
      rw [show xs[k] = (p, q) from Prod.ext hp hq] at hst h7
      rw [hp] at d1
      rw [hq] at d2
      have hK : in7 1000 (p, q) := by unfold in7 at h7 ⊢; simp only at h7 ⊢; omega
      obtain ⟨⟨x', y'⟩, hxy⟩ : ∃ z, motC m (p, q) = z := ⟨_, rfl⟩
      rw [hxy] at hst
      have HCA : Hid (∀ w0, Calls Tryz.prog 107 #[.agg #[.int .i64 p, .int .i64 q], .int .i64 (m : Int)] w0 (Ret w0 (.agg #[.int .i64 x', .int .i64 y']))) := fun w0 => by
        have h := carry_i p q m w0 hK hm
        rw [hxy] at h
        exact h
      have HST := Lib.hid hst
      have HO := Lib.hid hown
      clear hst hown hp hq h7 hxy hK
      go_wp2_with fail
      refine (HCA.out _).mono ?_
      rintro e w2 ⟨rfl, hb2⟩
      have hb02 := bel_trans (bel_alloc hb (.cells #[.int .i64 p, .int .i64 q] 66)) hb2
      have HO2 := Lib.hid (own_keep (HO.out.alloc (.cells #[.int .i64 p, .int .i64 q] 66)) hb2)
      have hbz := hb02.size
      clear d1 d2
      go_wp2_with (at_builtin; go_must (refine app_C _ rfl _ _ rfl w.heap.size _ _ _ _ rfl (HO2.out.alloc _) _ _ _ [(x', y')] rfl (rd_newC _ _ _ _) rfl (by omega) (by simp; omega) ?_); intro D2 cp2 w8 ho8 hg8 hat8; have HO8 := Lib.hid ho8; have HG8 := Lib.hid hg8; clear ho8 hg8 hat8)
      exact ⟨⟨k + 1, cp2, D2, by omega, by go_num, rfl, by rw [HST.out]; exact HO8.out, bel_app (bel_alloc hb02 _) HG8.out (fun g' hg1 => ((own_lt HO2.out) g' hg1).1)⟩, by simp [intOf]; omega⟩
    · obtain rfl : k = n := by omega
      rw [List.take_of_length_le (by rw [HL.out]; omega)] at hown
      have HO := Lib.hid hown
      have hk1 : ¬ (k : Int) < (k : Int) := by omega
      clear hown
      go_wp2_with fail
      refine (corner_i D k cq (xs.map (motC m)) _ (Rd.of_own HO.out) (by rw [List.length_map]; exact HL.out) hn1 (by omega) (fun d hd => by have := HTI.out d hd; unfold in7 at this; unfold small; omega)).mono ?_
      rintro e w2 ⟨E, q, ce, rfl, hO2, hb2⟩
      have HO2 := Lib.hid hO2
      have hbz := hb.size
      clear hO2
      go_wp2_with fail
      go_ret
      exact ⟨E, q, ce, rfl, own_base HO2.out hbz, bel_trans hb hb2⟩
theorem putV_eq {F : List (List C)} (h : IncG ltS F) (f : List C) : putB ltS F f = putG ltS F f := by
  obtain ⟨h1, h2⟩ := putB_inc ltS_sto h f
  obtain ⟨h3, h4⟩ := putG_inc ltS_sto h f
  exact incG_eq ltS_sto _ _ h1 h3 fun x => by rw [h2, h4]
set_option maxHeartbeats 1600000 in
theorem OrientationsOf_i (A : Option Addr) (n c : Nat) (xs : List C) (w : World) (hr : Rd w A (vC xs)) (hl : xs.length = n) (hs : isShape xs = true) :
    Calls Tryz.prog 71 #[.slice A n c] w (RetF w (orV xs)) := by
  have hn8 := (shape_len hs).2
  rw [hl] at hn8
  have hV : orV xs = orTo xs 8 := by unfold orV; rw [if_pos hs]
  have HTL : Hid (∀ m, 1 ≤ (turnV xs m).length ∧ (turnV xs m).length ≤ 8) := fun m => turn_len hs m
  have hmem := orTo_mem xs
  have HME : Hid (∀ k, ∀ x ∈ orTo xs k, x.length ≤ 1048576) := fun k x hx => by
    obtain ⟨m, _, rfl⟩ := hmem k x hx
    have := (turn_len hs m).2
    omega
  have HV := Lib.hid hV
  have HL := Lib.hid hl
  have HR := Lib.hid hr
  have HS := Lib.hid hs
  clear hl hr hs hV hmem
  go_enter Tryz.func71, Tryz.ntmps71
  go_wp2_with fail
  refine (IsShape_i A n c xs _ HR.out HL.out (by omega)).mono ?_
  rw [HS.out]
  rintro e w1 ⟨rfl, hb1⟩
  have hbz := hb1.size
  go_wp2_with fail
  go_loopw [8, 3] (fun e8 e3 wr => ∃ (m q cq : Nat) (D : Option Addr) (hs : List H), m ≤ 8 ∧ e8 = .int .i64 m ∧ e3 = .slice D q cq ∧ OwnF w1.heap.size wr D q cq hs (orTo xs m) ∧ Below w1.heap.size w1 wr) (fun e8 _ _ => 8 - (intOf e8).toNat)
  case atStart => exact ⟨0, 0, 0, none, [], Nat.zero_le _, rfl, rfl, OwnF.nil _ _, Below.refl _ _⟩
  case round =>
    obtain ⟨m, q, cq, D, hs, hm, rfl, rfl, hO, hb⟩ := hrel
    have hql : (orTo xs m).length = q := hO.flen
    have hol := orTo_len xs m
    have hinc := orTo_inc xs m
    have HINC := Lib.hid hinc
    have hb01 := bel_trans hb1 hb
    have HO := Lib.hid hO
    clear hO hinc
    by_cases hlt : m < 8
    · have hm0 : (0 : Int) ≤ (m : Int) := by omega
      have hm1 : (m : Int) < 8 := by omega
      have hst : orTo xs (m + 1) = putB ltS (orTo xs m) (turnV xs m) := by show putG ltS _ _ = _; rw [putV_eq HINC.out]
      have hme := HME.out m
      have htl := HTL.out m
      obtain ⟨F, hF⟩ : ∃ F, orTo xs m = F := ⟨_, rfl⟩
      obtain ⟨t, ht⟩ : ∃ t, turnV xs m = t := ⟨_, rfl⟩
      have HTU : Hid (∀ w0, Rd w0 A (vC xs) → Calls Tryz.prog 86 #[.slice A n c, .int .i64 (m : Int)] w0 (RetS w0 66 2 (vC t))) := fun w0 h => by
        have h2 := turned_i A n c xs m w0 h HL.out HS.out hlt
        rw [ht] at h2
        exact h2
      rw [hF, ht] at hst
      rw [hF] at hme hql HO HINC hol
      rw [ht] at htl
      have HST := Lib.hid hst
      have HMF := Lib.hid hme
      clear hst hF ht hme
      go_wp2_with fail
      refine (HTU.out _ (HR.out.below hb01)).mono ?_
      rintro e w2 ⟨E, q2, c2, rfl, hT, hb2⟩
      have hq2 : t.length = q2 := by have := own_len hT; rw [vC_length] at this; omega
      have hO2 := HO.out.below hb2
      have hb12 := bel_trans hb hb2
      have HO2 := Lib.hid hO2
      have HCR := Lib.hid (CRow.of_own hT)
      have hz2 := hb12.size
      clear hO2 hT HO
      go_wp2_with fail
      refine (putShape_i D q cq hs F E q2 c2 t w1.heap.size _ HO2.out HCR.out HINC.out HMF.out (by omega) (by omega) hz2).mono ?_
      rintro e w3 ⟨D3, n3, c3, hs3, rfl, hO3, hg3, hD3⟩
      have HO3 := Lib.hid hO3
      have hb13 : Below w1.heap.size w1 w3 := bel_app hb12 hg3 (fun g e => (own_lt HO2.out.own g e).1)
      clear hO3 hD3
      go_wp2_with fail
      exact ⟨⟨m + 1, n3, c3, D3, hs3, by omega, by go_num, rfl, by rw [HST.out]; exact HO3.out, hb13⟩, by simp [intOf]; omega⟩
    · obtain rfl : m = 8 := by omega
      rw [← HV.out] at HO
      have hm1 : ¬ ((8 : Nat) : Int) < 8 := by omega
      go_wp2_with fail
      go_ret
      exact ⟨D, q, cq, hs, rfl, HO.out.mono hbz, hb01⟩
end Go.Proofs.YtoedmmhiinhljaaGreatDoor

/- Numbers in order, each once: the program. -/
namespace Go.Proofs.YtoedmmhiinhljaaGreatDoor
open Go.RowKit
set_option linter.unusedVariables false
attribute [local go_sem ↓] Go.wp_at_zero Go.wp_at_succ

/-- What the library's sort leaves. -/
def SortP (w : World) (base : Nat) (A : Option Addr) (n c : Nat) (l : List Int) (e : Ending) (w' : World) : Prop := e = .returned (.tuple #[]) ∧ w'.ownsRow base 3 1 (.slice A n c) n (vI (srt l)) ∧ w.grownBy w' (ob A)
theorem sortInts (A : Option Addr) (n c base : Nat) (l : List Int) (w : World) (ho : w.ownsRow base 3 1 (.slice A n c) n (vI l)) (hn : n ≤ 1099511627776) :
    Calls Tryz.prog 74 #[.slice A n c] w (SortP w base A n c l) := by
  have hl : l.length = n := by have := own_len ho; rw [vI_length] at this; omega
  rcases ho.2 with ⟨hv, h0⟩ | ⟨g, cap, cur, hv, hb, hg, hnc, hcm, hcs, ht⟩
  · injection hv with hA hn0 hc0
    subst hA hn0 hc0
    have e : l = [] := List.eq_nil_of_length_eq_zero hl
    subst e
    refine (Tryz.sort_Ints_none none 0 w).mono ?_
    rintro e w' ⟨rfl, rfl⟩
    exact ⟨rfl, by rw [show srt [] = [] from by simp [srt]]; exact ho, World.grownBy.refl _ _⟩
  · injection hv with hA _ hc
    subst hA hc
    subst hl
    rw [Nat.mul_one] at ht
    refine (Tryz.sort_Ints g 0 c l w (holds_of_blockI hg ht) (Array.getElem?_eq_some_iff.1 hg).1 (by omega)).mono ?_
    rintro e w' ⟨rfl, k, os, rfl⟩
    exact ⟨rfl, ownsRow_sortedI (srt_len l) hb hg hnc hcm hcs, grownBy_sortedI _⟩
set_option maxRecDepth 100000 in
set_option maxHeartbeats 1600000 in
theorem ordered_i (A : Option Addr) (n c : Nat) (xs : List Int) (w : World) (hr : Rd w A (vI xs)) (hl : xs.length = n) (hn : n ≤ 1099511627776) :
    Calls Tryz.prog 53 #[.slice A n c] w (RetS w 3 1 (vI (ord xs))) := by
  have HL := Lib.hid hl
  have HV : Hid (ord xs = dedTo (srt xs) n) := by show ord xs = _; unfold ord; rw [srt_len, hl]
  have HSL : Hid ((srt xs).length = n) := by show (srt xs).length = n; rw [srt_len, hl]
  clear hl
  go_enter Tryz.func53, Tryz.ntmps53
  go_wp2_with fail
  refine (copyInts_i _ _ _ xs _ hr HL.out (by omega)).mono ?_
  rintro e w1 ⟨B, m, cB, rfl, ho, hb1⟩
  have hm : n = m := by have := own_len ho; rw [vI_length] at this; have := HL.out; omega
  subst hm
  have hBlt := own_lt ho
  go_wp2_with fail
  refine (sortInts _ _ _ _ xs _ ho hn).mono ?_
  rintro e w2 ⟨rfl, ho2, hg2⟩
  have hb2 : Below w.heap.size w w2 := bel_app hb1 hg2 (fun g h => (hBlt g h).1)
  have hrd := Rd.of_own ho2
  generalize srt xs = s at HV HSL hrd ho2
  have HO2 := Lib.hid ho2
  clear ho ho2 hg2 hb1
  go_wp2_with fail
  go_loopw [4, 13] (fun e e13 wr => ∃ (k q cp : Nat) (D : Option Addr), k ≤ n ∧ q ≤ k ∧ e = .slice D q cp ∧ e13 = .int .i64 k ∧ wr.ownsRow w2.heap.size 3 1 (.slice D q cp) q (vI (dedTo s k)) ∧ Below w2.heap.size w2 wr) (fun _ e13 _ => n - (intOf e13).toNat)
  case atStart => exact ⟨0, 0, 0, none, by omega, by omega, rfl, rfl, own_nil _ _ _ _, Below.refl _ _⟩
  case round =>
    obtain ⟨k, q, cp, D, hk, hq, rfl, rfl, hown, hb⟩ := hrel
    by_cases hlt : k < n
    · have hks : k < s.length := by rw [HSL.out]; exact hlt
      have hrw := hrd.below hb
      obtain ⟨g, off, rfl, hg, c1⟩ := RdI.at_ hrw hks
      have hgd : s.getD k 0 = s[k] := by rw [List.getD_eq_getElem?_getD, List.getElem?_eq_getElem hks]; rfl
      have hst : dedTo s (k + 1) = dedTo s k ++ (if keepAt s k then [s.getD k 0] else []) := rfl
      rw [hgd] at hst
      obtain ⟨x, hx⟩ : ∃ x, s[k] = x := ⟨_, rfl⟩
      rw [hx] at c1 hst hgd
      have HO := Lib.hid hown
      have hbs := hb.size
      clear hown hx
      -- the two ways
      have KEEP : Hid (keepAt s k = true → dedTo s (k + 1) = dedTo s k ++ [x]) := fun h => by rw [hst, h]; rfl
      have SKIP : Hid (keepAt s k = false → dedTo s (k + 1) = dedTo s k) := fun h => by rw [hst, h]; simp
      have hka : keepAt s k = (k == 0 || s.getD (k - 1) 0 != x) := by unfold keepAt; rw [hgd]
      have HKA := Lib.hid hka
      clear hst hgd hka
      by_cases hk0 : k = 0
      · have e0 : ((k : Int) == 0) = true := by simp [hk0]
        have HN := Lib.hid (KEEP.out (by rw [HKA.out, hk0]; rfl))
        have hk1 : (0 : Int) ≤ (k : Int) := by omega
        have hk2 : (k : Int) < (n : Int) := by omega
        clear KEEP SKIP HKA hk0
        go_wp2_with (at_builtin; go_must (refine app_I _ rfl _ _ rfl w2.heap.size _ _ _ _ rfl (HO.out.alloc _) _ _ _ [x] rfl (rd_newI _ _ _) rfl (by omega) (by simp; omega) ?_); intro D2 cp2 w8 ho8 hg8 hat8; have HO8 := Lib.hid ho8; have HG8 := Lib.hid hg8; clear ho8 hg8 hat8)
        exact ⟨⟨k + 1, q + 1, cp2, D2, by omega, by omega, rfl, by go_num, by rw [HN.out]; exact HO8.out, bel_app (bel_alloc hb _) HG8.out (fun g' hg1 => ((own_lt HO.out) g' hg1).1)⟩, by simp [intOf]; omega⟩
      · obtain ⟨j, hjk⟩ : ∃ j, k = j + 1 := ⟨k - 1, by omega⟩
        have hjs : j < s.length := by omega
        obtain ⟨g', off', he, _, d1⟩ := RdI.at_ hrw hjs
        simp only [Option.some.injEq, Addr.mk.injEq, and_true] at he
        obtain ⟨rfl, rfl⟩ := he
        have hgj : s.getD (k - 1) 0 = s[j] := by rw [hjk, Nat.add_sub_cancel, List.getD_eq_getElem?_getD, List.getElem?_eq_getElem hjs]; rfl
        obtain ⟨y, hy⟩ : ∃ y, s[j] = y := ⟨_, rfl⟩
        rw [hy] at d1 hgj
        have e0 : ((k : Int) == 0) = false := by simp; omega
        have hj1 : (k : Int) - 1 = (j : Int) := by omega
        have hj0 : (0 : Int) ≤ (j : Int) := by omega
        have hjm : (j : Int) < (n : Int) := by omega
        have hk1 : (0 : Int) ≤ (k : Int) := by omega
        have hk2 : (k : Int) < (n : Int) := by omega
        have hkk : (k == 0) = false := by simpa using hk0
        have HKK := Lib.hid hkk
        have HGJ := Lib.hid hgj
        clear hy hgj hjk hkk hk0
        by_cases hyx : y = x
        · have HN := Lib.hid (SKIP.out (by rw [HKA.out, HKK.out, HGJ.out, hyx]; simp))
          have e1 : (y != x) = false := by simp [hyx]
          clear KEEP SKIP HKA hyx
          go_wp2_with fail
          exact ⟨⟨k + 1, q, cp, D, by omega, by omega, rfl, by go_num, by rw [HN.out]; exact HO.out, hb⟩, by simp [intOf]; omega⟩
        · have HN := Lib.hid (KEEP.out (by rw [HKA.out, HKK.out, HGJ.out]; simpa using hyx))
          have e1 : (y != x) = true := by simpa using hyx
          clear KEEP SKIP HKA hyx
          go_wp2_with (at_builtin; go_must (refine app_I _ rfl _ _ rfl w2.heap.size _ _ _ _ rfl (HO.out.alloc _) _ _ _ [x] rfl (rd_newI _ _ _) rfl (by omega) (by simp; omega) ?_); intro D2 cp2 w8 ho8 hg8 hat8; have HO8 := Lib.hid ho8; have HG8 := Lib.hid hg8; clear ho8 hg8 hat8)
          exact ⟨⟨k + 1, q + 1, cp2, D2, by omega, by omega, rfl, by go_num, by rw [HN.out]; exact HO8.out, bel_app (bel_alloc hb _) HG8.out (fun g' hg1 => ((own_lt HO.out) g' hg1).1)⟩, by simp [intOf]; omega⟩
    · have hkn : k = n := by omega
      subst hkn
      rw [← HV.out] at hown
      have HO := Lib.hid (own_base hown hb2.size)
      clear hown
      go_wp2
      go_ret
      exact ⟨_, _, _, rfl, HO.out, (by (repeat (first | with_reducible exact Below.refl _ _ | with_reducible assumption | with_reducible apply bel_alloc | with_reducible apply bel_drew | with_reducible apply bel_drewN | ((with_reducible refine bel_set ?_ ?_); rotate_left; (simp <;> omega)) | (with_reducible refine bel_trans ?_ (by with_reducible assumption)))))⟩
end Go.Proofs.YtoedmmhiinhljaaGreatDoor

/- The placements of a shape, of all pieces, in a region: the program. -/
namespace Go.Proofs.YtoedmmhiinhljaaGreatDoor
open Go.RowKit
set_option linter.unusedVariables false
attribute [local go_sem ↓] Go.wp_at_zero Go.wp_at_succ

theorem mv_small {t : List C} (h : ∀ c ∈ t, (0 ≤ c.1 ∧ c.1 ≤ 14) ∧ (0 ≤ c.2 ∧ c.2 ≤ 14)) {x y : Nat} (hx : x ≤ 6) (hy : y ≤ 6) : ∀ d ∈ mv t (x : Int) (y : Int), small d := by
  intro d hd
  rw [mv_mem] at hd
  have := h _ hd
  simp only at this
  unfold small
  omega
set_option maxRecDepth 100000 in
set_option maxHeartbeats 6400000 in
theorem placements_i (W : Int) (A B : Option Addr) (n c k cb : Nat) (rows : List Int) (xs : List C) (w : World) (hr : Rd w A (vI rows)) (hl : rows.length = n) (hv : isReg W rows = true) (hrx : Rd w B (vC xs)) (hlx : xs.length = k) (hs : isShape xs = true) :
    Calls Tryz.prog 52 #[.agg #[.int .i64 W, .slice A n c], .slice B k cb] w (RetS w 3 1 (vI (plV W rows xs))) := by
  have hv0 := hv
  have hPV : plV W rows xs = ord (rawTo W rows (orV xs) (orV xs).length) := by unfold plV; rw [if_pos hv, ord_eq]; rfl
  obtain ⟨m, rfl, hm1, hm6, hn1, hn6, hrow⟩ := isReg_yes hv
  have h36 : m * rows.length ≤ 6 * 6 := Nat.mul_le_mul hm6 hn6
  have hmt : ((m : Int)).toNat = m := Int.toNat_natCast _
  have hfine := orV_fine (s := xs)
  have hol := orV_len xs
  have HLX := Lib.hid hlx
  have HSX := Lib.hid hs
  obtain ⟨F, hF⟩ : ∃ F, orV xs = F := ⟨_, rfl⟩
  rw [hF] at hPV hfine hol
  have HF := Lib.hid hF
  have HPV := Lib.hid hPV
  have HFI := Lib.hid hfine
  have HL := Lib.hid hl
  have HV := Lib.hid hv0
  have HR := Lib.hid (hr.alloc (.cells #[.int .i64 (m : Int), .slice A n c] 29))
  have HRX := Lib.hid (hrx.alloc (.cells #[.int .i64 (m : Int), .slice A n c] 29))
  have H36 : Hid (m * rows.length ≤ 36) := h36
  have HMT := Lib.hid hmt
  rw [hl] at hn1 hn6
  clear hl hr hrow hv hv0 hrx hlx hs h36 hmt hPV hfine hF
  go_enter Tryz.func52, Tryz.ntmps52
  go_wp2_with fail
  refine (OrientationsOf_i B k cb xs _ HRX.out HLX.out HSX.out).mono ?_
  rw [HF.out]
  rintro e w1 ⟨A0, q0, c0, hs, rfl, hO0, hb1⟩
  have HB1 := Lib.hid ((Blk.new w 29 #[.int .i64 (m : Int), .slice A n c]).below hb1)
  have HR1 := Lib.hid (HR.out.below hb1)
  have hbw1 : Below w.heap.size w w1 := bel_trans (bel_alloc (Below.refl _ _) _) hb1
  have HRF := Lib.hid hO0.rd
  have HFL := Lib.hid hO0.flen
  have hq8 : q0 ≤ 8 := by have := hO0.flen; omega
  clear hb1 hO0
  go_wp2_with fail
  go_loopw [15, 5] (fun e15 e5 wr => ∃ (i q cq : Nat) (D : Option Addr), i ≤ q0 ∧ e15 = .int .i64 i ∧ e5 = .slice D q cq ∧ wr.ownsRow w1.heap.size 3 1 (.slice D q cq) q (vI (rawTo (m : Int) rows F i)) ∧ Below w1.heap.size w1 wr) (fun e15 _ _ => q0 - (intOf e15).toNat)
  case atStart => exact ⟨0, 0, 0, none, Nat.zero_le _, rfl, rfl, own_nil _ _ _ _, Below.refl _ _⟩
  case round =>
    obtain ⟨i, q, cq, D, hi, rfl, rfl, hO, hb⟩ := hrel
    have hB := HB1.out.below hb
    have b0 : wr.cell? ⟨w.heap.size, 0, none⟩ = some (.int .i64 (m : Int)) := by simpa using hB.cell 0
    have b1 : wr.cell? ⟨w.heap.size, 1, none⟩ = some (.slice A n c) := by simpa using hB.cell 1
    have hgw := hB.lt
    clear hB
    by_cases hlt : i < q0
    · have hi0 : (0 : Int) ≤ (i : Int) := by omega
      have hi1 : (i : Int) < (q0 : Int) := by omega
      obtain ⟨x, t, gA, off, hsx, hfx, hAe, hg, d1, hrow⟩ := (HRF.out.below hb).at_ hlt
      have hft := HFI.out t (List.mem_of_getElem? hfx)
      have hstep : rawTo (m : Int) rows F (i + 1) = rawTo (m : Int) rows F i ++ rowY (m : Int) rows t n := by
        show _ ++ rowY _ _ (F.getD i []) rows.length = _
        rw [List.getD_eq_getElem?_getD, hfx, Option.getD_some, HL.out]
      have hol2 := (rawTo_msk H36.out F i).2
      obtain ⟨C1, m1, k1⟩ := x
      have hl1 : t.length = m1 := hrow.1
      obtain ⟨O, hOe⟩ : ∃ O, rawTo (m : Int) rows F i = O := ⟨_, rfl⟩
      rw [hOe] at hstep hO hol2
      have hrt : Rd w1 C1 (vC t) := (HRF.out.row i _ _ hsx hfx).2.1
      have HRT := Lib.hid hrt
      have HL1 := Lib.hid hl1
      have HFT := Lib.hid hft
      have HST := Lib.hid hstep
      have HO := Lib.hid hO
      have hOl : O.length ≤ 288 := by omega
      dsimp only at d1
      subst hAe
      clear hsx hfx hrow hstep hO hl1 hft hOe hrt hol2
      go_wp2_with fail
      go_loopw [22, 5] (fun e22 e5 wr => ∃ (y q cq : Nat) (D : Option Addr), y ≤ n ∧ e22 = .int .i64 y ∧ e5 = .slice D q cq ∧ wr.ownsRow w1.heap.size 3 1 (.slice D q cq) q (vI (O ++ rowY (m : Int) rows t y)) ∧ Below w1.heap.size w1 wr) (fun e22 _ _ => n - (intOf e22).toNat)
      case atStart => exact ⟨0, q, cq, D, Nat.zero_le _, rfl, rfl, by simpa [rowY] using HO.out, hb⟩
      case round =>
        clear HO hb b0 b1 hgw d1 hg
        obtain ⟨y, q, cq, D, hy, rfl, rfl, hO, hb⟩ := hrel
        have hB := HB1.out.below hb
        have b0 : wr.cell? ⟨w.heap.size, 0, none⟩ = some (.int .i64 (m : Int)) := by simpa using hB.cell 0
        have b1 : wr.cell? ⟨w.heap.size, 1, none⟩ = some (.slice A n c) := by simpa using hB.cell 1
        have hgw := hB.lt
        clear hB
        by_cases hly : y < n
        · have hy0 : (0 : Int) ≤ (y : Int) := by omega
          have hy1 : (y : Int) < (n : Int) := by omega
          have hstY : rowY (m : Int) rows t (y + 1) = rowY (m : Int) rows t y ++ rowX (m : Int) rows t y m := by show _ ++ rowX _ _ _ _ _ = _; rw [HMT.out]
          have hyl := (rowY_msk H36.out t y).2
          obtain ⟨O2, hO2⟩ : ∃ O2, O ++ rowY (m : Int) rows t y = O2 := ⟨_, rfl⟩
          have hstY2 : O ++ rowY (m : Int) rows t (y + 1) = O2 ++ rowX (m : Int) rows t y m := by rw [hstY, ← List.append_assoc, hO2]
          have hO2l : O2.length ≤ 400 := by
            rw [← hO2, List.length_append]
            have : y * m ≤ 6 * 6 := Nat.mul_le_mul (by omega) hm6
            omega
          rw [hO2] at hO
          have HST2 := Lib.hid hstY2
          have HO := Lib.hid hO
          clear hstY hyl hO2 hstY2 hO
          go_wp2_with fail
          go_loopw [27, 5] (fun e27 e5 wr => ∃ (x q cq : Nat) (D : Option Addr), x ≤ m ∧ e27 = .int .i64 x ∧ e5 = .slice D q cq ∧ wr.ownsRow w1.heap.size 3 1 (.slice D q cq) q (vI (O2 ++ rowX (m : Int) rows t y x)) ∧ Below w1.heap.size w1 wr) (fun e27 _ _ => m - (intOf e27).toNat)
          case atStart => exact ⟨0, q, cq, D, Nat.zero_le _, rfl, rfl, by simpa [rowX] using HO.out, hb⟩
          case round =>
            clear HO hb b0 b1 hgw
            obtain ⟨x, q, cq, D, hx, rfl, rfl, hO, hb⟩ := hrel
            have hB := HB1.out.below hb
            have b0 : wr.cell? ⟨w.heap.size, 0, none⟩ = some (.int .i64 (m : Int)) := by simpa using hB.cell 0
            have b1 : wr.cell? ⟨w.heap.size, 1, none⟩ = some (.slice A n c) := by simpa using hB.cell 1
            have hgw := hB.lt
            clear hB
            have hql : (O2 ++ rowX (m : Int) rows t y x).length = q := by have := own_len hO; rw [vI_length] at this; omega
            have hxl := (rowX_msk H36.out t y x).2
            rw [List.length_append] at hql
            have hq500 : q ≤ 500 := by omega
            by_cases hlx : x < m
            · have hx0 : (0 : Int) ≤ (x : Int) := by omega
              have hx1 : (x : Int) < (m : Int) := by omega
              obtain ⟨r, hmc⟩ : ∃ r, mcV (m : Int) rows (mv t (x : Int) (y : Int)) 0 = r := ⟨_, rfl⟩
              have hstX : O2 ++ rowX (m : Int) rows t y (x + 1) = (O2 ++ rowX (m : Int) rows t y x) ++ optL r := by
                show O2 ++ (_ ++ plAt _ _ _ _ _) = _
                unfold plAt
                rw [hmc, List.append_assoc]
              obtain ⟨O3, hO3⟩ : ∃ O3, O2 ++ rowX (m : Int) rows t y x = O3 := ⟨_, rfl⟩
              rw [hO3] at hstX hO
              have HST3 := Lib.hid hstX
              have HO := Lib.hid hO
              have HMC := Lib.hid hmc
              have HSM : Hid (∀ d ∈ t, small d) := fun d hd => by have := HFT.out.2 d hd; unfold small; omega
              have HSV : Hid (∀ d ∈ mv t (x : Int) (y : Int), small d) := mv_small HFT.out.2 (by omega) (by omega)
              have hm8 : m1 ≤ 8 := by have := HFT.out.1.2; have := HL1.out; omega
              clear hstX hO hmc hO3 hql hxl
              go_wp2_with fail
              refine wp_region_rg 11 rfl (by kernel_rfl) ?_
              (refine rgT (i := 0) (v := ?_) rfl rfl (by kernel_rfl) (by kernel_rfl) (by kernel_rfl) (by rfl) (fun w' hcw => ?_) ?_; rotate_left; ((try dsimp only at hcw); have hbc := hcw.cells; go_simp; first | done | with_reducible rfl); simp only [List.setIfInBounds_toArray, List.set_cons_zero, List.set_cons_succ])
              (refine rgT (i := 1) (v := ?_) rfl rfl (by kernel_rfl) (by kernel_rfl) (by kernel_rfl) (by rfl) (fun w' hcw => ?_) ?_; rotate_left; ((try dsimp only at hcw); have hbc := hcw.cells; go_simp; first | done | with_reducible rfl); simp only [List.setIfInBounds_toArray, List.set_cons_zero, List.set_cons_succ])
              (refine rgT (i := 2) (v := ?_) rfl rfl (by kernel_rfl) (by kernel_rfl) (by kernel_rfl) (by rfl) (fun w' hcw => ?_) ?_; rotate_left; ((try dsimp only at hcw); have hbc := hcw.cells; go_simp; first | done | with_reducible rfl); simp only [List.setIfInBounds_toArray, List.set_cons_zero, List.set_cons_succ])
              (refine rgT (i := 3) (v := ?_) rfl rfl (by kernel_rfl) (by kernel_rfl) (by kernel_rfl) (by rfl) (fun w' hcw => ?_) ?_; rotate_left; ((try dsimp only at hcw); have hbc := hcw.cells; go_simp; first | done | with_reducible rfl); simp only [List.setIfInBounds_toArray, List.set_cons_zero, List.set_cons_succ])
              refine rgK_one (i := 4) (by kernel_rfl) rfl rfl (fun u1 hc1 he1 K hK => ?_)
              go_simp
              refine (moved_i C1 m1 k1 t (x : Int) (y : Int) _ ((HRT.out.below hb).below hc1) HL1.out (by omega) HSM.out (by omega) (by omega)).mono ?_
              rintro e u2 ⟨E, q2, cE, rfl, hoM, hbM⟩
              have hq2 : (mv t (x : Int) (y : Int)).length = q2 := by have := own_len hoM; rw [vC_length] at this; omega
              have hc2 : Below wr.heap.size wr u2 := bel_trans hc1 hbM
              refine hK _ _ hc2 ?_
              clear hK K
              have HRM := Lib.hid (Rd.of_own hoM)
              have HQ2 := Lib.hid hq2
              have hq28 : q2 ≤ 8 := by rw [mv_len] at hq2; have := HL1.out; omega
              clear hoM hq2
              refine rgK_one (i := 5) (by kernel_rfl) rfl rfl (fun u3 hc3 he3 K hK => ?_)
              go_simp
              refine (MaskOfCells_i (m : Int) A E n c q2 cE rows (mv t (x : Int) (y : Int)) _ ((HR1.out.below hb).below hc3) HL.out HV.out (HRM.out.below he3) HQ2.out (by omega) HSV.out).mono ?_
              rw [HMC.out]
              rintro e u4 ⟨rfl, hb4⟩
              have hc4 : Below wr.heap.size wr u4 := bel_trans hc3 hb4
              refine hK _ _ hc4 ?_
              clear hK K
              cases r with
              | none =>
                simp only [mcR]
                (refine rgT (i := 6) (v := ?_) rfl rfl (by kernel_rfl) (by kernel_rfl) (by kernel_rfl) (by rfl) (fun w' hcw => ?_) ?_; rotate_left; ((try dsimp only at hcw); have hbc := hcw.cells; go_simp; first | done | with_reducible rfl); simp only [List.setIfInBounds_toArray, List.set_cons_zero, List.set_cons_succ])
                (refine rgT (i := 7) (v := ?_) rfl rfl (by kernel_rfl) (by kernel_rfl) (by kernel_rfl) (by rfl) (fun w' hcw => ?_) ?_; rotate_left; ((try dsimp only at hcw); have hbc := hcw.cells; go_simp; first | done | with_reducible rfl); simp only [List.setIfInBounds_toArray, List.set_cons_zero, List.set_cons_succ])
                (refine rgT (i := 8) (v := ?_) rfl rfl (by kernel_rfl) (by kernel_rfl) (by kernel_rfl) (by rfl) (fun w' hcw => ?_) ?_; rotate_left; ((try dsimp only at hcw); have hbc := hcw.cells; go_simp; first | done | with_reducible rfl); simp only [List.setIfInBounds_toArray, List.set_cons_zero, List.set_cons_succ])
                (refine rgT (i := 9) (v := ?_) rfl rfl (by kernel_rfl) (by kernel_rfl) (by kernel_rfl) (by rfl) (fun w' hcw => ?_) ?_; rotate_left; ((try dsimp only at hcw); have hbc := hcw.cells; go_simp; first | done | with_reducible rfl); simp only [List.setIfInBounds_toArray, List.set_cons_zero, List.set_cons_succ])
                (refine rgT (i := 10) (v := ?_) rfl rfl (by kernel_rfl) (by kernel_rfl) (by kernel_rfl) (by rfl) (fun w' hcw => ?_) ?_; rotate_left; ((try dsimp only at hcw); have hbc := hcw.cells; go_simp; first | done | with_reducible rfl); simp only [List.setIfInBounds_toArray, List.set_cons_zero, List.set_cons_succ])
                refine ⟨by kernel_rfl, fun wz hcz hez => NoPanic.normal ?_⟩
                go_wp2_with fail
                exact ⟨⟨x + 1, q, cq, D, by omega, by go_num, rfl, by rw [HST3.out]; simpa [optL] using own_keep HO.out hcz, bel_trans hb hcz⟩, by simp [intOf]; omega⟩
              | some v =>
                simp only [mcR]
                (refine rgT (i := 6) (v := ?_) rfl rfl (by kernel_rfl) (by kernel_rfl) (by kernel_rfl) (by rfl) (fun w' hcw => ?_) ?_; rotate_left; ((try dsimp only at hcw); have hbc := hcw.cells; go_simp; first | done | with_reducible rfl); simp only [List.setIfInBounds_toArray, List.set_cons_zero, List.set_cons_succ])
                (refine rgT (i := 7) (v := ?_) rfl rfl (by kernel_rfl) (by kernel_rfl) (by kernel_rfl) (by rfl) (fun w' hcw => ?_) ?_; rotate_left; ((try dsimp only at hcw); have hbc := hcw.cells; go_simp; first | done | with_reducible rfl); simp only [List.setIfInBounds_toArray, List.set_cons_zero, List.set_cons_succ])
                (refine rgT (i := 8) (v := ?_) rfl rfl (by kernel_rfl) (by kernel_rfl) (by kernel_rfl) (by rfl) (fun w' hcw => ?_) ?_; rotate_left; ((try dsimp only at hcw); have hbc := hcw.cells; go_simp; first | done | with_reducible rfl); simp only [List.setIfInBounds_toArray, List.set_cons_zero, List.set_cons_succ])
                (refine rgT (i := 9) (v := ?_) rfl rfl (by kernel_rfl) (by kernel_rfl) (by kernel_rfl) (by rfl) (fun w' hcw => ?_) ?_; rotate_left; ((try dsimp only at hcw); have hbc := hcw.cells; go_simp; first | done | with_reducible rfl); simp only [List.setIfInBounds_toArray, List.set_cons_zero, List.set_cons_succ])
                (refine rgT (i := 10) (v := ?_) rfl rfl (by kernel_rfl) (by kernel_rfl) (by kernel_rfl) (by rfl) (fun w' hcw => ?_) ?_; rotate_left; ((try dsimp only at hcw); have hbc := hcw.cells; go_simp; first | done | with_reducible rfl); simp only [List.setIfInBounds_toArray, List.set_cons_zero, List.set_cons_succ])
                refine ⟨by kernel_rfl, fun wz hcz hez => NoPanic.normal ?_⟩
                have HOZ := Lib.hid (own_keep HO.out hcz)
                have hbz := bel_trans hb hcz
                have hzz := hbz.size
                clear hcz hez hc4 hb4 hc3 he3 hc2 hbM hc1 he1 b0 b1 hgw
                go_wp2_with (at_builtin; go_must (refine app_I _ rfl _ _ rfl w1.heap.size _ _ _ _ rfl (HOZ.out.alloc _) _ _ _ [(v : Int)] rfl (rd_newI _ _ _) rfl (by omega) (by simp; omega) ?_); intro D2 cp2 w8 ho8 hg8 hat8; have HO8 := Lib.hid ho8; have HG8 := Lib.hid hg8; clear ho8 hg8 hat8)
                exact ⟨⟨x + 1, q + 1, cp2, D2, by omega, by go_num, rfl, by rw [HST3.out]; exact HO8.out, bel_app (bel_alloc hbz _) HG8.out (fun g' hg1 => ((own_lt HOZ.out) g' hg1).1)⟩, by simp [intOf]; omega⟩
            · obtain rfl : x = m := by omega
              rw [← HST2.out] at hO
              have HO := Lib.hid hO
              have hx1 : ¬ (x : Int) < (x : Int) := by omega
              clear hO hql hxl
              go_wp2_with fail
              exact ⟨⟨y + 1, q, cq, D, by omega, by go_num, rfl, HO.out, hb⟩, by simp [intOf]; omega⟩
        · obtain rfl : y = n := by omega
          rw [← HST.out] at hO
          have HO := Lib.hid hO
          have hy1 : ¬ (y : Int) < (y : Int) := by omega
          clear hO
          go_wp2_with fail
          exact ⟨⟨i + 1, q, cq, D, by omega, by go_num, rfl, HO.out, hb⟩, by simp [intOf]; omega⟩
    · obtain rfl : i = q0 := by omega
      have hql : (rawTo (m : Int) rows F i).length = q := by have := own_len hO; rw [vI_length] at this; omega
      have hol2 := (rawTo_msk H36.out F i).2
      have HN : Hid (plV (m : Int) rows xs = ord (rawTo (m : Int) rows F i)) := by show _ = _; rw [HPV.out, HFL.out]
      have HO := Lib.hid hO
      have HQL := Lib.hid hql
      have hq3 : q ≤ 288 := by omega
      have hi1 : ¬ (i : Int) < (i : Int) := by omega
      clear hO hql hol2
      go_wp2_with fail
      refine (ordered_i D q cq (rawTo (m : Int) rows F i) _ (Rd.of_own HO.out) HQL.out (by omega)).mono ?_
      rw [← HN.out]
      rintro e w2 ⟨E, q2, c2, rfl, hO2, hb2⟩
      have HO2 := Lib.hid hO2
      have hb02 := bel_trans hbw1 hb
      have hbz := hb02.size
      clear hO2
      go_wp2_with fail
      go_ret
      exact ⟨E, q2, c2, rfl, own_base HO2.out hbz, bel_trans hb02 hb2⟩
theorem pcs_at {P : List (List C)} (h : pcs P = true) : P.length ≤ 5 ∧ ∀ f ∈ P, isShape f = true := by
  refine ⟨(pcs_small h).1, ?_⟩
  unfold pcs at h
  simp only [Bool.and_eq_true, List.all_eq_true] at h
  exact h.1
theorem isProblem_i (W : Int) (A B : Option Addr) (n c q cb : Nat) (rows : List Int) (hs : List H) (P : List (List C)) (w : World) (hr : Rd w A (vI rows)) (hl : rows.length = n) (hp : RdP w B q hs P) (hq : q ≤ 1048576) (hm : totC P ≤ 1048576) :
    Calls Tryz.prog 26 #[.agg #[.int .i64 W, .slice A n c], .slice B q cb] w (Ret w (.bool (isReg W rows && pcs P))) := by
  have HL := Lib.hid hl
  have HR := Lib.hid (hr.alloc (.cells #[.int .i64 W, .slice A n c] 29))
  have HP := Lib.hid (hp.alloc (.cells #[.int .i64 W, .slice A n c] 29))
  have HM := Lib.hid hm
  clear hl hr hp hm
  cases hv : isReg W rows with
  | false =>
    have HV := Lib.hid hv
    clear hv
    go_enter Tryz.func26, Tryz.ntmps26
    go_wp2_with fail
    refine (IsRegion_i _ _ _ _ rows _ HR.out HL.out).mono ?_
    rw [HV.out]
    rintro e w1 ⟨rfl, hb1⟩
    go_wp2_with fail
    go_ret
    exact ⟨rfl, (by (repeat (first | with_reducible exact Below.refl _ _ | with_reducible assumption | with_reducible apply bel_alloc | with_reducible apply bel_drew | with_reducible apply bel_drewN | ((with_reducible refine bel_set ?_ ?_); rotate_left; (simp <;> omega)) | (with_reducible refine bel_trans ?_ (by with_reducible assumption)))))⟩
  | true =>
    have HV := Lib.hid hv
    clear hv
    go_enter Tryz.func26, Tryz.ntmps26
    go_wp2_with fail
    refine (IsRegion_i _ _ _ _ rows _ HR.out HL.out).mono ?_
    rw [HV.out]
    rintro e w1 ⟨rfl, hb1⟩
    go_wp2_with fail
    refine (ArePieces_i B q cb hs P _ (HP.out.below hb1) hq HM.out).mono ?_
    rintro e w2 ⟨rfl, hb2⟩
    go_wp2_with fail
    go_ret
    exact ⟨by simp, (by (repeat (first | with_reducible exact Below.refl _ _ | with_reducible assumption | with_reducible apply bel_alloc | with_reducible apply bel_drew | with_reducible apply bel_drewN | ((with_reducible refine bel_set ?_ ?_); rotate_left; (simp <;> omega)) | (with_reducible refine bel_trans ?_ (by with_reducible assumption)))))⟩
set_option maxHeartbeats 1600000 in
theorem all_i (W : Int) (A B : Option Addr) (n c q cb : Nat) (rows : List Int) (hs : List H) (P : List (List C)) (w : World) (hr : Rd w A (vI rows)) (hl : rows.length = n) (hv : isReg W rows = true) (hp : RdP w B q hs P) (hpc : pcs P = true) :
    Calls Tryz.prog 31 #[.agg #[.int .i64 W, .slice A n c], .slice B q cb] w (RetS w 3 1 (vI (allV W rows P))) := by
  obtain ⟨hq5, hsh⟩ := pcs_at hpc
  rw [hp.flen] at hq5
  have hN : allV W rows P = ord (catTo W rows P q) := by unfold allV; rw [ord_eq, hp.flen]
  have HN := Lib.hid hN
  have HSH := Lib.hid hsh
  have HL := Lib.hid hl
  have HV := Lib.hid hv
  have HR := Lib.hid (hr.alloc (.cells #[.int .i64 W, .slice A n c] 29))
  have HP := Lib.hid (hp.alloc (.cells #[.int .i64 W, .slice A n c] 29))
  have HB1 := Lib.hid (Blk.new w 29 #[.int .i64 W, .slice A n c])
  have hbw1 : Below w.heap.size w (w.alloc (.cells #[.int .i64 W, .slice A n c] 29)) := bel_alloc (Below.refl _ _) _
  clear hl hr hv hp hN hsh hpc
  go_enter Tryz.func31, Tryz.ntmps31
  go_wp2_with fail
  obtain ⟨w1, hw1⟩ : ∃ w1, w.alloc (.cells #[.int .i64 W, .slice A n c] 29) = w1 := ⟨_, rfl⟩
  rw [hw1] at HR HP HB1 hbw1 ⊢
  clear hw1
  go_loopw [10, 5] (fun e10 e5 wr => ∃ (i k cq : Nat) (D : Option Addr), i ≤ q ∧ e10 = .int .i64 i ∧ e5 = .slice D k cq ∧ wr.ownsRow w1.heap.size 3 1 (.slice D k cq) k (vI (catTo W rows P i)) ∧ Below w1.heap.size w1 wr) (fun e10 _ _ => q - (intOf e10).toNat)
  case atStart => exact ⟨0, 0, 0, none, Nat.zero_le _, rfl, rfl, own_nil _ _ _ _, Below.refl _ _⟩
  case round =>
    obtain ⟨i, k, cq, D, hi, rfl, rfl, hO, hb⟩ := hrel
    have hkl : (catTo W rows P i).length = k := by have := own_len hO; rw [vI_length] at this; omega
    have hcl := (catTo_msk W rows P i).2
    have hB := HB1.out.below hb
    have b0 : wr.cell? ⟨w.heap.size, 0, none⟩ = some (.int .i64 W) := by simpa using hB.cell 0
    have b1 : wr.cell? ⟨w.heap.size, 1, none⟩ = some (.slice A n c) := by simpa using hB.cell 1
    have hgw := hB.lt
    have hk : k ≤ 1440 := by omega
    have HKL := Lib.hid hkl
    clear hB hkl hcl
    by_cases hlt : i < q
    · have hi0 : (0 : Int) ≤ (i : Int) := by omega
      have hi1 : (i : Int) < (q : Int) := by omega
      obtain ⟨x, f, g, off, _, hfx, hBe, hg, d1, l1, r1⟩ := (HP.out.below hb).at_ hlt
      have hfs := HSH.out f (List.mem_of_getElem? hfx)
      have hst : catTo W rows P (i + 1) = catTo W rows P i ++ plV W rows f := by
        show _ ++ plV W rows (P.getD i []) = _
        rw [List.getD_eq_getElem?_getD, hfx, Option.getD_some]
      obtain ⟨C1, m1, k1⟩ := x
      have HFS := Lib.hid hfs
      have HR1 := Lib.hid r1
      have HL1 := Lib.hid l1
      have HST := Lib.hid hst
      have HO := Lib.hid hO
      have hpl := plV_len W rows f
      dsimp only at d1
      subst hBe
      clear hfx hst hO r1 l1 hfs
      go_wp2_with fail
      refine (placements_i W A C1 n c m1 k1 rows f _ (HR.out.below hb) HL.out HV.out HR1.out HL1.out HFS.out).mono ?_
      rintro e w2 ⟨E, q2, c2, rfl, hO2, hb2⟩
      have hq2 : (plV W rows f).length = q2 := by have := own_len hO2; rw [vI_length] at this; omega
      have HQ2 := Lib.hid hq2
      have HR2 := Lib.hid (Rd.of_own hO2)
      have HOK := Lib.hid (own_keep HO.out hb2)
      have hb02 := bel_trans hb hb2
      have hbz := hb02.size
      have hq3 : q2 ≤ 288 := by omega
      clear hO2 hq2 hpl d1 b0 b1 hgw
      go_wp2_with (at_builtin; go_must (refine app_I _ rfl _ _ rfl w1.heap.size _ _ _ _ rfl HOK.out _ _ _ (plV W rows f) rfl HR2.out HQ2.out (by omega) (by omega) ?_); intro D2 cp2 w8 ho8 hg8 hat8; have HO8 := Lib.hid ho8; have HG8 := Lib.hid hg8; clear ho8 hg8 hat8)
      exact ⟨⟨i + 1, k + q2, cp2, D2, by omega, by go_num, rfl, by rw [HST.out]; exact HO8.out, bel_app hb02 HG8.out (fun g' hg1 => ((own_lt HOK.out) g' hg1).1)⟩, by simp [intOf]; omega⟩
    · obtain rfl : i = q := by omega
      have HO := Lib.hid hO
      have hi1 : ¬ (i : Int) < (i : Int) := by omega
      clear hO
      go_wp2_with fail
      refine (ordered_i D k cq (catTo W rows P i) _ (Rd.of_own HO.out) HKL.out (by omega)).mono ?_
      rw [← HN.out]
      rintro e w2 ⟨E, q2, c2, rfl, hO2, hb2⟩
      have HO2 := Lib.hid hO2
      have hb02 := bel_trans hbw1 hb
      have hbz := hb02.size
      clear hO2
      go_wp2_with fail
      go_ret
      exact ⟨E, q2, c2, rfl, own_base HO2.out hbz, bel_trans hb02 hb2⟩
end Go.Proofs.YtoedmmhiinhljaaGreatDoor

/- Tilings that a motion keeps, and orbits: the program. -/
namespace Go.Proofs.YtoedmmhiinhljaaGreatDoor
open Go.RowKit
set_option linter.unusedVariables false
attribute [local go_sem ↓] Go.wp_at_zero Go.wp_at_succ

set_option maxRecDepth 100000 in
set_option maxHeartbeats 1600000 in
theorem sameInts_i (A B : Option Addr) (n c m d : Nat) (xs ys : List Int) (w : World) (hr : Rd w A (vI xs)) (hl : xs.length = n) (hr2 : Rd w B (vI ys)) (hl2 : ys.length = m) (hn : n ≤ 1099511627776) :
    Calls Tryz.prog 48 #[.slice A n c, .slice B m d] w (Ret w (.bool (decide (xs = ys)))) := by
  by_cases hnm : n = m
  · subst hnm
    have HR := Lib.hid hr
    have HL := Lib.hid hl
    have HR2 := Lib.hid hr2
    have HL2 := Lib.hid hl2
    have hne0 : ((n : Int) != (n : Int)) = false := by simp
    clear hr hl hr2 hl2
    go_enter Tryz.func48, Tryz.ntmps48
    go_wp2_with fail
    go_loopw [13] (fun e13 wr => ∃ k : Nat, k ≤ n ∧ e13 = .int .i64 k ∧ (∀ j, j < k → xs.getD j 0 = ys.getD j 0) ∧ Below w.heap.size w wr) (fun e13 _ => n - (intOf e13).toNat)
    case atStart => exact ⟨0, Nat.zero_le _, rfl, (fun j h => by omega), Below.refl _ _⟩
    case round =>
      obtain ⟨k, hk1, rfl, hsame, hb⟩ := hrel
      have HSM := Lib.hid hsame
      have HB := Lib.hid hb
      clear hsame hb
      by_cases h1 : k < n
      · have hi0 : (0 : Int) ≤ (k : Int) := by omega
        have hi1 : (k : Int) < (n : Int) := by omega
        have k1 : k < xs.length := by rw [HL.out]; exact h1
        have k2 : k < ys.length := by rw [HL2.out]; exact h1
        obtain ⟨g1, o1, hA, gl1, d1⟩ := RdI.at_ (HR.out.below HB.out) k1
        obtain ⟨g2, o2, hB, gl2, d2⟩ := RdI.at_ (HR2.out.below HB.out) k2
        have e1 : xs.getD k 0 = xs[k] := by rw [List.getD_eq_getElem?_getD, List.getElem?_eq_getElem k1]; rfl
        have e2 : ys.getD k 0 = ys[k] := by rw [List.getD_eq_getElem?_getD, List.getElem?_eq_getElem k2]; rfl
        obtain ⟨x, hx⟩ : ∃ x, xs[k] = x := ⟨_, rfl⟩
        obtain ⟨y, hy⟩ : ∃ y, ys[k] = y := ⟨_, rfl⟩
        rw [hx] at d1 e1
        rw [hy] at d2 e2
        subst hA
        subst hB
        by_cases hxy : x = y
        · have HS2 : Hid (∀ j, j < k + 1 → xs.getD j 0 = ys.getD j 0) := fun j hj => by
            by_cases hjk : j = k
            · rw [hjk, e1, e2, hxy]
            · exact HSM.out j (by omega)
          have hne : (x != y) = false := by simp [hxy]
          clear hx hy e1 e2 k1 k2 hxy
          go_wp2_with fail
          (refine wp_region_below (by kernel_rfl) (by kernel_rfl) ?_; (repeat (first | go_big_quiet_skip | (refine quietV (v := ?_) (by rfl) rfl (fun w' hbw => ?_) ?_; rotate_left; ((try dsimp only at hbw); have hbc := (bcell hbw).1; have hbf := (bcell hbw).2; go_simp; first | done | with_reducible rfl | fail); simp only [List.setIfInBounds_toArray, List.set_cons_zero, List.set_cons_succ]))); refine wpQuiet_nil ?_; intro wq hbq)
          have HBQ := Lib.hid (bel_trans HB.out hbq)
          clear hbq
          go_wp2_with fail
          exact ⟨⟨k + 1, by omega, by go_num, HS2.out, HBQ.out⟩, by simp [intOf]; omega⟩
        · have HV : Hid (decide (xs = ys) = false) := by
            show _ = _
            rw [decide_eq_false_iff_not]
            intro e
            rw [e, e2] at e1
            exact hxy e1.symm
          have hne : (x != y) = true := by simp [hxy]
          clear hx hy e1 e2 k1 k2 hxy
          go_wp2_with fail
          (refine wp_region_below (by kernel_rfl) (by kernel_rfl) ?_; (repeat (first | go_big_quiet_skip | (refine quietV (v := ?_) (by rfl) rfl (fun w' hbw => ?_) ?_; rotate_left; ((try dsimp only at hbw); have hbc := (bcell hbw).1; have hbf := (bcell hbw).2; go_simp; first | done | with_reducible rfl | fail); simp only [List.setIfInBounds_toArray, List.set_cons_zero, List.set_cons_succ]))); refine wpQuiet_nil ?_; intro wq hbq)
          have HBQ := Lib.hid (bel_trans HB.out hbq)
          clear hbq
          go_wp2_with fail
          go_ret
          exact ⟨by rw [HV.out]; rfl, HBQ.out⟩
      · have hi1 : ¬ (k : Int) < (n : Int) := by omega
        have HV : Hid (decide (xs = ys) = true) := by
          show _ = _
          rw [decide_eq_true_iff]
          apply List.ext_getElem (HL.out.trans HL2.out.symm)
          intro j j1 j2
          have h := HSM.out j (by have := HL.out; omega)
          rw [List.getD_eq_getElem?_getD, List.getElem?_eq_getElem j1, List.getD_eq_getElem?_getD, List.getElem?_eq_getElem j2] at h
          exact h
        clear h1
        go_wp2_with fail
        go_ret
        exact ⟨by rw [HV.out]; rfl, HB.out⟩
  · have hne0 : ((n : Int) != (m : Int)) = true := by simp; omega
    have HV : Hid (decide (xs = ys) = false) := by
      show _ = _
      rw [decide_eq_false_iff_not]
      intro e
      rw [e] at hl
      omega
    clear hr hl hr2 hl2 hnm
    go_enter Tryz.func48, Tryz.ntmps48
    go_wp2_with fail
    go_ret
    exact ⟨by rw [HV.out]; rfl, Below.refl _ _⟩
set_option maxRecDepth 100000 in
set_option maxHeartbeats 6400000 in
theorem fixed_i (W : Int) (A B : Option Addr) (n c u cu : Nat) (rows : List Int) (m : Int) (hs : List H) (F : List (List Int)) (w : World) (hr : Rd w A (vI rows)) (hl : rows.length = n) (hO : Rd2I w B u hs F) (hu : u ≤ 500) (hF : ∀ f ∈ F, f.length ≤ 36 ∧ Msk 36 f) (hok : ∀ f ∈ F, ttOk W rows f m = true) (hT : Tb w) :
    Calls Tryz.prog 29 #[.agg #[.int .i64 W, .slice A n c], .slice B u cu, .int .i64 m] w (Ret w (.int .i64 ((F.countP (keptB W rows m) : Nat) : Int))) := by
  have HL := Lib.hid hl
  have HR := Lib.hid (hr.alloc (.cells #[.int .i64 W, .slice A n c] 29))
  have HRF := Lib.hid (hO.below (bel_alloc (Below.refl w.heap.size w) (.cells #[.int .i64 W, .slice A n c] 29)))
  have HB0 := Lib.hid (Blk.new w 29 #[.int .i64 W, .slice A n c])
  have hbw0 : Below w.heap.size w (w.alloc (.cells #[.int .i64 W, .slice A n c] 29)) := bel_alloc (Below.refl _ _) _
  have HBW0 := Lib.hid hbw0
  have HT := Lib.hid (hT.below hbw0)
  have HUL := Lib.hid hO.flen
  have HMSK := Lib.hid hF
  have HOK := Lib.hid hok
  clear hr hl hO hF hok hT hbw0
  obtain ⟨W0, hW0⟩ : ∃ W0, w.alloc (.cells #[.int .i64 W, .slice A n c] 29) = W0 := ⟨_, rfl⟩
  rw [hW0] at HR HRF HB0 HT HBW0
  have HW0 := Lib.hid hW0
  have HBX : Hid (∀ {w1 : World}, Below W0.heap.size W0 w1 → w1.cell? ⟨w.heap.size, 0, none⟩ = some (.int .i64 W) ∧ w1.cell? ⟨w.heap.size, 1, none⟩ = some (.slice A n c) ∧ w.heap.size < w1.heap.size) := fun h => by
    have hB := HB0.out.below h
    exact ⟨by simpa using hB.cell 0, by simpa using hB.cell 1, hB.lt⟩
  clear hW0
  go_enter Tryz.func29, Tryz.ntmps29
  go_wp2_with fail
  rw [HW0.out]
  go_loopw [14, 7] (fun e9 e7 wr => ∃ (i z : Nat), i ≤ u ∧ e9 = .int .i64 i ∧ e7 = .int .i64 z ∧ z = (F.take i).countP (keptB W rows m) ∧ z ≤ i ∧ Below W0.heap.size W0 wr) (fun e9 _ _ => u - (intOf e9).toNat)
  case atStart => exact ⟨0, 0, Nat.zero_le _, rfl, rfl, by simp, Nat.le_refl _, Below.refl _ _⟩
  case round =>
    obtain ⟨i, z, hiu, rfl, rfl, hz, hzi, hb⟩ := hrel
    have HZ := Lib.hid hz
    have HB := Lib.hid hb
    clear hz hb
    (try clear b0 b1 bl)
    obtain ⟨b0, b1, bl⟩ := HBX.out (HB.out)
    by_cases hlt : i < u
    · have hi0 : (0 : Int) ≤ (i : Int) := by omega
      have hi1 : (i : Int) < (u : Int) := by omega
      have hil : i < F.length := by rw [HUL.out]; exact hlt
      obtain ⟨h0, f, g, off, hfx, hEe, hge, d0, l1, r1⟩ := (HRF.out.below HB.out).at_ hlt
      obtain ⟨C1, m1, k1⟩ := h0
      dsimp only at d0 l1 r1
      have hf : F[i] = f := by rw [List.getElem?_eq_getElem hil] at hfx; exact Option.some.inj hfx
      have hcp := countP_snoc (keptB W rows m) hil
      rw [hf] at hcp
      have hfmem : f ∈ F := by rw [← hf]; exact List.getElem_mem hil
      obtain ⟨hf36, hfm⟩ := HMSK.out f hfmem
      have hto := HOK.out f hfmem
      have hm36 : m1 ≤ 36 := by omega
      have HCP := Lib.hid hcp
      have HFM := Lib.hid hfm
      have HR1 := Lib.hid r1
      have HL1 := Lib.hid l1
      have HTO := Lib.hid hto
      subst hEe
      clear hfx hil hf hcp hf36 hfm r1 l1 hfmem hto
      go_wp2_with fail
      refine (TurnTiling_i W A n c C1 m1 k1 rows f m _ (HR.out.below HB.out) HL.out HR1.out HL1.out (msk_63 HFM.out) (by omega) (HT.out.below HB.out)).mono ?_
      rw [HTO.out]
      rintro e wz ⟨X, qx, cx, rfl, hoX, hbX⟩
      have htl := ttV_len W rows f m
      have HTQ := Lib.hid (by have := own_len hoX; rw [vI_length] at this; omega : (ttV W rows f m).length = qx)
      have HRX := Lib.hid (Rd.of_own hoX)
      have HBZ := Lib.hid (bel_trans HB.out hbX)
      have d1 := keep_below hbX d0
      have dl := World.block_lt_of_cell? _ _ d1
      have hqx : qx ≤ 1099511627776 := by have := HTQ.out; have := HL1.out; omega
      have HSM := Lib.hid (sameInts_i X C1 qx cx m1 k1 (ttV W rows f m) f wz HRX.out HTQ.out (HR1.out.below hbX) HL1.out hqx)
      clear hoX hbX htl d0 b0 b1 bl
      by_cases hk : ttV W rows f m = f
      · have hkb : keptB W rows m f = true := by unfold keptB; exact decide_eq_true hk
        have hsm := HSM.out
        rw [decide_eq_true hk] at hsm
        have HSM := Lib.hid hsm
        have HZ2 : Hid (z + 1 = (F.take (i + 1)).countP (keptB W rows m)) := by show _ = _; rw [HCP.out, hkb, if_pos rfl, HZ.out]
        clear hk hkb hsm
        go_wp2_with fail
        refine HSM.out.mono ?_
        rintro e w7 ⟨rfl, hb7⟩
        go_wp2_with fail
        exact ⟨⟨i + 1, z + 1, by omega, by go_num, by go_num, HZ2.out, by omega, bel_trans HBZ.out hb7⟩, by simp [intOf]; omega⟩
      · have hkb : keptB W rows m f = false := by unfold keptB; exact decide_eq_false hk
        have hsm := HSM.out
        rw [decide_eq_false hk] at hsm
        have HSM := Lib.hid hsm
        have HZ2 : Hid (z = (F.take (i + 1)).countP (keptB W rows m)) := by show _ = _; rw [HCP.out, hkb, HZ.out]; rfl
        clear hk hkb hsm
        go_wp2_with fail
        refine HSM.out.mono ?_
        rintro e w7 ⟨rfl, hb7⟩
        go_wp2_with fail
        exact ⟨⟨i + 1, z, by omega, by go_num, rfl, HZ2.out, by omega, bel_trans HBZ.out hb7⟩, by simp [intOf]; omega⟩
    · have hi1 : ¬ (i : Int) < (u : Int) := by omega
      have HE : Hid (((F.countP (keptB W rows m) : Nat) : Int) = (z : Int)) := by
        show _ = _
        rw [HZ.out, List.take_of_length_le (by rw [HUL.out]; omega)]
      go_wp2_with fail
      go_ret
      exact ⟨by rw [HE.out]; rfl, bel_trans HBW0.out HB.out⟩
set_option maxRecDepth 100000 in
set_option maxHeartbeats 6400000 in
theorem FixedTilings_i (W : Int) (A B : Option Addr) (n c q cb : Nat) (rows : List Int) (m : Int) (hs : List H) (P : List (List C)) (w : World) (hr : Rd w A (vI rows)) (hl : rows.length = n) (hp : RdP w B q hs P) (hq : q ≤ 1048576) (hm : totC P ≤ 1048576) (_h63 : m < 9223372036854775808) (hT : Tb w) :
    Calls Tryz.prog 10 #[.agg #[.int .i64 W, .slice A n c], .slice B q cb, .int .i64 m] w (Ret w (.int .i64 (fixV W rows P m))) := by
  have HL := Lib.hid hl
  have HR := Lib.hid (hr.alloc (.cells #[.int .i64 W, .slice A n c] 29))
  have HP := Lib.hid (hp.alloc (.cells #[.int .i64 W, .slice A n c] 29))
  have HB0 := Lib.hid (Blk.new w 29 #[.int .i64 W, .slice A n c])
  have HM := Lib.hid hm
  have hbw0 : Below w.heap.size w (w.alloc (.cells #[.int .i64 W, .slice A n c] 29)) := bel_alloc (Below.refl _ _) _
  have HBW0 := Lib.hid hbw0
  have hml := motV_len W rows
  have HT := Lib.hid (hT.below hbw0)
  clear hl hr hp hm hbw0 _h63 hT
  obtain ⟨W0, hW0⟩ : ∃ W0, w.alloc (.cells #[.int .i64 W, .slice A n c] 29) = W0 := ⟨_, rfl⟩
  rw [hW0] at HR HP HB0 HT HBW0
  have HW0 := Lib.hid hW0
  have HBX : Hid (∀ {w1 : World}, Below W0.heap.size W0 w1 → w1.cell? ⟨w.heap.size, 0, none⟩ = some (.int .i64 W) ∧ w1.cell? ⟨w.heap.size, 1, none⟩ = some (.slice A n c) ∧ w.heap.size < w1.heap.size) := fun h => by
    have hB := HB0.out.below h
    exact ⟨by simpa using hB.cell 0, by simpa using hB.cell 1, hB.lt⟩
  clear hW0
  (try clear b0 b1 bl)
  obtain ⟨b0, b1, bl⟩ := HBX.out (Below.refl _ _)
  obtain ⟨ip, hip⟩ : ∃ b, (isReg W rows && pcs P) = b := ⟨_, rfl⟩
  have HIP := Lib.hid hip
  cases ip with
  | false =>
    have HF : Hid (fixV W rows P m = -1) := by show _ = _; unfold fixV; rw [hip]; rfl
    clear hip
    go_enter Tryz.func10, Tryz.ntmps10
    go_wp2_with fail
    rw [HW0.out]
    refine (isProblem_i W A B n c q cb rows hs P _ HR.out HL.out HP.out hq HM.out).mono ?_
    rw [HIP.out]
    rintro e w1 ⟨rfl, hb1⟩
    have HB1 := Lib.hid (bel_trans HBW0.out hb1)
    clear hb1
    go_wp2_with fail
    go_ret
    exact ⟨by rw [HF.out]; rfl, HB1.out⟩
  | true =>
    have h2 := hip
    simp only [Bool.and_eq_true] at h2
    obtain ⟨hv, hpc⟩ := h2
    obtain ⟨an, han⟩ : ∃ an, (motV W rows).any (· == m) = an := ⟨_, rfl⟩
    have HAN := Lib.hid han
    have HF : Hid (fixV W rows P m = if an then ((fixN W rows P m : Nat) : Int) else -1) := by show _ = _; unfold fixV; rw [hip, han]; rfl
    have hLm := allV_msk W rows P
    have hLl := allV_len W rows P
    have hp5 := (pcs_at hpc).1
    have hM36 : maskV W rows < 2 ^ 36 := maskV_62 hv
    obtain ⟨L, hL⟩ : ∃ L, allV W rows P = L := ⟨_, rfl⟩
    obtain ⟨M, hMM⟩ : ∃ M, maskV W rows = M := ⟨_, rfl⟩
    have hL15 : l15V W rows P = (tilV L M).take 500 := by unfold l15V; rw [hL, hMM]
    rw [hL] at hLm hLl
    rw [hMM] at hM36
    have hL5 : L.length ≤ 1440 := by omega
    have HLE := Lib.hid hL
    have HLM := Lib.hid hLm
    have HL5 := Lib.hid hL5
    have HMM := Lib.hid hMM
    have HM36 := Lib.hid hM36
    have HL15 := Lib.hid hL15
    have HV := Lib.hid hv
    have HPC := Lib.hid hpc
    clear hip hv hpc han hLm hLl hp5 hL hMM hL5 hM36 hL15
    go_enter Tryz.func10, Tryz.ntmps10
    go_wp2_with fail
    rw [HW0.out]
    refine (isProblem_i W A B n c q cb rows hs P _ HR.out HL.out HP.out hq HM.out).mono ?_
    rw [HIP.out]
    rintro e w2 ⟨rfl, hb2⟩
    have HB2 := Lib.hid hb2
    clear hb2
    (try clear b0 b1 bl)
    obtain ⟨b0, b1, bl⟩ := HBX.out (HB2.out)
    go_wp2_with fail
    refine (RegionMotions_i W A n c rows _ (HR.out.below HB2.out) HL.out).mono ?_
    rintro e w3 ⟨G, qg, cq, rfl, hoG, hb3⟩
    have HQ := Lib.hid (by have := own_len hoG; rw [vI_length] at this; omega : (motV W rows).length = qg)
    have hqg : qg ≤ 1099511627776 := by have := HQ.out; omega
    have HB3 := Lib.hid (bel_trans HB2.out hb3)
    have HRG := Lib.hid (Rd.of_own hoG)
    clear hoG hb3 hml
    go_wp2_with fail
    refine (hasInt_i G qg cq _ m _ HRG.out HQ.out hqg).mono ?_
    rw [HAN.out]
    rintro e w4 ⟨rfl, hb4⟩
    have HB4 := Lib.hid (bel_trans HB3.out hb4)
    clear hb4
    (try clear b0 b1 bl)
    obtain ⟨b0, b1, bl⟩ := HBX.out (HB4.out)
    cases an with
    | false =>
      go_wp2_with fail
      go_ret
      exact ⟨by rw [HF.out]; rfl, bel_trans HBW0.out HB4.out⟩
    | true =>
      have hmsk := til_msk (P := P) HV.out
      have hokk : ∀ f ∈ l15V W rows P, ttOk W rows f m = true := fun f hf => by
        unfold ttOk
        rw [HAN.out, l15_ok HV.out (allV_msk W rows P) hf]
        rfl
      have hu500 : (l15V W rows P).length ≤ 500 := by unfold l15V; rw [List.length_take]; omega
      have HMSK := Lib.hid hmsk
      have HOKK := Lib.hid hokk
      have HU5 := Lib.hid hu500
      clear hmsk hokk hu500
      go_wp2_with fail
      refine wp_region_rg 10 rfl (by kernel_rfl) ?_
      (refine rgT (i := 0) (v := ?_) rfl rfl (by kernel_rfl) (by kernel_rfl) (by kernel_rfl) (by rfl) (fun w' hcw => ?_) ?_; rotate_left; ((try dsimp only at hcw); have hbc := hcw.cells; go_simp; first | done | with_reducible rfl); simp only [List.setIfInBounds_toArray, List.set_cons_zero, List.set_cons_succ])
      (refine rgT (i := 1) (v := ?_) rfl rfl (by kernel_rfl) (by kernel_rfl) (by kernel_rfl) (by rfl) (fun w' hcw => ?_) ?_; rotate_left; ((try dsimp only at hcw); have hbc := hcw.cells; go_simp; first | done | with_reducible rfl); simp only [List.setIfInBounds_toArray, List.set_cons_zero, List.set_cons_succ])
      (refine rgT (i := 2) (v := ?_) rfl rfl (by kernel_rfl) (by kernel_rfl) (by kernel_rfl) (by rfl) (fun w' hcw => ?_) ?_; rotate_left; ((try dsimp only at hcw); have hbc := hcw.cells; go_simp; first | done | with_reducible rfl); simp only [List.setIfInBounds_toArray, List.set_cons_zero, List.set_cons_succ])
      (refine rgT (i := 4) (v := ?_) rfl rfl (by kernel_rfl) (by kernel_rfl) (by kernel_rfl) (by rfl) (fun w' hcw => ?_) ?_; rotate_left; ((try dsimp only at hcw); have hbc := hcw.cells; go_simp; first | done | with_reducible rfl); simp only [List.setIfInBounds_toArray, List.set_cons_zero, List.set_cons_succ])
      (refine rgT (i := 7) (v := ?_) rfl rfl (by kernel_rfl) (by kernel_rfl) (by kernel_rfl) (by rfl) (fun w' hcw => ?_) ?_; rotate_left; ((try dsimp only at hcw); have hbc := hcw.cells; go_simp; first | done | with_reducible rfl); simp only [List.setIfInBounds_toArray, List.set_cons_zero, List.set_cons_succ])
      refine rgK_one (i := 3) (by kernel_rfl) rfl rfl (fun u1 hc1 he1 K hK => ?_)
      go_simp
      refine (all_i W A B n c q cb rows hs P _ (HR.out.below (bel_trans HB4.out hc1)) HL.out HV.out (HP.out.below (bel_trans HB4.out hc1)) HPC.out).mono ?_
      rw [HLE.out]
      rintro e u2 ⟨gE, q3, c3, rfl, hO, hb2⟩
      have hq3 : L.length = q3 := by have := own_len hO; rw [vI_length] at this; omega
      have hc2 : Below w4.heap.size w4 u2 := bel_trans hc1 hb2
      refine hK _ _ hc2 ?_
      clear hK K
      have HQ3 := Lib.hid hq3
      have HRE := Lib.hid (Rd.of_own hO)
      have hq4 : q3 ≤ 1440 := by have := HL5.out; omega
      clear hO hq3
      refine rgK_one (i := 5) (by kernel_rfl) rfl rfl (fun u5 hc5 he5 K hK => ?_)
      go_simp
      refine (mask_i W A n c rows _ (HR.out.below (bel_trans HB4.out hc5)) HL.out HV.out).mono ?_
      rw [HMM.out]
      rintro e u6 ⟨rfl, hb6⟩
      refine hK _ _ (bel_trans hc5 hb6) ?_
      clear hK K
      have he6 := bel_trans he5 hb6
      refine rgK_one (i := 6) (by kernel_rfl) rfl rfl (fun u3 hc3 he3 K hK => ?_)
      go_simp
      refine (firstTilings_i gE q3 c3 M 500 L _ (HRE.out.below (bel_trans he6 he3)) HQ3.out (by omega) HLM.out HM36.out (HT.out.below (bel_trans HB4.out hc3)) (by omega) (by omega)).mono ?_
      rw [← HL15.out]
      rintro e u4 ⟨E, u, cu, hE, rfl, hOE, hb4⟩
      have hc4 : Below w4.heap.size w4 u4 := bel_trans hc3 hb4
      refine hK _ _ hc4 ?_
      clear hK K
      have hue := hOE.flen
      refine rgK_one (i := 8) (by kernel_rfl) rfl rfl (fun u7 hc7 he7 K hK => ?_)
      go_simp
      refine (fixed_i W A E n c u cu rows m hE (l15V W rows P) _ (HR.out.below (bel_trans HB4.out hc7)) HL.out (Rd2I.of_own (hOE.below he7)) (by have := HU5.out; omega) HMSK.out HOKK.out (HT.out.below (bel_trans HB4.out hc7))).mono ?_
      rintro e u8 ⟨rfl, hb8⟩
      refine hK _ _ (bel_trans hc7 hb8) ?_
      clear hK K
      (refine rgT (i := 9) (v := ?_) rfl rfl (by kernel_rfl) (by kernel_rfl) (by kernel_rfl) (by rfl) (fun w' hcw => ?_) ?_; rotate_left; ((try dsimp only at hcw); have hbc := hcw.cells; go_simp; first | done | with_reducible rfl); simp only [List.setIfInBounds_toArray, List.set_cons_zero, List.set_cons_succ])
      refine ⟨by kernel_rfl, fun wz hcz hez => NoPanic.normal ?_⟩
      have HBZ := Lib.hid (bel_trans HBW0.out (bel_trans HB4.out hcz))
      clear hOE hcz hez
      go_wp2_with fail
      go_ret
      exact ⟨by rw [HF.out]; rfl, HBZ.out⟩
set_option maxRecDepth 100000 in
set_option maxHeartbeats 6400000 in
theorem CountOrbits_i (W : Int) (A B : Option Addr) (n c q cb : Nat) (rows : List Int) (hs : List H) (P : List (List C)) (w : World) (hr : Rd w A (vI rows)) (hl : rows.length = n) (hp : RdP w B q hs P) (hq : q ≤ 1048576) (hm : totC P ≤ 1048576) (hT : Tb w) :
    Calls Tryz.prog 14 #[.agg #[.int .i64 W, .slice A n c], .slice B q cb] w (Ret w (.int .i64 (orbV W rows P))) := by
  have HL := Lib.hid hl
  have HR := Lib.hid (hr.alloc (.cells #[.int .i64 W, .slice A n c] 29))
  have HP := Lib.hid (hp.alloc (.cells #[.int .i64 W, .slice A n c] 29))
  have HB0 := Lib.hid (Blk.new w 29 #[.int .i64 W, .slice A n c])
  have HM := Lib.hid hm
  have hbw0 : Below w.heap.size w (w.alloc (.cells #[.int .i64 W, .slice A n c] 29)) := bel_alloc (Below.refl _ _) _
  have HBW0 := Lib.hid hbw0
  have hml := motV_len W rows
  have HT := Lib.hid (hT.below hbw0)
  clear hl hr hp hm hbw0 hT
  obtain ⟨W0, hW0⟩ : ∃ W0, w.alloc (.cells #[.int .i64 W, .slice A n c] 29) = W0 := ⟨_, rfl⟩
  rw [hW0] at HR HP HB0 HT HBW0
  have HW0 := Lib.hid hW0
  have HBX : Hid (∀ {w1 : World}, Below W0.heap.size W0 w1 → w1.cell? ⟨w.heap.size, 0, none⟩ = some (.int .i64 W) ∧ w1.cell? ⟨w.heap.size, 1, none⟩ = some (.slice A n c) ∧ w.heap.size < w1.heap.size) := fun h => by
    have hB := HB0.out.below h
    exact ⟨by simpa using hB.cell 0, by simpa using hB.cell 1, hB.lt⟩
  clear hW0
  (try clear b0 b1 bl)
  obtain ⟨b0, b1, bl⟩ := HBX.out (Below.refl _ _)
  obtain ⟨ip, hip⟩ : ∃ b, (isReg W rows && pcs P) = b := ⟨_, rfl⟩
  have HIP := Lib.hid hip
  cases ip with
  | false =>
    have HF : Hid (orbV W rows P = -1) := by show _ = _; unfold orbV; rw [hip]; rfl
    clear hip
    go_enter Tryz.func14, Tryz.ntmps14
    go_wp2_with fail
    rw [HW0.out]
    refine (isProblem_i W A B n c q cb rows hs P _ HR.out HL.out HP.out hq HM.out).mono ?_
    rw [HIP.out]
    rintro e w1 ⟨rfl, hb1⟩
    have HB1 := Lib.hid (bel_trans HBW0.out hb1)
    clear hb1
    go_wp2_with fail
    go_ret
    exact ⟨by rw [HF.out]; rfl, HB1.out⟩
  | true =>
    have h2 := hip
    simp only [Bool.and_eq_true] at h2
    obtain ⟨hv, hpc⟩ := h2
    have hmne := motV_ne hv
    have HF : Hid (orbV W rows P = if (l15V W rows P).length < 500 then ((sumN W rows P (motV W rows) / (motV W rows).length : Nat) : Int) else -1) := by
      show _ = _
      unfold orbV
      rw [hip]
      simp
    have hLm := allV_msk W rows P
    have hLl := allV_len W rows P
    have hp5 := (pcs_at hpc).1
    have hM36 : maskV W rows < 2 ^ 36 := maskV_62 hv
    obtain ⟨L, hL⟩ : ∃ L, allV W rows P = L := ⟨_, rfl⟩
    obtain ⟨M, hMM⟩ : ∃ M, maskV W rows = M := ⟨_, rfl⟩
    have hL15 : l15V W rows P = (tilV L M).take 500 := by unfold l15V; rw [hL, hMM]
    rw [hL] at hLm hLl
    rw [hMM] at hM36
    have hL5 : L.length ≤ 1440 := by omega
    have HLE := Lib.hid hL
    have HLM := Lib.hid hLm
    have HL5 := Lib.hid hL5
    have HMM := Lib.hid hMM
    have HM36 := Lib.hid hM36
    have HL15 := Lib.hid hL15
    have HV := Lib.hid hv
    have HPC := Lib.hid hpc
    have HNE := Lib.hid hmne
    have hmsk := til_msk (P := P) hv
    have HMSK := Lib.hid hmsk
    have hokk : ∀ m ∈ motV W rows, ∀ f ∈ l15V W rows P, ttOk W rows f m = true := fun m hm f hf => by
      rw [ttOk_mem hm]
      exact l15_ok hv (allV_msk W rows P) hf
    have HOKK := Lib.hid hokk
    have hu500 : (l15V W rows P).length ≤ 500 := by unfold l15V; rw [List.length_take]; omega
    have HU5 := Lib.hid hu500
    clear hip hv hpc hLm hLl hp5 hL hMM hL5 hM36 hL15 hmne hmsk hokk hu500
    go_enter Tryz.func14, Tryz.ntmps14
    go_wp2_with fail
    rw [HW0.out]
    refine (isProblem_i W A B n c q cb rows hs P _ HR.out HL.out HP.out hq HM.out).mono ?_
    rw [HIP.out]
    rintro e w2 ⟨rfl, hb2⟩
    have HB2 := Lib.hid hb2
    clear hb2
    (try clear b0 b1 bl)
    obtain ⟨b0, b1, bl⟩ := HBX.out (HB2.out)
    go_wp2_with fail
    refine wp_region_rg 7 rfl (by kernel_rfl) ?_
    (refine rgT (i := 0) (v := ?_) rfl rfl (by kernel_rfl) (by kernel_rfl) (by kernel_rfl) (by rfl) (fun w' hcw => ?_) ?_; rotate_left; ((try dsimp only at hcw); have hbc := hcw.cells; go_simp; first | done | with_reducible rfl); simp only [List.setIfInBounds_toArray, List.set_cons_zero, List.set_cons_succ])
    (refine rgT (i := 1) (v := ?_) rfl rfl (by kernel_rfl) (by kernel_rfl) (by kernel_rfl) (by rfl) (fun w' hcw => ?_) ?_; rotate_left; ((try dsimp only at hcw); have hbc := hcw.cells; go_simp; first | done | with_reducible rfl); simp only [List.setIfInBounds_toArray, List.set_cons_zero, List.set_cons_succ])
    (refine rgT (i := 3) (v := ?_) rfl rfl (by kernel_rfl) (by kernel_rfl) (by kernel_rfl) (by rfl) (fun w' hcw => ?_) ?_; rotate_left; ((try dsimp only at hcw); have hbc := hcw.cells; go_simp; first | done | with_reducible rfl); simp only [List.setIfInBounds_toArray, List.set_cons_zero, List.set_cons_succ])
    refine rgK_one (i := 2) (by kernel_rfl) rfl rfl (fun u1 hc1 he1 K hK => ?_)
    go_simp
    refine (all_i W A B n c q cb rows hs P _ (HR.out.below (bel_trans HB2.out hc1)) HL.out HV.out (HP.out.below (bel_trans HB2.out hc1)) HPC.out).mono ?_
    rw [HLE.out]
    rintro e u2 ⟨gE, q3, c3, rfl, hO, hb2⟩
    have hq3 : L.length = q3 := by have := own_len hO; rw [vI_length] at this; omega
    have hc2 : Below w2.heap.size w2 u2 := bel_trans hc1 hb2
    refine hK _ _ hc2 ?_
    clear hK K
    have HQ3 := Lib.hid hq3
    have HRE := Lib.hid (Rd.of_own hO)
    have hq4 : q3 ≤ 1440 := by have := HL5.out; omega
    clear hO hq3
    refine rgK_one (i := 4) (by kernel_rfl) rfl rfl (fun u5 hc5 he5 K hK => ?_)
    go_simp
    refine (mask_i W A n c rows _ (HR.out.below (bel_trans HB2.out hc5)) HL.out HV.out).mono ?_
    rw [HMM.out]
    rintro e u6 ⟨rfl, hb6⟩
    refine hK _ _ (bel_trans hc5 hb6) ?_
    clear hK K
    have he6 := bel_trans he5 hb6
    refine rgK_one (i := 5) (by kernel_rfl) rfl rfl (fun u3 hc3 he3 K hK => ?_)
    go_simp
    refine (firstTilings_i gE q3 c3 M 500 L _ (HRE.out.below (bel_trans he6 he3)) HQ3.out (by omega) HLM.out HM36.out (HT.out.below (bel_trans HB2.out hc3)) (by omega) (by omega)).mono ?_
    rw [← HL15.out]
    rintro e u4 ⟨E, u, cu, hE, rfl, hOE, hb4⟩
    have hc4 : Below w2.heap.size w2 u4 := bel_trans hc3 hb4
    refine hK _ _ hc4 ?_
    clear hK K
    (refine rgT (i := 6) (v := ?_) rfl rfl (by kernel_rfl) (by kernel_rfl) (by kernel_rfl) (by rfl) (fun w' hcw => ?_) ?_; rotate_left; ((try dsimp only at hcw); have hbc := hcw.cells; go_simp; first | done | with_reducible rfl); simp only [List.setIfInBounds_toArray, List.set_cons_zero, List.set_cons_succ])
    refine ⟨by kernel_rfl, fun wz hcz hez => NoPanic.normal ?_⟩
    have hul := hOE.flen
    rw [hul] at HF HU5
    have HUL := Lib.hid hul
    have HRF := Lib.hid (Rd2I.of_own (hOE.below hez))
    have HBZ := Lib.hid (bel_trans HB2.out hcz)
    have hu5 : u ≤ 500 := HU5.out
    clear hOE hcz hez hul hc1 he1 hb2 hc2 hc5 he5 hb6 he6 hc3 he3 hb4 hc4
    (try clear b0 b1 bl)
    obtain ⟨b0, b1, bl⟩ := HBX.out (HBZ.out)
    by_cases hu : u < 500
    · have huI : ¬ (u : Int) ≥ 500 := by omega
      have hf2 := HF.out
      rw [if_pos hu] at hf2
      have HF := Lib.hid hf2
      clear hf2
      obtain ⟨Mo, hMo⟩ : ∃ Mo, motV W rows = Mo := ⟨_, rfl⟩
      have HMO := Lib.hid hMo
      rw [hMo] at HF HNE HOKK hml
      clear hMo
      go_wp2_with fail
      refine (RegionMotions_i W A n c rows _ (HR.out.below HBZ.out) HL.out).mono ?_
      rw [HMO.out]
      rintro e w5 ⟨G, qg, cq, rfl, hoG, hb5⟩
      have HQ := Lib.hid (by have := own_len hoG; rw [vI_length] at this; omega : Mo.length = qg)
      have HRG := Lib.hid (Rd.of_own hoG)
      have HB5 := Lib.hid (bel_trans HBZ.out hb5)
      have HBZ5 := Lib.hid hb5
      have hq8 : qg ≤ 8 := by have := HQ.out; omega
      have hq0 : 0 < qg := by
        rcases Nat.eq_zero_or_pos qg with h | h
        · exact absurd (List.eq_nil_of_length_eq_zero (by rw [HQ.out, h])) HNE.out
        · exact h
      clear hoG hb5 b0 b1 bl
      go_wp2_with fail
      go_loopw [27, 6] (fun e7 e6 wr => ∃ (i z : Nat), i ≤ qg ∧ e7 = .int .i64 i ∧ e6 = .int .i64 z ∧ z = sumN W rows P (Mo.take i) ∧ z ≤ 500 * i ∧ Below w5.heap.size w5 wr) (fun e7 _ _ => qg - (intOf e7).toNat)
      case atStart => exact ⟨0, 0, Nat.zero_le _, rfl, rfl, by simp [sumN], Nat.le_refl _, Below.refl _ _⟩
      case round =>
        obtain ⟨i, z, hiu, rfl, rfl, hz, hzi, hb⟩ := hrel
        have HZ := Lib.hid hz
        have HB := Lib.hid hb
        clear hz hb
        (try clear b0 b1 bl)
        obtain ⟨b0, b1, bl⟩ := HBX.out (bel_trans HB5.out HB.out)
        by_cases hlt : i < qg
        · have hi0 : (0 : Int) ≤ (i : Int) := by omega
          have hi1 : (i : Int) < (qg : Int) := by omega
          have hil : i < Mo.length := by rw [HQ.out]; exact hlt
          obtain ⟨gg, off, hA, hgg, d1⟩ := RdI.at_ (HRG.out.below HB.out) hil
          have hst := sumN_take (W := W) (rows := rows) (P := P) hil
          obtain ⟨m, hmm⟩ : ∃ m, Mo[i] = m := ⟨_, rfl⟩
          have hokm := HOKK.out m (by rw [← hmm]; exact List.getElem_mem hil)
          rw [hmm] at d1 hst
          have hfl := fixN_le W rows P m
          obtain ⟨fx, hfx⟩ : ∃ fx, fixN W rows P m = fx := ⟨_, rfl⟩
          rw [hfx] at hst hfl
          have HFI : Hid (Calls Tryz.prog 29 #[.agg #[.int .i64 W, .slice A n c], .slice E u cu, .int .i64 m] wr (Ret wr (.int .i64 (fx : Int)))) := by
            have h := fixed_i W A E n c u cu rows m hE (l15V W rows P) wr (HR.out.below (bel_trans HB5.out HB.out)) HL.out ((HRF.out.below HBZ5.out).below HB.out) hu5 HMSK.out hokm (HT.out.below (bel_trans HB5.out HB.out))
            unfold fixN at hfx
            rw [hfx] at h
            exact h
          have HST := Lib.hid hst
          have hzx : z + fx ≤ 500 * (i + 1) := by omega
          have HWZ : Hid (IntKind.i64.wrap ((z : Int) + (fx : Int)) = ((z + fx : Nat) : Int)) := (Go.IntWalk.i64_in _ (by omega)).trans (by omega)
          subst hA
          clear hmm hil hfx hst hokm
          go_wp2_with fail
          refine HFI.out.mono ?_
          rintro e w7 ⟨rfl, hb7⟩
          have HB7 := Lib.hid (bel_trans HB.out hb7)
          clear hb7
          go_wp2_with fail
          exact ⟨⟨i + 1, z + fx, by omega, by go_num, (by first | go_num | rw [HWZ.out]), by rw [HST.out, HZ.out], hzx, HB7.out⟩, by simp [intOf]; omega⟩
        · obtain rfl : i = qg := by omega
          have hi1 : ¬ (i : Int) < (i : Int) := by omega
          have hne0 : ((i : Int) == 0) = false := by simp; omega
          have htd : (z : Int).tdiv (i : Int) = ((z / i : Nat) : Int) := by rw [Int.tdiv_eq_ediv_of_nonneg (by omega)]; simp
          have hzd : z / i ≤ z := Nat.div_le_self _ _
          obtain ⟨d, hd⟩ : ∃ d, z / i = d := ⟨_, rfl⟩
          rw [hd] at htd hzd
          have hdw : IntKind.i64.wrap (d : Int) = (d : Int) := Go.IntWalk.i64_in _ (by omega)
          have HE : Hid (orbV W rows P = (d : Int)) := by
            show _ = _
            have h := HZ.out
            rw [List.take_of_length_le (by rw [HQ.out]; exact Nat.le_refl _)] at h
            rw [HF.out, HQ.out, ← h, hd]
          clear hd
          go_wp2_with fail
          go_ret
          exact ⟨by rw [HE.out]; rfl, bel_trans HBW0.out (bel_trans HB5.out HB.out)⟩
    · have huI : (u : Int) ≥ 500 := by omega
      have hf2 := HF.out
      rw [if_neg hu] at hf2
      have HF := Lib.hid hf2
      clear hf2
      go_wp2_with fail
      go_ret
      exact ⟨by rw [HF.out]; rfl, bel_trans HBW0.out HBZ.out⟩
end Go.Proofs.YtoedmmhiinhljaaGreatDoor

/- The laws' own functions on integers and slices of integers: copying, comparing, marking. -/
namespace Go.Proofs.YtoedmmhiinhljaaGreatDoor
open Go.RowKit
set_option linter.unusedVariables false
attribute [local go_sem ↓] Go.wp_at_zero Go.wp_at_succ

theorem toIntS_l (A : Option Addr) (n c : Nat) (xs : List Int) (w : World) (hr : Rd w A (vI xs)) (hl : xs.length = n) (hn : n ≤ 1048576) :
    Calls Tryz.prog 24 #[.slice A n c] w (RetS w 3 1 (vI xs)) := by
  have hmk := mk_I w n hn
  go_enter Tryz.func24, Tryz.ntmps24
  go_wp2
  go_loopw [4] (fun i wr => ∃ k : Nat, k ≤ n ∧ i = .int .i64 k ∧ Blk wr w.heap.size 3 (vI (xs.take k ++ List.replicate (xs.length - k) 0)).toArray ∧ Below w.heap.size w wr) (fun i _ => n - (intOf i).toNat)
  case atStart => exact ⟨0, Nat.zero_le _, rfl, by rw [hl]; exact Blk.new _ _ _, (by (repeat (first | with_reducible exact Below.refl _ _ | with_reducible assumption | with_reducible apply bel_alloc | with_reducible apply bel_drew | with_reducible apply bel_drewN | ((with_reducible refine bel_set ?_ ?_); rotate_left; (simp <;> omega)) | (with_reducible refine bel_trans ?_ (by with_reducible assumption)))))⟩
  case round =>
    obtain ⟨k, hk, rfl, hB, hb⟩ := hrel
    clear hmk
    by_cases hlt : k < n
    · have hkx : k < xs.length := by omega
      obtain ⟨g, off, rfl, hgn, c0⟩ := RdI.at_ hr hkx
      have c1 := keep_below hb c0
      have hgw := Nat.lt_of_lt_of_le hgn hb.size
      clear c0
      obtain ⟨x, hx⟩ : ∃ x, xs[k] = x := ⟨_, rfl⟩
      have hs := blkI_set hB k x
      rw [← hx, fill_step xs 0 k hkx, hx] at hs
      have d1 := blkI_cell hB (k := k) (by rw [fill_len _ _ _ (by omega)]; omega)
      generalize (xs.take k ++ List.replicate (xs.length - k) 0)[k]'(by rw [fill_len _ _ _ (by omega)]; omega) = z at d1
      have f1 := hB.frozen k
      rw [hx] at c1
      have HS := Lib.hid hs
      have hgl := hB.lt
      clear hs hx hB hl
      go_wp2
      exact ⟨⟨k + 1, by omega, by go_num, HS.out, (by (repeat (first | with_reducible exact Below.refl _ _ | with_reducible assumption | with_reducible apply bel_alloc | with_reducible apply bel_drew | with_reducible apply bel_drewN | ((with_reducible refine bel_set ?_ ?_); rotate_left; (simp <;> omega)) | (with_reducible refine bel_trans ?_ (by with_reducible assumption)))))⟩, by simp [intOf]; omega⟩
    · have hkk : k = n := by omega
      subst hkk
      have ho := own_blk hB (size := 1) (n := k) (by simp [vI_length, ← hl]) (Nat.le_refl _) (by unfold maxLen; omega)
      rw [← hl, fill_end] at ho
      have HO := Lib.hid ho
      have HL := Lib.hid hl
      clear ho hB hl
      go_wp2
      go_ret
      exact ⟨_, _, _, rfl, by have h := HO.out; rw [HL.out] at h; simpa using h, hb⟩

theorem eqIntS_l (A A2 : Option Addr) (n c n2 c2 : Nat) (xs ys : List Int) (w : World) (hr : Rd w A (vI xs)) (hr2 : Rd w A2 (vI ys)) (hl : xs.length = n) (hl2 : ys.length = n2) (hn : n ≤ 1099511627776) (hn2 : n2 ≤ 1099511627776) :
    Calls Tryz.prog 33 #[.slice A n c, .slice A2 n2 c2] w (Ret w (.bool (decide (xs = ys)))) := by
  by_cases hne : n = n2
  · subst hne
    have HL := Lib.hid hl
    have HL2 := Lib.hid hl2
    go_enter Tryz.func33, Tryz.ntmps33
    go_wp2
    clear hl hl2
    go_loopw [5] (fun i wr => ∃ k : Nat, k ≤ n ∧ i = .int .i64 k ∧ xs.take k = ys.take k ∧ Below w.heap.size w wr) (fun i _ => n - (intOf i).toNat)
    case atStart => exact ⟨0, Nat.zero_le _, rfl, rfl, Below.refl _ _⟩
    case round =>
      obtain ⟨k, hk, rfl, he, hb⟩ := hrel
      by_cases hlt : k < n
      · have hkx : k < xs.length := by rw [HL.out]; omega
        have hky : k < ys.length := by rw [HL2.out]; omega
        obtain ⟨g, off, rfl, hgw, c1⟩ := RdI.at_ (hr.below hb) hkx
        obtain ⟨g2, off2, rfl, hgw2, c2⟩ := RdI.at_ (hr2.below hb) hky
        have e1 := List.take_succ_eq_append_getElem hkx
        have e2 := List.take_succ_eq_append_getElem hky
        obtain ⟨x, hx⟩ : ∃ x, xs[k] = x := ⟨_, rfl⟩
        obtain ⟨y, hy⟩ : ∃ y, ys[k] = y := ⟨_, rfl⟩
        rw [hx] at c1 e1
        rw [hy] at c2 e2
        have HX := Lib.hid hx
        have HY := Lib.hid hy
        have HE := Lib.hid he
        have E1 := Lib.hid e1
        have E2 := Lib.hid e2
        have hi0 : (0 : Int) ≤ (k : Int) := by omega
        have hi1 : (k : Int) < (n : Int) := by omega
        clear e1 e2 hx hy he
        by_cases hxy : x = y
        · subst hxy
          go_wp2_with fail
          go_quiet (fail)
          go_wp2
          exact ⟨⟨k + 1, by omega, by go_num, by rw [E1.out, E2.out, HE.out], (by (repeat (first | with_reducible exact Below.refl _ _ | with_reducible assumption | with_reducible apply bel_alloc | with_reducible apply bel_drew | with_reducible apply bel_drewN | ((with_reducible refine bel_set ?_ ?_); rotate_left; (simp <;> omega)) | (with_reducible refine bel_trans ?_ (by with_reducible assumption)))))⟩, by simp [intOf]; omega⟩
        · have hd : (x == y) = false := by simpa using hxy
          have hv : decide (xs = ys) = false := by
            simp only [decide_eq_false_iff_not]
            rintro rfl
            exact hxy (HX.out.symm.trans HY.out)
          have HV := Lib.hid hv
          clear hxy hv
          go_wp2_with fail
          go_quiet (fail)
          go_wp2
          go_ret
          exact ⟨by rw [HV.out]; rfl, (by (repeat (first | with_reducible exact Below.refl _ _ | with_reducible assumption | with_reducible apply bel_alloc | with_reducible apply bel_drew | with_reducible apply bel_drewN | ((with_reducible refine bel_set ?_ ?_); rotate_left; (simp <;> omega)) | (with_reducible refine bel_trans ?_ (by with_reducible assumption)))))⟩
      · have hkk : k = n := by omega
        subst hkk
        rw [List.take_of_length_le (by rw [HL.out]; omega), List.take_of_length_le (by rw [HL2.out]; omega)] at he
        have HV : Hid (decide (xs = ys) = true) := by simpa [Hid] using he
        clear he
        go_wp2
        go_ret
        exact ⟨by rw [HV.out]; rfl, (by (repeat (first | with_reducible exact Below.refl _ _ | with_reducible assumption | with_reducible apply bel_alloc | with_reducible apply bel_drew | with_reducible apply bel_drewN | ((with_reducible refine bel_set ?_ ?_); rotate_left; (simp <;> omega)) | (with_reducible refine bel_trans ?_ (by with_reducible assumption)))))⟩
  · have hv : decide (xs = ys) = false := by
      simp only [decide_eq_false_iff_not]
      rintro rfl
      omega
    have HV := Lib.hid hv
    have hd : ((n : Int) == (n2 : Int)) = false := by simp; omega
    clear hv hl hl2
    go_enter Tryz.func33, Tryz.ntmps33
    go_wp2
    go_ret
    exact ⟨by rw [HV.out]; rfl, (by (repeat (first | with_reducible exact Below.refl _ _ | with_reducible assumption | with_reducible apply bel_alloc | with_reducible apply bel_drew | with_reducible apply bel_drewN | ((with_reducible refine bel_set ?_ ?_); rotate_left; (simp <;> omega)) | (with_reducible refine bel_trans ?_ (by with_reducible assumption)))))⟩

theorem eqIntS_t (A A2 : Option Addr) (n c n2 c2 : Nat) (xs : List Int) (w : World) (hr : Rd w A (vI xs)) (hr2 : Rd w A2 (vI xs)) (hl : xs.length = n) (hl2 : xs.length = n2) (hn : n ≤ 1099511627776) :
    Calls Tryz.prog 33 #[.slice A n c, .slice A2 n2 c2] w (Ret w (.bool true)) := by
  have h := eqIntS_l A A2 n c n2 c2 xs xs w hr hr2 hl hl2 hn (by omega)
  simpa using h

/-- What marking does: the numbers from k on, in its own block alone. -/
def MarkP (w : World) (base E sz : Nat) (A : Option Addr) (n c : Nat) (vs : List Value) (r : Int) (e : Ending) (w' : World) : Prop :=
  e = .returned (.int .i64 r) ∧ w'.ownsRow base E sz (.slice A n c) n vs ∧ w.grownBy w' (ob A)

end Go.Proofs.YtoedmmhiinhljaaGreatDoor

/- The laws' own functions on regions. -/
namespace Go.Proofs.YtoedmmhiinhljaaGreatDoor
open Go.RowKit
set_option linter.unusedVariables false
attribute [local go_sem ↓] Go.wp_at_zero Go.wp_at_succ

theorem own_nI {w : World} {base e n c : Nat} {A : Option Addr} {xs : List Int} (h : w.ownsRow base e 1 (.slice A n c) n (vI xs)) : xs.length = n := by
  have := own_len h
  rw [vI_length] at this
  omega
theorem own_far {w : World} {base e size n c : Nat} {A : Option Addr} {xs : List Value} {p : Addr} (h : w.ownsRow base e size (.slice A n c) n xs) (u : Value) (hp : ∀ g, ob A = some g → g ≠ p.block) : (w.setCell p u).ownsRow base e size (.slice A n c) n xs :=
  h.kept (grown_set (World.grownBy.refl w (some p.block)) rfl u) (by
    rw [ownBlock_slice]
    cases hA : ob A with
    | none => exact .inl rfl
    | some g => right; intro e; injection e with e; exact hp g hA e)
theorem own_kept2 {w w' : World} {base e size n c : Nat} {A : Option Addr} {xs : List Value} {X : Option Addr} (h : w.ownsRow base e size (.slice A n c) n xs) (hg : w.grownBy w' (ob X)) (hn : ∀ g, ob A = some g → ob X ≠ some g) : w'.ownsRow base e size (.slice A n c) n xs :=
  h.kept hg (by
    rw [ownBlock_slice]
    cases hA : ob A with
    | none => exact .inl rfl
    | some g => right; intro e; exact hn g hA e.symm)
theorem grown_alloc0 {w w' : World} {o : Obj} {row : Option Nat} (h : (w.alloc o).grownBy w' row) : w.grownBy w' row :=
  ⟨h.os, h.tape, h.output, by have := h.size; simp at this; omega, fun k hk hne => (h.block k (by simp; omega) hne).trans (Below.heap_alloc w o k hk)⟩
theorem szIntS_l (A : Option Addr) (n c : Nat) (m : Int) (w : World) (hm : n ≤ maxLen) (h0 : 0 ≤ m) (h1 : m ≤ 1048576) :
    Calls Tryz.prog 15 #[.slice A n c, .int .i64 m] w (Ret w (.int .i64 (if m < (n : Int) then -1 else m - n))) := by
  unfold maxLen at hm
  by_cases h : m < (n : Int)
  · have hlt : m - (n : Int) < 0 := by omega
    go_enter Tryz.func15, Tryz.ntmps15
    go_wp2
    go_ret
    exact ⟨rfl, (by (repeat (first | with_reducible exact Below.refl _ _ | with_reducible assumption | with_reducible apply bel_alloc | with_reducible apply bel_drew | with_reducible apply bel_drewN | ((with_reducible refine bel_set ?_ ?_); rotate_left; (simp <;> omega)) | (with_reducible refine bel_trans ?_ (by with_reducible assumption)))))⟩
  · have hlt : ¬ m - (n : Int) < 0 := by omega
    go_enter Tryz.func15, Tryz.ntmps15
    go_wp2
    go_ret
    exact ⟨rfl, (by (repeat (first | with_reducible exact Below.refl _ _ | with_reducible assumption | with_reducible apply bel_alloc | with_reducible apply bel_drew | with_reducible apply bel_drewN | ((with_reducible refine bel_set ?_ ?_); rotate_left; (simp <;> omega)) | (with_reducible refine bel_trans ?_ (by with_reducible assumption)))))⟩
/-- What is left behind a region's rows. -/
def szR (m : Int) (n : Nat) : Int := if m < (n : Int) then -1 else m - n
theorem szRegion_l (W : Int) (A : Option Addr) (n c : Nat) (m : Int) (w : World) (hn : n ≤ maxLen) (h0 : 0 ≤ m) (h1 : m ≤ 1048576) :
    Calls Tryz.prog 5 #[.agg #[.int .i64 W, .slice A n c], .int .i64 m] w (Ret w (.int .i64 (szR m n))) := by
  by_cases hlt : m < (n : Int)
  · have HV : Hid (szR m n = -1) := if_pos hlt
    go_enter Tryz.func5, Tryz.ntmps5
    go_wp2_with fail
    refine (szIntS_l A n c m _ hn h0 h1).mono ?_
    rw [if_pos hlt]
    rintro e w1 ⟨rfl, hb1⟩
    go_wp2_with fail
    go_ret
    exact ⟨by rw [HV.out]; rfl, (by (repeat (first | with_reducible exact Below.refl _ _ | with_reducible assumption | with_reducible apply bel_alloc | with_reducible apply bel_drew | with_reducible apply bel_drewN | ((with_reducible refine bel_set ?_ ?_); rotate_left; (simp <;> omega)) | (with_reducible refine bel_trans ?_ (by with_reducible assumption)))))⟩
  · have HV : Hid (szR m n = m - n) := if_neg hlt
    have hd : ¬ m - (n : Int) < 0 := by omega
    go_enter Tryz.func5, Tryz.ntmps5
    go_wp2_with fail
    refine (szIntS_l A n c m _ hn h0 h1).mono ?_
    rw [if_neg (by omega)]
    rintro e w1 ⟨rfl, hb1⟩
    go_wp2_with fail
    go_ret
    exact ⟨by rw [HV.out]; rfl, (by (repeat (first | with_reducible exact Below.refl _ _ | with_reducible assumption | with_reducible apply bel_alloc | with_reducible apply bel_drew | with_reducible apply bel_drewN | ((with_reducible refine bel_set ?_ ?_); rotate_left; (simp <;> omega)) | (with_reducible refine bel_trans ?_ (by with_reducible assumption)))))⟩
/-- A result that is a region whose rows are the call's own. -/
def RetR (w : World) (W : Int) (rows : List Int) (e : Ending) (w' : World) : Prop :=
  ∃ A n c, e = .returned (.agg #[.int .i64 W, .slice A n c]) ∧ w'.ownsRow w.heap.size 3 1 (.slice A n c) n (vI rows) ∧ Below w.heap.size w w'
theorem toRegion_l (W : Int) (A : Option Addr) (n c : Nat) (rows : List Int) (w : World) (hr : Rd w A (vI rows)) (hl : rows.length = n) (hn : n ≤ 1048576) :
    Calls Tryz.prog 8 #[.agg #[.int .i64 W, .slice A n c]] w (RetR w W rows) := by
  have HL := Lib.hid hl
  clear hl
  go_enter Tryz.func8, Tryz.ntmps8
  go_wp2_with fail
  refine (toIntS_l _ _ _ rows _ (hr.below (by (repeat (first | with_reducible exact Below.refl _ _ | with_reducible assumption | with_reducible apply bel_alloc | with_reducible apply bel_drew | with_reducible apply bel_drewN | ((with_reducible refine bel_set ?_ ?_); rotate_left; (simp <;> omega)) | (with_reducible refine bel_trans ?_ (by with_reducible assumption)))))) HL.out hn).mono ?_
  rintro e w1 ⟨B, q, cq, rfl, ho, hb1⟩
  obtain rfl : q = n := (own_nI ho).symm.trans HL.out
  have hsz := hb1.size
  simp only [World.size_alloc] at hsz
  have hB2 : Blk w1 (w.heap.size + 1 + 1) 29 #[.int .i64 W, .slice none 0 0] := Blk.below (by simpa using Blk.new ((w.alloc (Obj.cells #[Value.int IntKind.i64 W, Value.slice A q c] 24)).alloc (Obj.cells #[Value.int IntKind.i64 0, Value.slice none 0 0] 29)) 29 #[.int .i64 W, .slice none 0 0]) hb1
  have hB1 : Blk w1 (w.heap.size + 1) 29 #[.int .i64 0, .slice none 0 0] := Blk.below (Blk.alloc (by simpa using Blk.new (w.alloc (Obj.cells #[Value.int IntKind.i64 W, Value.slice A q c] 24)) 29 #[.int .i64 0, .slice none 0 0]) _) hb1
  have c20 : w1.cell? ⟨w.heap.size + 1 + 1, 0, none⟩ = some (.int .i64 W) := by simpa using hB2.cell 0
  have c21 : w1.cell? ⟨w.heap.size + 1 + 1, 1, none⟩ = some (.slice none 0 0) := by simpa using hB2.cell 1
  have c10 : w1.cell? ⟨w.heap.size + 1, 0, none⟩ = some (.int .i64 0) := by simpa using hB1.cell 0
  have c11 : w1.cell? ⟨w.heap.size + 1, 1, none⟩ = some (.slice none 0 0) := by simpa using hB1.cell 1
  have z20 := hB2.frozen 0
  have z21 := hB2.frozen 1
  have z10 := hB1.frozen 0
  have z11 := hB1.frozen 1
  have HO := Lib.hid ho
  have hD := (hB1.far (p := ⟨w.heap.size + 1 + 1, 1, none⟩) (by simp) (.slice B q cq)).set_ 0 (.int .i64 W)
  have e0 : ((w1.setCell ⟨w.heap.size + 1 + 1, 1, none⟩ (.slice B q cq)).setCell ⟨w.heap.size + 1, 0, none⟩ (.int .i64 W)).cell? ⟨w.heap.size + 1, 0, none⟩ = some (.int .i64 W) := by simpa using hD.cell 0
  have e1 : (((w1.setCell ⟨w.heap.size + 1 + 1, 1, none⟩ (.slice B q cq)).setCell ⟨w.heap.size + 1, 0, none⟩ (.int .i64 W)).setCell ⟨w.heap.size + 1, 1, none⟩ (.slice B q cq)).cell? ⟨w.heap.size + 1, 1, none⟩ = some (.slice B q cq) := by simpa using (hD.set_ 1 (.slice B q cq)).cell 1
  have E0 := Lib.hid e0
  have E1 := Lib.hid e1
  clear hB1 hB2 ho hD e0 e1
  go_wp2_with fail
  have e0 := E0.out
  have e1 := E1.out
  have ne : ∀ g, ob B = some g → g ≠ w.heap.size + 1 + 1 ∧ g ≠ w.heap.size + 1 := fun g e => by have := (own_lt HO.out g e).1; simp at this; omega
  exact bodyPost_ret (v := .agg #[.int .i64 W, .slice B q cq]) (by simp [results, Tryz.results8, go_sem, e0, e1]) rfl
    ⟨_, _, _, rfl, own_far (own_far (own_far (own_base HO.out (by simp; omega)) _ fun g e => (ne g e).1) _ fun g e => (ne g e).2) _ fun g e => (ne g e).2, (by (repeat (first | with_reducible exact Below.refl _ _ | with_reducible assumption | with_reducible apply bel_alloc | with_reducible apply bel_drew | with_reducible apply bel_drewN | ((with_reducible refine bel_set ?_ ?_); rotate_left; (simp <;> omega)) | (with_reducible refine bel_trans ?_ (by with_reducible assumption)))))⟩
theorem eqRegion_t (W : Int) (A A2 : Option Addr) (n c n2 c2 : Nat) (rows : List Int) (w : World) (hr : Rd w A (vI rows)) (hr2 : Rd w A2 (vI rows)) (hl : rows.length = n) (hl2 : rows.length = n2) (hn : n ≤ 1048576) :
    Calls Tryz.prog 11 #[.agg #[.int .i64 W, .slice A n c], .agg #[.int .i64 W, .slice A2 n2 c2]] w (Ret w (.bool true)) := by
  have HL := Lib.hid hl
  have HL2 := Lib.hid hl2
  clear hl hl2
  go_enter Tryz.func11, Tryz.ntmps11
  go_wp2_with fail
  refine (eqIntS_t _ _ _ _ _ _ rows _ (hr.below (by (repeat (first | with_reducible exact Below.refl _ _ | with_reducible assumption | with_reducible apply bel_alloc | with_reducible apply bel_drew | with_reducible apply bel_drewN | ((with_reducible refine bel_set ?_ ?_); rotate_left; (simp <;> omega)) | (with_reducible refine bel_trans ?_ (by with_reducible assumption)))))) (hr2.below (by (repeat (first | with_reducible exact Below.refl _ _ | with_reducible assumption | with_reducible apply bel_alloc | with_reducible apply bel_drew | with_reducible apply bel_drewN | ((with_reducible refine bel_set ?_ ?_); rotate_left; (simp <;> omega)) | (with_reducible refine bel_trans ?_ (by with_reducible assumption)))))) HL.out HL2.out (by omega)).mono ?_
  rintro e w1 ⟨rfl, hb1⟩
  go_wp2_with fail
  go_ret
  exact ⟨rfl, (by (repeat (first | with_reducible exact Below.refl _ _ | with_reducible assumption | with_reducible apply bel_alloc | with_reducible apply bel_drew | with_reducible apply bel_drewN | ((with_reducible refine bel_set ?_ ?_); rotate_left; (simp <;> omega)) | (with_reducible refine bel_trans ?_ (by with_reducible assumption)))))⟩
end Go.Proofs.YtoedmmhiinhljaaGreatDoor

/- An argument that is a slice of cells, opened. -/
namespace Go.Proofs.YtoedmmhiinhljaaGreatDoor
open Go.RowKit Go.ChangeShapes Go.WideShapes Go.Deep
set_option linter.unusedVariables false
section
variable {H : Type} {enc : TypeId × Value → H} {P : Program} {w : World} {base : Nat} {spare : Nat → Bool} {held : Bool}
theorem open_slice_fields {t e : TypeId} {fs : Array Field} {fuel : Nat} {cs : List Value} {x : DataW H × List MemPlace} (ht : P.underlying t = some (.slice e)) (he : P.underlying e = some (.struct fs))
    (hone : oneCellFields P fs = true) (hC : P.cellsOf e = fs.size) (h : DataW.trod enc P w base spare held fuel t cs = some x) :
    (cs = [.slice none 0 0] ∧ x = (.nil, [])) ∨
    ∃ (a : Addr) (len cap m : Nat) (D : Nat → DataW H) (Pl : Nat → List MemPlace), cs = [.slice (some a) len cap] ∧ base ≤ a.block ∧ len ≤ cap ∧ cap ≤ maxLen ∧ m = (if spare a.block then cap else len) ∧
      x = (.slice ((List.range len).map D) ((List.range (m - len)).map fun j => D (len + j)), MemPlace.row a (m * fs.size) ++ (List.range m).flatMap Pl) ∧
      ∀ i, i < m → ∃ (ys : List (DataW H × List MemPlace)) (n : Nat), D i = .agg (ys.map (·.1)) ∧ Pl i = ys.flatMap (·.2) ∧ ys.length = fs.size ∧
        ∀ (j : Nat) (f : Field), fs[j]? = some f → ∃ (v : Value) (y : DataW H × List MemPlace), w.cell? (a.add (i * fs.size + j)) = some v ∧ ys[j]? = some y ∧ DataW.trod enc P w base spare held n f.type [v] = some y := by
  rcases open_slice ht h with h0 | ⟨a, len, cap, m, n, D, Pl, hcs, hb, hl, hm, hmm, hx, hi⟩
  · exact .inl h0
  · refine .inr ⟨a, len, cap, m, D, Pl, hcs, hb, hl, hm, hmm, by rw [hC] at hx; exact hx, fun i him => ?_⟩
    obtain ⟨cs', hc, ht'⟩ := hi i him
    rw [hC] at hc
    obtain ⟨ys, n', hn', hy, hlen, hyl, hf⟩ := DataW.trod_struct he ht'
    obtain ⟨_, hcl, hat⟩ := World.cells?_some hc
    simp only [Prod.mk.injEq] at hy
    refine ⟨ys, n', hy.1, hy.2, hyl, fun j f hj => ?_⟩
    obtain ⟨ho, hk⟩ := hone_of hone j f hj
    have hjl : j < fs.size := (Array.getElem?_eq_some_iff.1 hj).1
    have hcell := hat j hjl
    have hv : cs'[j]? = some (cs'[j]'(by omega)) := List.getElem?_eq_getElem (by omega)
    have h1 := hf j f hj
    rw [ho, hk] at h1
    have hone' : (cs'.drop j).take 1 = [cs'[j]'(by omega)] := by
      rw [List.drop_eq_getElem_cons (by omega)]
      rfl
    rw [hone'] at h1
    have hys : ys[j]? = some (ys[j]'(by omega)) := List.getElem?_eq_getElem (by omega)
    refine ⟨_, _, ?_, hys, h1.trans hys⟩
    rw [← Go.Deep.add_add, hcell, hv]
end
theorem cellsLC : Tryz.prog.cellsOf 68 = 2 := by kernel_rfl

section
variable {H : Type} {enc : TypeId × Value → H}
set_option maxRecDepth 100000 in
theorem openC_core {W : World} {base : Nat} {spare : Nat → Bool} {held : Bool} {fuel : Nat} {v : Value} {x : DataW H × List MemPlace} (hf : DataW.trod enc Tryz.prog W base spare held fuel 40 [v] = some x) :
    ∃ A n c xs, v = .slice A n c ∧ Rd W A (vC xs) ∧ xs.length = n ∧ n ≤ maxLen := by
  rcases open_slice_fields Tryz.underlying40 Tryz.underlying68 (by kernel_rfl) cellsLC hf with ⟨hcs, hx⟩ | ⟨a, len, cap', m, D, Pl, hcs, _, hl, hm, hmm, hx, hfe⟩
  · injection hcs with hcs
    exact ⟨none, 0, 0, [], hcs, .inl rfl, rfl, Nat.zero_le _⟩
  · injection hcs with hcs
    subst hcs
    have hml : len ≤ m := by rw [hmm]; split <;> omega
    have hone : ∀ i, i < len → ∃ q : C, W.cell? (a.add (i * 2)) = some (.int .i64 q.1) ∧ W.cell? (a.add (i * 2 + 1)) = some (.int .i64 q.2) := by
      intro i hi
      obtain ⟨ys, n, _, _, _, hfi⟩ := hfe i (by omega)
      obtain ⟨v0, y0, hc0, _, ht0⟩ := hfi 0 _ rfl
      obtain ⟨v1, y1, hc1, _, ht1⟩ := hfi 1 _ rfl
      obtain ⟨x, e0, _, _⟩ := DataW.trod_int Tryz.underlying3 ht0
      obtain ⟨y, e1, _, _⟩ := DataW.trod_int Tryz.underlying3 ht1
      simp at e0 e1
      subst e0 e1
      exact ⟨(x, y), hc0, hc1⟩
    have hlist : ∀ k, k ≤ len → ∃ xs : List C, xs.length = k ∧ ∀ i (h : i < xs.length), W.cell? (a.add (i * 2)) = some (.int .i64 xs[i].1) ∧ W.cell? (a.add (i * 2 + 1)) = some (.int .i64 xs[i].2) := by
      intro k
      induction k with
      | zero => intro _; exact ⟨[], rfl, fun i h => by simp at h⟩
      | succ k ih =>
        intro hk
        obtain ⟨xs, hxl, hxs⟩ := ih (by omega)
        obtain ⟨q, hq⟩ := hone k (by omega)
        refine ⟨xs ++ [q], by simp [hxl], fun i h => ?_⟩
        by_cases hi : i < xs.length
        · simp only [List.getElem_append_left hi]; exact hxs i hi
        · have : i = k := by simp at h; omega
          subst this
          simp only [List.getElem_append_right (by omega : xs.length ≤ i), hxl, Nat.sub_self, List.getElem_cons_zero]
          exact hq
    obtain ⟨xs, hxl, hxs⟩ := hlist len (Nat.le_refl _)
    refine ⟨_, _, _, xs, rfl, ?_, hxl, by omega⟩
    by_cases h0 : 0 < xs.length
    · obtain ⟨b, off, spot⟩ := a
      have hsp : spot = none := by simpa [Addr.add] using World.cell?_spot (hxs 0 h0).1
      subst hsp
      refine .inr ⟨b, off, rfl, fun j u hu => ?_⟩
      have hj : j < xs.length * 2 := by
        rcases Nat.lt_or_ge j (xs.length * 2) with h | h
        · exact h
        · rw [List.getElem?_eq_none (by rw [vC_length]; omega)] at hu; cases hu
      have e : ∀ n, (⟨b, off, none⟩ : Addr).add n = ⟨b, off + n, none⟩ := by intro n; unfold Addr.add; split <;> simp_all
      obtain ⟨h1, h2⟩ := hxs (j / 2) (by omega)
      rw [e] at h1 h2
      rcases (by omega : j = j / 2 * 2 ∨ j = j / 2 * 2 + 1) with hj2 | hj2
      · rw [hj2, vC_get1 xs (j / 2) (by omega)] at hu
        rw [hj2, ← hu]; exact h1
      · rw [hj2, vC_get2 xs (j / 2) (by omega)] at hu
        rw [hj2, ← hu]; exact h2
    · left
      rw [List.eq_nil_of_length_eq_zero (by omega : xs.length = 0)]
      rfl
set_option maxRecDepth 100000 in
theorem openC {W : World} {r : Reach} {b0 : Nat} {base : Nat} {spare : Nat → Bool} {held : Bool} {v : Value} {d : DataW H} {p : List MemPlace} (hv : Value.okWide Tryz.prog W r b0 40 v) (h : DataW.Trod enc Tryz.prog W base spare held 40 v d p) :
    ∃ A n c xs, v = .slice A n c ∧ Rd W A (vC xs) ∧ xs.length = n ∧ n ≤ maxLen := by
  obtain ⟨a0, len, cap, rfl⟩ := okWide_slice Tryz.underlying40 hv
  obtain ⟨fuel, hf⟩ := h
  exact openC_core (v := .slice a0 len cap) (by simpa [Value.cells] using hf)
end
end Go.Proofs.YtoedmmhiinhljaaGreatDoor

/- Slices of slices of cells: read, opened. -/
namespace Go.Proofs.YtoedmmhiinhljaaGreatDoor
open Go.RowKit Go.ChangeShapes Go.WideShapes Go.Deep
set_option linter.unusedVariables false
theorem cellsLCS : Tryz.prog.cellsOf 40 = 1 := by kernel_rfl
section
variable {H' : Type} {enc : TypeId × Value → H'}
set_option maxRecDepth 100000 in
theorem openP {W : World} {r : Reach} {b0 : Nat} {base : Nat} {spare : Nat → Bool} {held : Bool} {v : Value} {d : DataW H'} {p : List MemPlace} (hv : Value.okWide Tryz.prog W r b0 25 v) (h : DataW.Trod enc Tryz.prog W base spare held 25 v d p) :
    ∃ A n c xs, v = .slice A n c ∧ (∃ hs, RdP W A n hs xs ∧ ∀ x ∈ hs, x.2.1 ≤ maxLen) ∧ xs.length = n ∧ n ≤ maxLen := by
  obtain ⟨a0, len, cap, rfl⟩ := okWide_slice Tryz.underlying25 hv
  obtain ⟨fuel, hf⟩ := h
  rcases open_slice1 Tryz.underlying25 cellsLCS hf with ⟨hcs, hx⟩ | ⟨a, len', cap', m, n, V, D, Pl, hcs, _, hl, hm, hmm, hx, hi⟩
  · simp [Value.cells] at hcs
    obtain ⟨rfl, rfl, rfl⟩ := hcs
    exact ⟨none, 0, 0, [], rfl, ⟨[], RdP.nil W, by simp⟩, rfl, Nat.zero_le _⟩
  · simp [Value.cells] at hcs
    obtain ⟨rfl, rfl, rfl⟩ := hcs
    have hml : len ≤ m := by rw [hmm]; split <;> omega
    have hlist : ∀ k, k ≤ len → ∃ (hs : List H) (F : List (List C)), hs.length = k ∧ F.length = k ∧ (∀ x ∈ hs, x.2.1 ≤ maxLen) ∧ (∀ i (h : i < hs.length), W.cell? (a.add i) = some (hd hs[i])) ∧ ∀ i (h1 : i < hs.length) (h2 : i < F.length), F[i].length = hs[i].2.1 ∧ Rd W hs[i].1 (vC F[i]) := by
      intro k
      induction k with
      | zero => intro _; exact ⟨[], [], rfl, rfl, by simp, fun i h => by simp at h, fun i h => by simp at h⟩
      | succ k ih =>
        intro hk
        obtain ⟨hs, F, hl1, hl2, hq0, hq1, hq2⟩ := ih (by omega)
        obtain ⟨hc, ht⟩ := hi k (by omega)
        obtain ⟨A, n', c', xs, hV, hrd, hxl, hnm⟩ := openC_core ht
        refine ⟨hs ++ [(A, n', c')], F ++ [xs], by simp [hl1], by simp [hl2], fun x hx => ?_, fun i h => ?_, fun i h1 h2 => ?_⟩
        · rcases List.mem_append.1 hx with hx | hx
          · exact hq0 x hx
          · simp only [List.mem_singleton] at hx; subst hx; exact hnm
        · by_cases hi : i < hs.length
          · simp only [List.getElem_append_left hi]; exact hq1 i hi
          · have : i = k := by simp at h; omega
            subst this
            simp only [List.getElem_append_right (by omega : hs.length ≤ i), hl1, Nat.sub_self, List.getElem_cons_zero]
            rw [hc, hV]; rfl
        · by_cases hi : i < hs.length
          · simp only [List.getElem_append_left hi, List.getElem_append_left (by omega : i < F.length)]; exact hq2 i hi (by omega)
          · have : i = k := by simp at h1; omega
            subst this
            simp only [List.getElem_append_right (by omega : hs.length ≤ i), hl1, Nat.sub_self, List.getElem_cons_zero, List.getElem_append_right (by omega : F.length ≤ i), hl2]
            exact ⟨hxl, hrd⟩
    obtain ⟨hs, F, hl1, hl2, hq0, hq1, hq2⟩ := hlist len (Nat.le_refl _)
    refine ⟨_, _, _, F, rfl, ⟨hs, ⟨?_, hl1, hl2, hq2⟩, hq0⟩, hl2, by omega⟩
    by_cases h0 : 0 < hs.length
    · obtain ⟨b, off, spot⟩ := a
      have hsp : spot = none := by simpa [Addr.add] using World.cell?_spot (hq1 0 h0)
      subst hsp
      refine .inr ⟨b, off, rfl, fun j u hu => ?_⟩
      have e : ∀ n, (⟨b, off, none⟩ : Addr).add n = ⟨b, off + n, none⟩ := by intro n; unfold Addr.add; split <;> simp_all
      simp only [vS, List.getElem?_map, Option.map_eq_some_iff] at hu
      obtain ⟨y, hy, rfl⟩ := hu
      obtain ⟨hj, rfl⟩ := List.getElem?_eq_some_iff.1 hy
      have := hq1 j hj
      rw [e] at this
      exact this
    · left
      rw [List.eq_nil_of_length_eq_zero (by omega : hs.length = 0)]
      rfl
end
end Go.Proofs.YtoedmmhiinhljaaGreatDoor

/- The laws' own functions on cells and slices of cells: sizes, copying, comparing. -/
namespace Go.Proofs.YtoedmmhiinhljaaGreatDoor
open Go.RowKit
set_option linter.unusedVariables false
attribute [local go_sem ↓] Go.wp_at_zero Go.wp_at_succ


theorem szCellS_l (A : Option Addr) (n c : Nat) (m : Int) (w : World) (hm : n ≤ maxLen) (h0 : 0 ≤ m) (h1 : m ≤ 1048576) :
    Calls Tryz.prog 16 #[.slice A n c, .int .i64 m] w (Ret w (.int .i64 (if m < (n : Int) then -1 else m - n))) := by
  unfold maxLen at hm
  by_cases h : m < (n : Int)
  · have hlt : m - (n : Int) < 0 := by omega
    go_enter Tryz.func16, Tryz.ntmps16
    go_wp2
    go_ret
    exact ⟨rfl, (by (repeat (first | with_reducible exact Below.refl _ _ | with_reducible assumption | with_reducible apply bel_alloc | with_reducible apply bel_drew | with_reducible apply bel_drewN | ((with_reducible refine bel_set ?_ ?_); rotate_left; (simp <;> omega)) | (with_reducible refine bel_trans ?_ (by with_reducible assumption)))))⟩
  · have hlt : ¬ m - (n : Int) < 0 := by omega
    go_enter Tryz.func16, Tryz.ntmps16
    go_wp2
    go_ret
    exact ⟨rfl, (by (repeat (first | with_reducible exact Below.refl _ _ | with_reducible assumption | with_reducible apply bel_alloc | with_reducible apply bel_drew | with_reducible apply bel_drewN | ((with_reducible refine bel_set ?_ ?_); rotate_left; (simp <;> omega)) | (with_reducible refine bel_trans ?_ (by with_reducible assumption)))))⟩

theorem toCell_l (a b : Int) (w : World) : Calls Tryz.prog 43 #[.agg #[.int .i64 a, .int .i64 b]] w (Ret w (.agg #[.int .i64 a, .int .i64 b])) := by
  go_enter Tryz.func43, Tryz.ntmps43
  go_wp2
  exact bodyPost_ret (v := .agg #[.int .i64 a, .int .i64 b]) (by simp [results, Tryz.results43, go_sem]) rfl ⟨rfl, (by (repeat (first | with_reducible exact Below.refl _ _ | with_reducible assumption | with_reducible apply bel_alloc | with_reducible apply bel_drew | with_reducible apply bel_drewN | ((with_reducible refine bel_set ?_ ?_); rotate_left; (simp <;> omega)) | (with_reducible refine bel_trans ?_ (by with_reducible assumption)))))⟩

theorem toCellS_l (A : Option Addr) (n c : Nat) (xs : List C) (w : World) (hr : Rd w A (vC xs)) (hl : xs.length = n) (hn : n ≤ 1048576) :
    Calls Tryz.prog 25 #[.slice A n c] w (RetS w 66 2 (vC xs)) := by
  have hmk := mk_C w n hn
  go_enter Tryz.func25, Tryz.ntmps25
  go_wp2
  go_loopw [4] (fun i wr => ∃ k : Nat, k ≤ n ∧ i = .int .i64 k ∧ Blk wr w.heap.size 66 (vC (xs.take k ++ List.replicate (xs.length - k) (0, 0))).toArray ∧ Below w.heap.size w wr) (fun i _ => n - (intOf i).toNat)
  case atStart => exact ⟨0, Nat.zero_le _, rfl, by rw [hl]; exact Blk.new _ _ _, (by (repeat (first | with_reducible exact Below.refl _ _ | with_reducible assumption | with_reducible apply bel_alloc | with_reducible apply bel_drew | with_reducible apply bel_drewN | ((with_reducible refine bel_set ?_ ?_); rotate_left; (simp <;> omega)) | (with_reducible refine bel_trans ?_ (by with_reducible assumption)))))⟩
  case round =>
    obtain ⟨k, hk, rfl, hB, hb⟩ := hrel
    clear hmk
    by_cases hlt : k < n
    · have hkx : k < xs.length := by omega
      obtain ⟨g, off, rfl, hgn, c0, c0'⟩ := RdC.at_ hr hkx
      have c1 := keep_below hb c0
      have c2 := keep_below hb c0'
      clear c0 c0'
      have hgl := hB.lt
      have hfl : k < (xs.take k ++ List.replicate (xs.length - k) ((0, 0) : C)).length := by rw [fill_len _ _ _ (by omega)]; omega
      have hst := fill_step xs (0, 0) k hkx
      obtain ⟨⟨a, b⟩, hx⟩ : ∃ p, xs[k] = p := ⟨_, rfl⟩
      rw [hx] at hst c1 c2
      have HST := Lib.hid hst
      have HB := Lib.hid hB
      have HFL := Lib.hid hfl
      clear hst hx hB hfl hl
      go_wp2_with (go_at_call 43; refine (toCell_l _ _ _).mono ?_; rintro e w1 ⟨rfl, hb1⟩; have hB1 := HB.out.below hb1; obtain ⟨d1, d2⟩ := blkC_cell hB1 HFL.out; have f1 := hB1.frozen (k * 2); have f2 := hB1.frozen (k * 2 + 1); have hs := blkC_set hB1 k a b; rw [HST.out] at hs; have HS := Lib.hid hs; clear hB1 hs)
      exact ⟨⟨k + 1, by omega, by go_num, HS.out, (by (repeat (first | with_reducible exact Below.refl _ _ | with_reducible assumption | with_reducible apply bel_alloc | with_reducible apply bel_drew | with_reducible apply bel_drewN | ((with_reducible refine bel_set ?_ ?_); rotate_left; (simp <;> omega)) | (with_reducible refine bel_trans ?_ (by with_reducible assumption)))))⟩, by simp [intOf]; omega⟩
    · have hkk : k = n := by omega
      subst hkk
      have ho := own_blk hB (size := 2) (n := k) (by simp [vC_length, ← hl]) (Nat.le_refl _) (by unfold maxLen; omega)
      rw [← hl, fill_end] at ho
      have HO := Lib.hid ho
      have HL := Lib.hid hl
      clear ho hB hl
      go_wp2
      go_ret
      exact ⟨_, _, _, rfl, by have h := HO.out; rw [HL.out] at h; simpa using h, hb⟩

theorem eqCell_l (a b c d : Int) (r : Bool) (h : r = (a == c && b == d)) (w : World) : Calls Tryz.prog 54 #[.agg #[.int .i64 a, .int .i64 b], .agg #[.int .i64 c, .int .i64 d]] w (Ret w (.bool r)) := by
  by_cases h1 : a = c
  · by_cases h2 : b = d
    · have HV : Hid (r = true) := by rw [h]; simp [h1, h2, Hid]
      clear h
      subst h1 h2
      go_enter Tryz.func54, Tryz.ntmps54
      go_wp2
      go_ret
      exact ⟨by rw [HV.out]; rfl, (by (repeat (first | with_reducible exact Below.refl _ _ | with_reducible assumption | with_reducible apply bel_alloc | with_reducible apply bel_drew | with_reducible apply bel_drewN | ((with_reducible refine bel_set ?_ ?_); rotate_left; (simp <;> omega)) | (with_reducible refine bel_trans ?_ (by with_reducible assumption)))))⟩
    · have HV : Hid (r = false) := by rw [h]; simp [h2, Hid]
      have e2 : (b == d) = false := by simp [h2]
      clear h h2
      subst h1
      go_enter Tryz.func54, Tryz.ntmps54
      go_wp2
      go_ret
      exact ⟨by rw [HV.out]; rfl, (by (repeat (first | with_reducible exact Below.refl _ _ | with_reducible assumption | with_reducible apply bel_alloc | with_reducible apply bel_drew | with_reducible apply bel_drewN | ((with_reducible refine bel_set ?_ ?_); rotate_left; (simp <;> omega)) | (with_reducible refine bel_trans ?_ (by with_reducible assumption)))))⟩
  · have HV : Hid (r = false) := by rw [h]; simp [h1, Hid]
    have e2 : (a == c) = false := by simp [h1]
    clear h h1
    go_enter Tryz.func54, Tryz.ntmps54
    go_wp2
    go_ret
    exact ⟨by rw [HV.out]; rfl, (by (repeat (first | with_reducible exact Below.refl _ _ | with_reducible assumption | with_reducible apply bel_alloc | with_reducible apply bel_drew | with_reducible apply bel_drewN | ((with_reducible refine bel_set ?_ ?_); rotate_left; (simp <;> omega)) | (with_reducible refine bel_trans ?_ (by with_reducible assumption)))))⟩

theorem eqCellS_t (A A2 : Option Addr) (n c n2 c2 : Nat) (xs : List C) (w : World) (hr : Rd w A (vC xs)) (hr2 : Rd w A2 (vC xs)) (hl : xs.length = n) (hl2 : xs.length = n2) (hn : n ≤ 1099511627776) :
    Calls Tryz.prog 34 #[.slice A n c, .slice A2 n2 c2] w (Ret w (.bool true)) := by
  obtain rfl : n = n2 := hl.symm.trans hl2
  have HL := Lib.hid hl
  clear hl hl2
  go_enter Tryz.func34, Tryz.ntmps34
  go_wp2
  go_loopw [5] (fun i wr => ∃ k : Nat, k ≤ n ∧ i = .int .i64 k ∧ Below w.heap.size w wr) (fun i _ => n - (intOf i).toNat)
  case atStart => exact ⟨0, Nat.zero_le _, rfl, Below.refl _ _⟩
  case round =>
    obtain ⟨k, hk, rfl, hb⟩ := hrel
    by_cases hlt : k < n
    · have hkx : k < xs.length := by rw [HL.out]; omega
      obtain ⟨g, off, rfl, hgw, c1, c1'⟩ := RdC.at_ (hr.below hb) hkx
      obtain ⟨g2, off2, rfl, hgw2, d1, d1'⟩ := RdC.at_ (hr2.below hb) hkx
      obtain ⟨⟨a, b⟩, hx⟩ : ∃ p, xs[k] = p := ⟨_, rfl⟩
      rw [hx] at c1 c1' d1 d1'
      have hi0 : (0 : Int) ≤ (k : Int) := by omega
      have hi1 : (k : Int) < (n : Int) := by omega
      have he : true = (a == a && b == b) := by simp
      have HE := Lib.hid he
      clear hx he
      go_wp2_with fail
      go_region_held3 (fun w' => w'.cell? ⟨g, off + k * 2, none⟩ = some (.int .i64 a) ∧ w'.cell? ⟨g, off + k * 2 + 1, none⟩ = some (.int .i64 b) ∧ w'.cell? ⟨g2, off2 + k * 2, none⟩ = some (.int .i64 a) ∧ w'.cell? ⟨g2, off2 + k * 2 + 1, none⟩ = some (.int .i64 b))
        ((go_split_ands; (try dsimp only); (repeat' (with_reducible apply And.intro)) <;> (repeat (first | with_reducible assumption | with_reducible apply keep_alloc | with_reducible apply keep_drew | with_reducible refine keep_below hb1 ?_ | ((with_reducible refine keep_set ?_ ?_); rotate_left; (simp <;> omega)))))) (first | (go_at_call 54; refine (eqCell_l _ _ _ _ _ HE.out _).mono ?_; rintro e w1 ⟨rfl, hb1⟩))
      go_wp2
      exact ⟨⟨k + 1, by omega, by go_num, (by (repeat (first | with_reducible exact Below.refl _ _ | with_reducible assumption | with_reducible apply bel_alloc | with_reducible apply bel_drew | with_reducible apply bel_drewN | ((with_reducible refine bel_set ?_ ?_); rotate_left; (simp <;> omega)) | (with_reducible refine bel_trans ?_ (by with_reducible assumption)))))⟩, by simp [intOf]; omega⟩
    · have hkk : k = n := by omega
      subst hkk
      go_wp2
      go_ret
      exact ⟨rfl, hb⟩
end Go.Proofs.YtoedmmhiinhljaaGreatDoor

/- The laws' own functions on slices of slices of cells. -/
namespace Go.Proofs.YtoedmmhiinhljaaGreatDoor
open Go.RowKit
set_option linter.unusedVariables false
attribute [local go_sem ↓] Go.wp_at_zero Go.wp_at_succ
/-- What is left behind some rows. -/
def szRows : Int → List (List C) → Int
  | m, [] => m
  | m, f :: t => if m < (f.length : Int) then -1 else szRows (m - f.length) t
theorem szRows_ok : ∀ (m : Int) (F : List (List C)), 0 ≤ szRows m F → (totC F : Int) ≤ m
  | m, [], h => by simpa [totC, szRows] using h
  | m, f :: t, h => by
    unfold szRows at h
    split at h
    · omega
    · have := szRows_ok _ _ h
      simp only [totC, List.map_cons, List.sum_cons] at this ⊢
      omega
theorem szRows_step {m : Int} {F : List (List C)} {k : Nat} {f : List C} (h : F[k]? = some f) : szRows m (F.drop k) = if m < (f.length : Int) then -1 else szRows (m - f.length) (F.drop (k + 1)) := by
  obtain ⟨hk, rfl⟩ := List.getElem?_eq_some_iff.1 h
  rw [List.drop_eq_getElem_cons hk]
  rfl
def szP (m : Int) (n : Nat) (F : List (List C)) : Int := if m < (n : Int) then -1 else szRows (m - n) F
set_option maxHeartbeats 800000 in
theorem szCellSS_l (A : Option Addr) (n c : Nat) (m : Int) (hs : List H) (F : List (List C)) (w : World) (h : RdP w A n hs F) (hx : ∀ x ∈ hs, x.2.1 ≤ maxLen) (hm : n ≤ maxLen) (h0 : 0 ≤ m) (h1 : m ≤ 1048576) :
    Calls Tryz.prog 6 #[.slice A n c, .int .i64 m] w (Ret w (.int .i64 (szP m n F))) := by
  unfold maxLen at hm
  have HP := Lib.hid h
  have HX := Lib.hid hx
  clear h hx
  by_cases hlt : m < (n : Int)
  · have hn : m - (n : Int) < 0 := by omega
    have HV := Lib.hid (show szP m n F = -1 from if_pos hlt)
    go_enter Tryz.func6, Tryz.ntmps6
    go_wp2
    go_ret
    exact ⟨by rw [HV.out]; rfl, (by (repeat (first | with_reducible exact Below.refl _ _ | with_reducible assumption | with_reducible apply bel_alloc | with_reducible apply bel_drew | with_reducible apply bel_drewN | ((with_reducible refine bel_set ?_ ?_); rotate_left; (simp <;> omega)) | (with_reducible refine bel_trans ?_ (by with_reducible assumption)))))⟩
  · have hn : ¬ m - (n : Int) < 0 := by omega
    have HV := Lib.hid (show szP m n F = szRows (m - n) F from if_neg hlt)
    go_enter Tryz.func6, Tryz.ntmps6
    go_wp2
    go_loopw [1, 5] (fun t i wr => ∃ (j : Nat) (m' : Int), j ≤ n ∧ i = .int .i64 j ∧ t = .int .i64 m' ∧ 0 ≤ m' ∧ m' ≤ 1048576 ∧ szRows (m - n) F = szRows m' (F.drop j) ∧ Below w.heap.size w wr) (fun _ i _ => n - (intOf i).toNat)
    case atStart => exact ⟨0, m - n, Nat.zero_le _, rfl, rfl, by omega, by omega, by simp, (by (repeat (first | with_reducible exact Below.refl _ _ | with_reducible assumption | with_reducible apply bel_alloc | with_reducible apply bel_drew | with_reducible apply bel_drewN | ((with_reducible refine bel_set ?_ ?_); rotate_left; (simp <;> omega)) | (with_reducible refine bel_trans ?_ (by with_reducible assumption)))))⟩
    case round =>
      obtain ⟨j, m', hj, rfl, rfl, hm0, hm1, hsz, hb⟩ := hrel
      by_cases hjn : j < n
      · have hj0 : (0 : Int) ≤ (j : Int) := by omega
        have hj1 : (j : Int) < (n : Int) := by omega
        obtain ⟨x, f, g, off, hsx, hfx, rfl, hg, c1, hfl, hrd⟩ := (HP.out.below hb).at_ hjn
        have hxm : x.2.1 ≤ maxLen := HX.out x (List.mem_of_getElem? hsx)
        rw [szRows_step hfx, hfl] at hsz
        obtain ⟨B1, m1, k1⟩ := x
        dsimp only at c1 hfl hrd hxm hsz
        have hc := szCellS_l B1 m1 k1 m' wr hxm hm0 hm1
        have HXM := Lib.hid hxm
        by_cases hlt2 : m' < (m1 : Int)
        · rw [if_pos hlt2] at hsz hc
          have HS := Lib.hid hsz
          have HC := Lib.hid hc
          clear hsz hc hsx hfx hfl hrd hxm
          go_wp2_with fail
          refine Calls.mono HC.out ?_
          rintro e w1 ⟨rfl, hb1⟩
          go_wp2_with fail
          go_ret
          exact ⟨by rw [HV.out, HS.out]; rfl, (by (repeat (first | with_reducible exact Below.refl _ _ | with_reducible assumption | with_reducible apply bel_alloc | with_reducible apply bel_drew | with_reducible apply bel_drewN | ((with_reducible refine bel_set ?_ ?_); rotate_left; (simp <;> omega)) | (with_reducible refine bel_trans ?_ (by with_reducible assumption)))))⟩
        · rw [if_neg hlt2] at hsz hc
          have HS := Lib.hid hsz
          have HC := Lib.hid hc
          have hd0 : ¬ m' - (m1 : Int) < 0 := by omega
          clear hsz hc hsx hfx hfl hrd hxm
          go_wp2_with fail
          refine Calls.mono HC.out ?_
          rintro e w1 ⟨rfl, hb1⟩
          go_wp2_with fail
          exact ⟨⟨j + 1, m' - (m1 : Int), by omega, by go_num, rfl, by omega, by omega, HS.out, (by (repeat (first | with_reducible exact Below.refl _ _ | with_reducible assumption | with_reducible apply bel_alloc | with_reducible apply bel_drew | with_reducible apply bel_drewN | ((with_reducible refine bel_set ?_ ?_); rotate_left; (simp <;> omega)) | (with_reducible refine bel_trans ?_ (by with_reducible assumption)))))⟩, by simp [intOf]; omega⟩
      · have hjn2 : j = n := by omega
        subst hjn2
        rw [List.drop_of_length_le (by rw [HP.out.flen]; omega)] at hsz
        have HS := Lib.hid hsz
        have hj1 : ¬ (j : Int) < (j : Int) := by omega
        clear hsz
        go_wp2
        go_ret
        exact ⟨by rw [HV.out, HS.out]; rfl, hb⟩
theorem infoCS : (Tryz.prog.info? 51).map (fun i => (i.zero, i.size, i.bytes)) = some (some (.slice none 0 0), 1, 24) := by kernel_rfl
theorem mk_CS (w : World) (n : Nat) (hn : n ≤ 1048576) : (Instr.makeSlice 31 (.int .i64 (n : Int)) (.int .i64 (n : Int))).run Tryz.prog w = .ok (.slice (some ⟨w.heap.size, 0, none⟩) n n) (w.alloc (.cells (vS (zeS n)).toArray 51)) := by
  obtain ⟨i0, hi, hz0, hz1, hz2⟩ := info_parts infoCS
  have h := run_make (P := Tryz.prog) w 31 51 i0 _ Tryz.underlying31 hi hz0 .i64 .i64 (n : Int) (n : Int) (by omega) (Int.le_refl _) (by rw [hz2]; omega) (by omega)
  rw [h, hz1]
  have e : madeCells (Value.slice none 0 0).cells ((n : Int).toNat * 1) = (vS (zeS n)).toArray := by
    apply Array.ext'
    rw [show (Value.slice none 0 0).cells = #[.slice none 0 0] from rfl, toList_madeCells_one]
    simp [vS, zeS, hd]
  rw [e]
  simp
/-- A result that is a slice of slices of cells. -/
def RetP (w : World) (n : Nat) (F : List (List C)) (e : Ending) (w' : World) : Prop :=
  ∃ A c hs, e = .returned (.slice A n c) ∧ RdP w' A n hs F ∧ Below w.heap.size w w'
set_option maxHeartbeats 800000 in
theorem toCellSS_l (A : Option Addr) (n c : Nat) (hs : List H) (F : List (List C)) (w : World) (h : RdP w A n hs F) (hn : n ≤ 1048576) (hm : totC F ≤ 1048576) :
    Calls Tryz.prog 9 #[.slice A n c] w (RetP w n F) := by
  have hmk := mk_CS w n hn
  have HP := Lib.hid h
  clear h
  go_enter Tryz.func9, Tryz.ntmps9
  go_wp2
  go_loopw [4] (fun i wr => ∃ (k : Nat) (qs : List H), k ≤ n ∧ i = .int .i64 k ∧ qs.length = k ∧ Blk wr w.heap.size 51 (vS (qs ++ zeS (n - k))).toArray ∧ (∀ (i : Nat) (x : H) (f : List C), qs[i]? = some x → F[i]? = some f → f.length = x.2.1 ∧ Rd wr x.1 (vC f) ∧ ∀ g, ob x.1 = some g → w.heap.size < g) ∧ Below w.heap.size w wr) (fun i _ => n - (intOf i).toNat)
  case atStart => exact ⟨0, [], Nat.zero_le _, rfl, rfl, Blk.new _ _ _, fun i x f h => by simp at h, (by (repeat (first | with_reducible exact Below.refl _ _ | with_reducible assumption | with_reducible apply bel_alloc | with_reducible apply bel_drew | with_reducible apply bel_drewN | ((with_reducible refine bel_set ?_ ?_); rotate_left; (simp <;> omega)) | (with_reducible refine bel_trans ?_ (by with_reducible assumption)))))⟩
  case round =>
    clear hmk
    obtain ⟨k, qs, hk, rfl, hql, hB, hq, hb⟩ := hrel
    by_cases hlt : k < n
    · have hk0 : (0 : Int) ≤ (k : Int) := by omega
      have hk1 : (k : Int) < (n : Int) := by omega
      obtain ⟨x, f, g, off, hsx, hfx, rfl, hg, c1, hfl, hrd⟩ := (HP.out.below hb).at_ hlt
      have hfm := totC_row F hfx
      obtain ⟨B1, m1, k1⟩ := x
      dsimp only at c1 hfl hrd
      have hm1 : m1 ≤ 1048576 := by omega
      have hgw := hB.lt
      have HB := Lib.hid hB
      have HQ := Lib.hid hq
      have HQL := Lib.hid hql
      have HFX := Lib.hid hfx
      have HFL := Lib.hid hfl
      have HRD := Lib.hid hrd
      clear hsx hfx hfl hrd hB hq hql hfm
      go_wp2_with fail
      refine (toCellS_l _ _ _ f _ HRD.out HFL.out hm1).mono ?_
      rintro e w1 ⟨D, q, cq, rfl, ho, hb1⟩
      have hqf : q = m1 := by have := own_len ho; rw [vC_length] at this; have := HFL.out; omega
      subst hqf
      have hB1 := HB.out.below hb1
      have hkl : k < (qs ++ zeS (n - k)).length := by rw [List.length_append, zeS_length, HQL.out]; omega
      have d1 := blkS_cell hB1 hkl
      have e4 : (qs ++ zeS (n - k))[k]'hkl = (none, 0, 0) := by
        have := HQL.out
        rw [List.getElem_append_right (by omega)]
        simp [zeS]
      rw [e4] at d1
      dsimp only at d1
      have f1 := hB1.frozen k
      have hst := blkS_set hB1 k D q cq
      have e5 : (qs ++ zeS (n - k)).set k (D, q, cq) = (qs ++ [(D, q, cq)]) ++ zeS (n - (k + 1)) := by
        have := HQL.out
        rw [List.set_append_right _ _ (by omega), this, Nat.sub_self, show n - k = (n - (k + 1)) + 1 from by omega]
        simp [zeS, List.replicate_succ]
      rw [e5] at hst
      have HST := Lib.hid hst
      have HO := Lib.hid ho
      have HB1 := Lib.hid hB1
      have hgw1 : w.heap.size < w1.heap.size := hB1.lt
      clear e4 e5 hst ho hB1 hkl
      go_wp2_with fail
      refine ⟨⟨k + 1, qs ++ [(D, q, cq)], by omega, by go_num, by simp [HQL.out], HST.out, ?_, (by (repeat (first | with_reducible exact Below.refl _ _ | with_reducible assumption | with_reducible apply bel_alloc | with_reducible apply bel_drew | with_reducible apply bel_drewN | ((with_reducible refine bel_set ?_ ?_); rotate_left; (simp <;> omega)) | (with_reducible refine bel_trans ?_ (by with_reducible assumption)))))⟩, by simp [intOf]; omega⟩
      intro i y f' hy hf'
      have hfar : ∀ (A : Option Addr) vs, Rd w1 A vs → (∀ g, ob A = some g → w.heap.size < g) → Rd (w1.setCell ⟨w.heap.size, k, none⟩ (.slice D q cq)) A vs := fun A vs hr hn => hr.far (fun g e => by have := hn g e; simp only; omega) _
      by_cases hi : i < qs.length
      · rw [List.getElem?_append_left hi] at hy
        obtain ⟨y1, y2, y3⟩ := HQ.out i y f' hy hf'
        exact ⟨y1, hfar _ _ (y2.below hb1) y3, y3⟩
      · have hik : i = k := by
          have h1 : i < (qs ++ [(D, q, cq)]).length := (List.getElem?_eq_some_iff.1 hy).1
          have := HQL.out
          simp at h1; omega
        subst hik
        have := HQL.out
        rw [List.getElem?_append_right (by omega), this, Nat.sub_self] at hy
        simp at hy
        subst hy
        have : f' = f := by have := HFX.out; rw [hf'] at this; injection this
        subst this
        exact ⟨HFL.out, hfar _ _ (Rd.of_own HO.out) (fun g e => by have := (own_lt HO.out g e).1; omega), fun g e => by have := (own_lt HO.out g e).1; omega⟩
    · have hkn : k = n := by omega
      subst hkn
      rw [Nat.sub_self, show zeS 0 = [] from rfl, List.append_nil] at hB
      have ho := own_blk hB (base := w.heap.size) (size := 1) (n := k) (by simp [vS_length, hql]) (Nat.le_refl _) (by unfold maxLen; omega)
      have hP : RdP wr (some ⟨w.heap.size, 0, none⟩) k qs F := ⟨by simpa using Rd.of_own ho, hql, HP.out.flen, fun i a b => by
        have := hq i _ _ (List.getElem?_eq_getElem a) (List.getElem?_eq_getElem b)
        exact ⟨this.1, this.2.1⟩⟩
      have HR := Lib.hid hP
      have hk1 : ¬ (k : Int) < (k : Int) := by omega
      clear hB hq ho hP hql
      go_wp2
      go_ret
      exact ⟨_, _, qs, rfl, HR.out, hb⟩
theorem eqCellSS_t (A A2 : Option Addr) (n c n2 c2 : Nat) (hs hs2 : List H) (F : List (List C)) (w : World) (h : RdP w A n hs F) (h2 : RdP w A2 n2 hs2 F) (hn : n ≤ 1099511627776) (hm : totC F ≤ 1099511627776) :
    Calls Tryz.prog 12 #[.slice A n c, .slice A2 n2 c2] w (Ret w (.bool true)) := by
  obtain rfl : n2 = n := by rw [← h2.flen, h.flen]
  have H1 := Lib.hid h
  have H2 := Lib.hid h2
  clear h h2
  go_enter Tryz.func12, Tryz.ntmps12
  go_wp2
  go_loopw [5] (fun i wr => ∃ j : Nat, j ≤ n2 ∧ i = .int .i64 j ∧ Below w.heap.size w wr) (fun i _ => n2 - (intOf i).toNat)
  case atStart => exact ⟨0, Nat.zero_le _, rfl, Below.refl _ _⟩
  case round =>
    obtain ⟨j, hj, rfl, hb⟩ := hrel
    by_cases hlt : j < n2
    · have hj0 : (0 : Int) ≤ (j : Int) := by omega
      have hj1 : (j : Int) < (n2 : Int) := by omega
      obtain ⟨x, f, g, off, _, hfx, rfl, hg, d1, l1, r1⟩ := (H1.out.below hb).at_ hlt
      obtain ⟨x2, f2, g2, off2, _, hfx2, rfl, hg2, d2, l2, r2⟩ := (H2.out.below hb).at_ hlt
      obtain rfl : f2 = f := by rw [hfx] at hfx2; injection hfx2 with e; exact e.symm
      have hmf := totC_row F hfx
      obtain ⟨B1, m1, k1⟩ := x
      obtain ⟨B2, m2, k2⟩ := x2
      dsimp only at d1 d2 l1 l2 r1 r2
      have hm1 : m1 ≤ 1099511627776 := by omega
      have L1 := Lib.hid l1
      have L2 := Lib.hid l2
      have R1 := Lib.hid r1
      have R2 := Lib.hid r2
      clear l1 l2 r1 r2 hfx hfx2 hmf
      go_wp2_with fail
      (refine wp_region_below (by kernel_rfl) (by kernel_rfl) ?_; (repeat (first | go_big_quiet_skip | (refine quietV (v := ?_) (by rfl) rfl (fun w' hbw => ?_) ?_; rotate_left; ((try dsimp only at hbw); have hbc := (bcell hbw).1; have hbf := (bcell hbw).2; go_simp; first | done | with_reducible rfl | exact callsBB (eqCellS_t _ _ _ _ _ _ f2 _ (R1.out.below hbw) (R2.out.below hbw) L1.out L2.out hm1) rfl hbw); simp only [List.setIfInBounds_toArray, List.set_cons_zero, List.set_cons_succ]))); refine wpQuiet_nil ?_; intro wq hbq)
      go_wp2_with fail
      exact ⟨⟨j + 1, by omega, by go_num, (by (repeat (first | with_reducible exact Below.refl _ _ | with_reducible assumption | with_reducible apply bel_alloc | with_reducible apply bel_drew | with_reducible apply bel_drewN | ((with_reducible refine bel_set ?_ ?_); rotate_left; (simp <;> omega)) | (with_reducible refine bel_trans ?_ (by with_reducible assumption)))))⟩, by simp [intOf]; omega⟩
    · have hj1 : ¬ (j : Int) < (n2 : Int) := by omega
      go_wp2
      go_ret
      exact ⟨rfl, hb⟩
end Go.Proofs.YtoedmmhiinhljaaGreatDoor
