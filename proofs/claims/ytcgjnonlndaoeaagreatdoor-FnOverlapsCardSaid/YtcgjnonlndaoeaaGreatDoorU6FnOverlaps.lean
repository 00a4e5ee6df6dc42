/- Texts of this claim, one behind the other: part 6. -/
import Derived.Test.YtcgjnonlndaoeaaGreatDoorU5FnOverlaps
import Derived.Outline
import Derived.WalkLawsBesides
import Derived.WalkSpells
import Derived.BigQuiet
import Derived.Deep.QuietTactic
import Derived.Deep.RegionHeld3
import Derived.Deep.RegionWith
import Derived.Deep.DeepCutAuto
import Derived.Deep.CutBlock
import Derived.Deep.DrawnRows
import Derived.Sort.OwnSortedInts
/- Cells and shapes turned, the orientations of a shape: the program. -/
namespace Go.Proofs.YtcgjnonlndaoeaaGreatDoor
open Go.RowKit
set_option linter.unusedVariables false
attribute [local go_sem ↓] Go.wp_at_zero Go.wp_at_succ

set_option maxHeartbeats 1600000 in
theorem carry_i (x y : Int) (m : Nat) (w : World) (hq : in7 1000 (x, y)) (hm : m < 8) :
    Calls Tryz.prog 133 #[.agg #[.int .i64 x, .int .i64 y], .int .i64 (m : Int)] w (Ret w (.agg #[.int .i64 (motC m (x, y)).1, .int .i64 (motC m (x, y)).2])) := by
  obtain ⟨r, hr⟩ : ∃ r, m % 4 = r := ⟨_, rfl⟩
  have hr4 : r < 4 := by omega
  have hmr : (m : Int) % 4 = (r : Int) := by omega
  have hm0 : (0 : Int) ≤ (m : Int) := by omega
  have hm7 : (m : Int) ≤ 7 := by omega
  obtain ⟨⟨h1, h2⟩, h3, h4⟩ := id hq
  simp only at h1 h2 h3 h4
  have HOK := Lib.hid (in7_flip hq m)
  have HC : Hid (motC m (x, y) = rotC r (flipC m (x, y))) := by show motC m (x, y) = _; unfold motC; rw [hr]
  have ex : IntKind.i64.wrap (-x) = -x := Go.IntWalk.i64_in _ (by omega)
  clear hr hq
  by_cases h4m : 4 ≤ m
  · have HST : Hid (rotC 0 (flipC m (x, y)) = (-x, y)) := by show flipC m (x, y) = _; unfold flipC; rw [if_pos h4m]
    have h4i : (m : Int) ≥ 4 := by omega
    go_enter Tryz.func133, Tryz.ntmps133
    go_wp2
    go_loopw [13] (fun e13 wr => ∃ (j : Nat) (x' y' : Int), j ≤ r ∧ e13 = .int .i64 j ∧ rotC j (flipC m (x, y)) = (x', y') ∧ Blk wr w.heap.size 77 #[.int .i64 x', .int .i64 y'] ∧ Blk wr (w.heap.size + 1) 77 #[.int .i64 0, .int .i64 0] ∧ Below w.heap.size w wr) (fun e13 _ => r - (intOf e13).toNat)
    case atStart =>
      have hb1 : Blk ((w.alloc (.cells #[.int .i64 (-x), .int .i64 y] 77)).alloc (.cells #[.int .i64 0, .int .i64 0] 77)) w.heap.size 77 #[.int .i64 (-x), .int .i64 y] := (Blk.new w 77 #[.int .i64 (-x), .int .i64 y]).alloc _
      have hb2 : Blk ((w.alloc (.cells #[.int .i64 (-x), .int .i64 y] 77)).alloc (.cells #[.int .i64 0, .int .i64 0] 77)) (w.heap.size + 1) 77 #[.int .i64 0, .int .i64 0] := by
        have h := Blk.new (w.alloc (.cells #[.int .i64 (-x), .int .i64 y] 77)) 77 #[.int .i64 0, .int .i64 0]
        rw [show (w.alloc (.cells #[.int .i64 (-x), .int .i64 y] 77)).heap.size = w.heap.size + 1 from by simp] at h
        exact h
      exact ⟨0, (-x), y, Nat.zero_le _, rfl, HST.out, hb1, hb2, (by (repeat (first | with_reducible exact Below.refl _ _ | with_reducible assumption | with_reducible apply bel_alloc | with_reducible apply bel_drew | with_reducible apply bel_drewN | ((with_reducible refine bel_set ?_ ?_); rotate_left; (simp <;> omega)) | (with_reducible refine bel_trans ?_ (by with_reducible assumption)))))⟩
    case round =>
      obtain ⟨j, x', y', hj, rfl, hrot, hB, hB2, hb⟩ := hrel
      have ho : in7 1000 (x', y') := by rw [← hrot]; exact in7_rot HOK.out j
      obtain ⟨⟨k1, k2⟩, k3, k4⟩ := ho
      simp only at k1 k2 k3 k4
      have en : IntKind.i64.wrap (-y') = -y' := Go.IntWalk.i64_in _ (by omega)
      have c0 : wr.cell? ⟨w.heap.size, 0, none⟩ = some (.int .i64 x') := by simpa using hB.cell 0
      have c1 : wr.cell? ⟨w.heap.size, 1, none⟩ = some (.int .i64 y') := by simpa using hB.cell 1
      have f0 := hB.frozen 0
      have f1 := hB.frozen 1
      have d0 : wr.cell? ⟨w.heap.size + 1, 0, none⟩ = some (.int .i64 0) := by simpa using hB2.cell 0
      have d1 : wr.cell? ⟨w.heap.size + 1, 1, none⟩ = some (.int .i64 0) := by simpa using hB2.cell 1
      have fd0 := hB2.frozen 0
      have fd1 := hB2.frozen 1
      by_cases hlt : j < r
      · have hj1 : (j : Int) < (r : Int) := by omega
        have HR : Hid (rotC (j + 1) (flipC m (x, y)) = (-y', x')) := by show (-(rotC j _).2, (rotC j _).1) = _; rw [hrot]
        have hS : Blk ((wr.setCell ⟨w.heap.size, 0, none⟩ (.int .i64 (-y'))).setCell ⟨w.heap.size, 1, none⟩ (.int .i64 x')) w.heap.size 77 #[.int .i64 (-y'), .int .i64 x'] := by simpa using (hB.set_ 0 (.int .i64 (-y'))).set_ 1 (.int .i64 x')
        have hS2 : Blk ((wr.setCell ⟨w.heap.size, 0, none⟩ (.int .i64 (-y'))).setCell ⟨w.heap.size, 1, none⟩ (.int .i64 x')) (w.heap.size + 1) 77 #[.int .i64 0, .int .i64 0] := (hB2.far (by simp) _).far (by simp) _
        have HS := Lib.hid hS
        have HS2 := Lib.hid hS2
        clear hrot hB hB2 hS hS2
        go_wp2
        exact ⟨⟨j + 1, -y', x', by omega, by go_num, HR.out, HS.out, HS2.out, (by (repeat (first | with_reducible exact Below.refl _ _ | with_reducible assumption | with_reducible apply bel_alloc | with_reducible apply bel_drew | with_reducible apply bel_drewN | ((with_reducible refine bel_set ?_ ?_); rotate_left; (simp <;> omega)) | (with_reducible refine bel_trans ?_ (by with_reducible assumption)))))⟩, by simp [intOf]; omega⟩
      · have hjr : j = r := by omega
        subst hjr
        have HV : Hid (motC m (x, y) = (x', y')) := by show motC m (x, y) = _; rw [HC.out, hrot]
        have hj1 : ¬ (j : Int) < (j : Int) := by omega
        clear hrot hB hB2
        go_wp2
        exact bodyPost_ret (v := .agg #[.int .i64 x', .int .i64 y']) (by simp [results, Tryz.results133, go_sem, d0, d1]) rfl ⟨by rw [HV.out], (by (repeat (first | with_reducible exact Below.refl _ _ | with_reducible assumption | with_reducible apply bel_alloc | with_reducible apply bel_drew | with_reducible apply bel_drewN | ((with_reducible refine bel_set ?_ ?_); rotate_left; (simp <;> omega)) | (with_reducible refine bel_trans ?_ (by with_reducible assumption)))))⟩
  · have HST : Hid (rotC 0 (flipC m (x, y)) = (x, y)) := by show flipC m (x, y) = _; unfold flipC; rw [if_neg h4m]
    have h4i : ¬ (m : Int) ≥ 4 := by omega
    go_enter Tryz.func133, Tryz.ntmps133
    go_wp2
    go_loopw [13] (fun e13 wr => ∃ (j : Nat) (x' y' : Int), j ≤ r ∧ e13 = .int .i64 j ∧ rotC j (flipC m (x, y)) = (x', y') ∧ Blk wr w.heap.size 77 #[.int .i64 x', .int .i64 y'] ∧ Blk wr (w.heap.size + 1) 77 #[.int .i64 0, .int .i64 0] ∧ Below w.heap.size w wr) (fun e13 _ => r - (intOf e13).toNat)
    case atStart =>
      have hb1 : Blk ((w.alloc (.cells #[.int .i64 x, .int .i64 y] 77)).alloc (.cells #[.int .i64 0, .int .i64 0] 77)) w.heap.size 77 #[.int .i64 x, .int .i64 y] := (Blk.new w 77 #[.int .i64 x, .int .i64 y]).alloc _
      have hb2 : Blk ((w.alloc (.cells #[.int .i64 x, .int .i64 y] 77)).alloc (.cells #[.int .i64 0, .int .i64 0] 77)) (w.heap.size + 1) 77 #[.int .i64 0, .int .i64 0] := by
        have h := Blk.new (w.alloc (.cells #[.int .i64 x, .int .i64 y] 77)) 77 #[.int .i64 0, .int .i64 0]
        rw [show (w.alloc (.cells #[.int .i64 x, .int .i64 y] 77)).heap.size = w.heap.size + 1 from by simp] at h
        exact h
      exact ⟨0, x, y, Nat.zero_le _, rfl, HST.out, hb1, hb2, (by (repeat (first | with_reducible exact Below.refl _ _ | with_reducible assumption | with_reducible apply bel_alloc | with_reducible apply bel_drew | with_reducible apply bel_drewN | ((with_reducible refine bel_set ?_ ?_); rotate_left; (simp <;> omega)) | (with_reducible refine bel_trans ?_ (by with_reducible assumption)))))⟩
    case round =>
      obtain ⟨j, x', y', hj, rfl, hrot, hB, hB2, hb⟩ := hrel
      have ho : in7 1000 (x', y') := by rw [← hrot]; exact in7_rot HOK.out j
      obtain ⟨⟨k1, k2⟩, k3, k4⟩ := ho
      simp only at k1 k2 k3 k4
      have en : IntKind.i64.wrap (-y') = -y' := Go.IntWalk.i64_in _ (by omega)
      have c0 : wr.cell? ⟨w.heap.size, 0, none⟩ = some (.int .i64 x') := by simpa using hB.cell 0
      have c1 : wr.cell? ⟨w.heap.size, 1, none⟩ = some (.int .i64 y') := by simpa using hB.cell 1
      have f0 := hB.frozen 0
      have f1 := hB.frozen 1
      have d0 : wr.cell? ⟨w.heap.size + 1, 0, none⟩ = some (.int .i64 0) := by simpa using hB2.cell 0
      have d1 : wr.cell? ⟨w.heap.size + 1, 1, none⟩ = some (.int .i64 0) := by simpa using hB2.cell 1
      have fd0 := hB2.frozen 0
      have fd1 := hB2.frozen 1
      by_cases hlt : j < r
      · have hj1 : (j : Int) < (r : Int) := by omega
        have HR : Hid (rotC (j + 1) (flipC m (x, y)) = (-y', x')) := by show (-(rotC j _).2, (rotC j _).1) = _; rw [hrot]
        have hS : Blk ((wr.setCell ⟨w.heap.size, 0, none⟩ (.int .i64 (-y'))).setCell ⟨w.heap.size, 1, none⟩ (.int .i64 x')) w.heap.size 77 #[.int .i64 (-y'), .int .i64 x'] := by simpa using (hB.set_ 0 (.int .i64 (-y'))).set_ 1 (.int .i64 x')
        have hS2 : Blk ((wr.setCell ⟨w.heap.size, 0, none⟩ (.int .i64 (-y'))).setCell ⟨w.heap.size, 1, none⟩ (.int .i64 x')) (w.heap.size + 1) 77 #[.int .i64 0, .int .i64 0] := (hB2.far (by simp) _).far (by simp) _
        have HS := Lib.hid hS
        have HS2 := Lib.hid hS2
        clear hrot hB hB2 hS hS2
        go_wp2
        exact ⟨⟨j + 1, -y', x', by omega, by go_num, HR.out, HS.out, HS2.out, (by (repeat (first | with_reducible exact Below.refl _ _ | with_reducible assumption | with_reducible apply bel_alloc | with_reducible apply bel_drew | with_reducible apply bel_drewN | ((with_reducible refine bel_set ?_ ?_); rotate_left; (simp <;> omega)) | (with_reducible refine bel_trans ?_ (by with_reducible assumption)))))⟩, by simp [intOf]; omega⟩
      · have hjr : j = r := by omega
        subst hjr
        have HV : Hid (motC m (x, y) = (x', y')) := by show motC m (x, y) = _; rw [HC.out, hrot]
        have hj1 : ¬ (j : Int) < (j : Int) := by omega
        clear hrot hB hB2
        go_wp2
        exact bodyPost_ret (v := .agg #[.int .i64 x', .int .i64 y']) (by simp [results, Tryz.results133, go_sem, d0, d1]) rfl ⟨by rw [HV.out], (by (repeat (first | with_reducible exact Below.refl _ _ | with_reducible assumption | with_reducible apply bel_alloc | with_reducible apply bel_drew | with_reducible apply bel_drewN | ((with_reducible refine bel_set ?_ ?_); rotate_left; (simp <;> omega)) | (with_reducible refine bel_trans ?_ (by with_reducible assumption)))))⟩
theorem map_take {α β : Type} (f : α → β) (xs : List α) (k : Nat) (hk : k < xs.length) : (xs.take (k + 1)).map f = (xs.take k).map f ++ [f xs[k]] := by
  rw [List.take_succ_eq_append_getElem hk, List.map_append]; rfl
set_option maxHeartbeats 1600000 in
theorem turned_i (A : Option Addr) (n c : Nat) (xs : List C) (m : Nat) (w : World) (hr : Rd w A (vC xs)) (hl : xs.length = n) (hs : isShape xs = true) (hm : m < 8) :
    Calls Tryz.prog 111 #[.slice A n c, .int .i64 (m : Int)] w (RetS w 77 2 (vC (turnV xs m))) := by
  have hn8 := shape_len hs
  have hti := turn_in hs m
  have hob := shape_onB hs
  rw [hl] at hn8
  obtain ⟨hn1, hn8⟩ := hn8
  have HL := Lib.hid hl
  have HR := Lib.hid hr
  have HTI := Lib.hid hti
  have HOB := Lib.hid hob
  clear hl hr hs hti hob
  go_enter Tryz.func111, Tryz.ntmps111
  go_wp2
  go_loopw [10, 5] (fun e10 e5 wr => ∃ (k cq : Nat) (D : Option Addr), k ≤ n ∧ e10 = .int .i64 k ∧ e5 = .slice D k cq ∧ wr.ownsRow w.heap.size 77 2 (.slice D k cq) k (vC ((xs.take k).map (motC m))) ∧ Below w.heap.size w wr) (fun e10 _ _ => n - (intOf e10).toNat)
  case atStart => exact ⟨0, 0, none, Nat.zero_le _, rfl, rfl, own_nil _ _ _ _, Below.refl _ _⟩
  case round =>
    obtain ⟨k, cq, D, hk, rfl, rfl, hown, hb⟩ := hrel
    by_cases hlt : k < n
    · have hkl : k < xs.length := by rw [HL.out]; exact hlt
      have hk0 : (0 : Int) ≤ (k : Int) := by omega
      have hk1 : (k : Int) < (n : Int) := by omega
      obtain ⟨g, off, hA, hg, d1, d2⟩ := RdC.at_ (HR.out.below hb) hkl
      subst hA
      have hst := map_take (motC m) xs k hkl
      have h7 := in7_onB (HOB.out _ (List.getElem_mem hkl))
      obtain ⟨p, hp⟩ : ∃ p, xs[k].1 = p := ⟨_, rfl⟩
      obtain ⟨q, hq⟩ : ∃ q, xs[k].2 = q := ⟨_, rfl⟩
      rw [show xs[k] = (p, q) from Prod.ext hp hq] at hst h7
      rw [hp] at d1
      rw [hq] at d2
      have hK : in7 1000 (p, q) := by unfold in7 at h7 ⊢; simp only at h7 ⊢; omega
      obtain ⟨⟨x', y'⟩, hxy⟩ : ∃ z, motC m (p, q) = z := ⟨_, rfl⟩
      rw [hxy] at hst
      have HCA : Hid (∀ w0, Calls Tryz.prog 133 #[.agg #[.int .i64 p, .int .i64 q], .int .i64 (m : Int)] w0 (Ret w0 (.agg #[.int .i64 x', .int .i64 y']))) := fun w0 => by
        have h := carry_i p q m w0 hK hm
        rw [hxy] at h
        exact h
      have HST := Lib.hid hst
      have HO := Lib.hid hown
      clear hst hown hp hq h7 hxy hK
      go_wp2_with fail
      refine (HCA.out _).mono ?_
      rintro e w2 ⟨rfl, hb2⟩
      have hb02 := bel_trans (bel_alloc hb (.cells #[.int .i64 p, .int .i64 q] 77)) hb2
      have HO2 := Lib.hid (own_keep (HO.out.alloc (.cells #[.int .i64 p, .int .i64 q] 77)) hb2)
      have hbz := hb02.size
      clear d1 d2
      go_wp2_with (at_builtin; go_must (refine app_C _ rfl _ _ rfl w.heap.size _ _ _ _ rfl (HO2.out.alloc _) _ _ _ [(x', y')] rfl (rd_newC _ _ _ _) rfl (by omega) (by simp; omega) ?_); intro D2 cp2 w8 ho8 hg8 hat8; have HO8 := Lib.hid ho8; have HG8 := Lib.hid hg8; clear ho8 hg8 hat8)
      exact ⟨⟨k + 1, cp2, D2, by omega, by go_num, rfl, by rw [HST.out]; exact HO8.out, bel_app (bel_alloc hb02 _) HG8.out (fun g' hg1 => ((own_lt HO2.out) g' hg1).1)⟩, by simp [intOf]; omega⟩
    · obtain rfl : k = n := by omega
      rw [List.take_of_length_le (by rw [HL.out]; omega)] at hown
      have HO := Lib.hid hown
      have hk1 : ¬ (k : Int) < (k : Int) := by omega
      clear hown
      go_wp2_with fail
      refine (corner_i D k cq (xs.map (motC m)) _ (Rd.of_own HO.out) (by rw [List.length_map]; exact HL.out) hn1 (by omega) (fun d hd => by have := HTI.out d hd; unfold in7 at this; unfold small; omega)).mono ?_
      rintro e w2 ⟨E, q, ce, rfl, hO2, hb2⟩
      have HO2 := Lib.hid hO2
      have hbz := hb.size
      clear hO2
      go_wp2_with fail
      go_ret
      exact ⟨E, q, ce, rfl, own_base HO2.out hbz, bel_trans hb hb2⟩
theorem putV_eq {F : List (List C)} (h : IncG ltS F) (f : List C) : putB ltS F f = putG ltS F f := by
  obtain ⟨h1, h2⟩ := putB_inc ltS_sto h f
  obtain ⟨h3, h4⟩ := putG_inc ltS_sto h f
  exact incG_eq ltS_sto _ _ h1 h3 fun x => by rw [h2, h4]
set_option maxHeartbeats 1600000 in
theorem OrientationsOf_i (A : Option Addr) (n c : Nat) (xs : List C) (w : World) (hr : Rd w A (vC xs)) (hl : xs.length = n) (hs : isShape xs = true) :
    Calls Tryz.prog 90 #[.slice A n c] w (RetF w (orV xs)) := by
  have hn8 := (shape_len hs).2
  rw [hl] at hn8
  have hV : orV xs = orTo xs 8 := by unfold orV; rw [if_pos hs]
  have HTL : Hid (∀ m, 1 ≤ (turnV xs m).length ∧ (turnV xs m).length ≤ 8) := fun m => turn_len hs m
  have hmem := orTo_mem xs
  have HME : Hid (∀ k, ∀ x ∈ orTo xs k, x.length ≤ 1048576) := fun k x hx => by
    obtain ⟨m, _, rfl⟩ := hmem k x hx
    have := (turn_len hs m).2
    omega
  have HV := Lib.hid hV
  have HL := Lib.hid hl
  have HR := Lib.hid hr
  have HS := Lib.hid hs
  clear hl hr hs hV hmem
  go_enter Tryz.func90, Tryz.ntmps90
  go_wp2_with fail
  refine (IsShape_i A n c xs _ HR.out HL.out (by omega)).mono ?_
  rw [HS.out]
  rintro e w1 ⟨rfl, hb1⟩
  have hbz := hb1.size
  go_wp2_with fail
  go_loopw [8, 3] (fun e8 e3 wr => ∃ (m q cq : Nat) (D : Option Addr) (hs : List H), m ≤ 8 ∧ e8 = .int .i64 m ∧ e3 = .slice D q cq ∧ OwnF w1.heap.size wr D q cq hs (orTo xs m) ∧ Below w1.heap.size w1 wr) (fun e8 _ _ => 8 - (intOf e8).toNat)
  case atStart => exact ⟨0, 0, 0, none, [], Nat.zero_le _, rfl, rfl, OwnF.nil _ _, Below.refl _ _⟩
  case round =>
    obtain ⟨m, q, cq, D, hs, hm, rfl, rfl, hO, hb⟩ := hrel
    have hql : (orTo xs m).length = q := hO.flen
    have hol := orTo_len xs m
    have hinc := orTo_inc xs m
    have HINC := Lib.hid hinc
    have hb01 := bel_trans hb1 hb
    have HO := Lib.hid hO
    clear hO hinc
    by_cases hlt : m < 8
    · have hm0 : (0 : Int) ≤ (m : Int) := by omega
      have hm1 : (m : Int) < 8 := by omega
      have hst : orTo xs (m + 1) = putB ltS (orTo xs m) (turnV xs m) := by show putG ltS _ _ = _; rw [putV_eq HINC.out]
      have hme := HME.out m
      have htl := HTL.out m
      obtain ⟨F, hF⟩ : ∃ F, orTo xs m = F := ⟨_, rfl⟩
      obtain ⟨t, ht⟩ : ∃ t, turnV xs m = t := ⟨_, rfl⟩
      have HTU : Hid (∀ w0, Rd w0 A (vC xs) → Calls Tryz.prog 111 #[.slice A n c, .int .i64 (m : Int)] w0 (RetS w0 77 2 (vC t))) := fun w0 h => by
        have h2 := turned_i A n c xs m w0 h HL.out HS.out hlt
        rw [ht] at h2
        exact h2
      rw [hF, ht] at hst
      rw [hF] at hme hql HO HINC hol
      rw [ht] at htl
      have HST := Lib.hid hst
      have HMF := Lib.hid hme
      clear hst hF ht hme
      go_wp2_with fail
      refine (HTU.out _ (HR.out.below hb01)).mono ?_
      rintro e w2 ⟨E, q2, c2, rfl, hT, hb2⟩
      have hq2 : t.length = q2 := by have := own_len hT; rw [vC_length] at this; omega
      have hO2 := HO.out.below hb2
      have hb12 := bel_trans hb hb2
      have HO2 := Lib.hid hO2
      have HCR := Lib.hid (CRow.of_own hT)
      have hz2 := hb12.size
      clear hO2 hT HO
      go_wp2_with fail
      refine (putShape_i D q cq hs F E q2 c2 t w1.heap.size _ HO2.out HCR.out HINC.out HMF.out (by omega) (by omega) hz2).mono ?_
      rintro e w3 ⟨D3, n3, c3, hs3, rfl, hO3, hg3, hD3⟩
      have HO3 := Lib.hid hO3
      have hb13 : Below w1.heap.size w1 w3 := bel_app hb12 hg3 (fun g e => (own_lt HO2.out.own g e).1)
      clear hO3 hD3
      go_wp2_with fail
      exact ⟨⟨m + 1, n3, c3, D3, hs3, by omega, by go_num, rfl, by rw [HST.out]; exact HO3.out, hb13⟩, by simp [intOf]; omega⟩
    · obtain rfl : m = 8 := by omega
      rw [← HV.out] at HO
      have hm1 : ¬ ((8 : Nat) : Int) < 8 := by omega
      go_wp2_with fail
      go_ret
      exact ⟨D, q, cq, hs, rfl, HO.out.mono hbz, hb01⟩
end Go.Proofs.YtcgjnonlndaoeaaGreatDoor

/- A copy of a list. -/
namespace Go.Proofs.YtcgjnonlndaoeaaGreatDoor
open Go.RowKit
set_option linter.unusedVariables false
attribute [local go_sem ↓] Go.wp_at_zero Go.wp_at_succ

theorem copyInts_i (A : Option Addr) (n c : Nat) (xs : List Int) (w : World) (hr : Rd w A (vI xs)) (hl : xs.length = n) (hn : n ≤ 1099511627776) :
    Calls Tryz.prog 75 #[.slice A n c] w (RetS w 3 1 (vI xs)) := by
  have HL := Lib.hid hl
  clear hl
  go_enter Tryz.func75, Tryz.ntmps75
  go_wp2_with (at_builtin; go_must (refine app_I _ rfl _ _ rfl w.heap.size none 0 0 [] rfl (own_nil _ _ _ _) _ _ _ xs rfl hr HL.out (by omega) (by omega) ?_); intro A' c' w' hown' hg' hat'; simp only [Nat.zero_add, List.nil_append] at hown'; have HO := Lib.hid hown'; have HB := Lib.hid (bel_app (Below.refl w.heap.size w) hg' (fun g h => by cases h)); clear hown' hg' hat')
  go_ret
  exact ⟨_, _, _, rfl, HO.out, HB.out⟩
end Go.Proofs.YtcgjnonlndaoeaaGreatDoor

/- Numbers in order, each once: the program. -/
namespace Go.Proofs.YtcgjnonlndaoeaaGreatDoor
open Go.RowKit
set_option linter.unusedVariables false
attribute [local go_sem ↓] Go.wp_at_zero Go.wp_at_succ

/-- What the library's sort leaves. -/
def SortP (w : World) (base : Nat) (A : Option Addr) (n c : Nat) (l : List Int) (e : Ending) (w' : World) : Prop := e = .returned (.tuple #[]) ∧ w'.ownsRow base 3 1 (.slice A n c) n (vI (srt l)) ∧ w.grownBy w' (ob A)
theorem sortInts (A : Option Addr) (n c base : Nat) (l : List Int) (w : World) (ho : w.ownsRow base 3 1 (.slice A n c) n (vI l)) (hn : n ≤ 1099511627776) :
    Calls Tryz.prog 76 #[.slice A n c] w (SortP w base A n c l) := by
  have hl : l.length = n := by have := own_len ho; rw [vI_length] at this; omega
  rcases ho.2 with ⟨hv, h0⟩ | ⟨g, cap, cur, hv, hb, hg, hnc, hcm, hcs, ht⟩
  · injection hv with hA hn0 hc0
    subst hA hn0 hc0
    have e : l = [] := List.eq_nil_of_length_eq_zero hl
    subst e
    refine (Tryz.sort_Ints_none none 0 w).mono ?_
    rintro e w' ⟨rfl, rfl⟩
    exact ⟨rfl, by rw [show srt [] = [] from by simp [srt]]; exact ho, World.grownBy.refl _ _⟩
  · injection hv with hA _ hc
    subst hA hc
    subst hl
    rw [Nat.mul_one] at ht
    refine (Tryz.sort_Ints g 0 c l w (holds_of_blockI hg ht) (Array.getElem?_eq_some_iff.1 hg).1 (by omega)).mono ?_
    rintro e w' ⟨rfl, k, os, rfl⟩
    exact ⟨rfl, ownsRow_sortedI (srt_len l) hb hg hnc hcm hcs, grownBy_sortedI _⟩
set_option maxRecDepth 100000 in
set_option maxHeartbeats 1600000 in
theorem ordered_i (A : Option Addr) (n c : Nat) (xs : List Int) (w : World) (hr : Rd w A (vI xs)) (hl : xs.length = n) (hn : n ≤ 1099511627776) :
    Calls Tryz.prog 51 #[.slice A n c] w (RetS w 3 1 (vI (ord xs))) := by
  have HL := Lib.hid hl
  have HV : Hid (ord xs = dedTo (srt xs) n) := by show ord xs = _; unfold ord; rw [srt_len, hl]
  have HSL : Hid ((srt xs).length = n) := by show (srt xs).length = n; rw [srt_len, hl]
  clear hl
  go_enter Tryz.func51, Tryz.ntmps51
  go_wp2_with fail
  refine (copyInts_i _ _ _ xs _ hr HL.out (by omega)).mono ?_
  rintro e w1 ⟨B, m, cB, rfl, ho, hb1⟩
  have hm : n = m := by have := own_len ho; rw [vI_length] at this; have := HL.out; omega
  subst hm
  have hBlt := own_lt ho
  go_wp2_with fail
  refine (sortInts _ _ _ _ xs _ ho hn).mono ?_
  rintro e w2 ⟨rfl, ho2, hg2⟩
  have hb2 : Below w.heap.size w w2 := bel_app hb1 hg2 (fun g h => (hBlt g h).1)
  have hrd := Rd.of_own ho2
  generalize srt xs = s at HV HSL hrd ho2
  have HO2 := Lib.hid ho2
  clear ho ho2 hg2 hb1
  go_wp2_with fail
  go_loopw [4, 13] (fun e e13 wr => ∃ (k q cp : Nat) (D : Option Addr), k ≤ n ∧ q ≤ k ∧ e = .slice D q cp ∧ e13 = .int .i64 k ∧ wr.ownsRow w2.heap.size 3 1 (.slice D q cp) q (vI (dedTo s k)) ∧ Below w2.heap.size w2 wr) (fun _ e13 _ => n - (intOf e13).toNat)
  case atStart => exact ⟨0, 0, 0, none, by omega, by omega, rfl, rfl, own_nil _ _ _ _, Below.refl _ _⟩
  case round =>
    obtain ⟨k, q, cp, D, hk, hq, rfl, rfl, hown, hb⟩ := hrel
    by_cases hlt : k < n
    · have hks : k < s.length := by rw [HSL.out]; exact hlt
      have hrw := hrd.below hb
      obtain ⟨g, off, rfl, hg, c1⟩ := RdI.at_ hrw hks
      have hgd : s.getD k 0 = s[k] := by rw [List.getD_eq_getElem?_getD, List.getElem?_eq_getElem hks]; rfl
      have hst : dedTo s (k + 1) = dedTo s k ++ (if keepAt s k then [s.getD k 0] else []) := rfl
      rw [hgd] at hst
      obtain ⟨x, hx⟩ : ∃ x, s[k] = x := ⟨_, rfl⟩
      rw [hx] at c1 hst hgd
      have HO := Lib.hid hown
      have hbs := hb.size
      clear hown hx
      -- the two ways
      have KEEP : Hid (keepAt s k = true → dedTo s (k + 1) = dedTo s k ++ [x]) := fun h => by rw [hst, h]; rfl
      have SKIP : Hid (keepAt s k = false → dedTo s (k + 1) = dedTo s k) := fun h => by rw [hst, h]; simp
      have hka : keepAt s k = (k == 0 || s.getD (k - 1) 0 != x) := by unfold keepAt; rw [hgd]
      have HKA := Lib.hid hka
      clear hst hgd hka
      by_cases hk0 : k = 0
      · have e0 : ((k : Int) == 0) = true := by simp [hk0]
        have HN := Lib.hid (KEEP.out (by rw [HKA.out, hk0]; rfl))
        have hk1 : (0 : Int) ≤ (k : Int) := by omega
        have hk2 : (k : Int) < (n : Int) := by omega
        clear KEEP SKIP HKA hk0
        go_wp2_with (at_builtin; go_must (refine app_I _ rfl _ _ rfl w2.heap.size _ _ _ _ rfl (HO.out.alloc _) _ _ _ [x] rfl (rd_newI _ _ _) rfl (by omega) (by simp; omega) ?_); intro D2 cp2 w8 ho8 hg8 hat8; have HO8 := Lib.hid ho8; have HG8 := Lib.hid hg8; clear ho8 hg8 hat8)
        exact ⟨⟨k + 1, q + 1, cp2, D2, by omega, by omega, rfl, by go_num, by rw [HN.out]; exact HO8.out, bel_app (bel_alloc hb _) HG8.out (fun g' hg1 => ((own_lt HO.out) g' hg1).1)⟩, by simp [intOf]; omega⟩
      · obtain ⟨j, hjk⟩ : ∃ j, k = j + 1 := ⟨k - 1, by omega⟩
        have hjs : j < s.length := by omega
        obtain ⟨g', off', he, _, d1⟩ := RdI.at_ hrw hjs
        simp only [Option.some.injEq, Addr.mk.injEq, and_true] at he
        obtain ⟨rfl, rfl⟩ := he
        have hgj : s.getD (k - 1) 0 = s[j] := by rw [hjk, Nat.add_sub_cancel, List.getD_eq_getElem?_getD, List.getElem?_eq_getElem hjs]; rfl
        obtain ⟨y, hy⟩ : ∃ y, s[j] = y := ⟨_, rfl⟩
        rw [hy] at d1 hgj
        have e0 : ((k : Int) == 0) = false := by simp; omega
        have hj1 : (k : Int) - 1 = (j : Int) := by omega
        have hj0 : (0 : Int) ≤ (j : Int) := by omega
        have hjm : (j : Int) < (n : Int) := by omega
        have hk1 : (0 : Int) ≤ (k : Int) := by omega
        have hk2 : (k : Int) < (n : Int) := by omega
        have hkk : (k == 0) = false := by simpa using hk0
        have HKK := Lib.hid hkk
        have HGJ := Lib.hid hgj
        clear hy hgj hjk hkk hk0
        by_cases hyx : y = x
        · have HN := Lib.hid (SKIP.out (by rw [HKA.out, HKK.out, HGJ.out, hyx]; simp))
          have e1 : (y != x) = false := by simp [hyx]
          clear KEEP SKIP HKA hyx
          go_wp2_with fail
          exact ⟨⟨k + 1, q, cp, D, by omega, by omega, rfl, by go_num, by rw [HN.out]; exact HO.out, hb⟩, by simp [intOf]; omega⟩
        · have HN := Lib.hid (KEEP.out (by rw [HKA.out, HKK.out, HGJ.out]; simpa using hyx))
          have e1 : (y != x) = true := by simpa using hyx
          clear KEEP SKIP HKA hyx
          go_wp2_with (at_builtin; go_must (refine app_I _ rfl _ _ rfl w2.heap.size _ _ _ _ rfl (HO.out.alloc _) _ _ _ [x] rfl (rd_newI _ _ _) rfl (by omega) (by simp; omega) ?_); intro D2 cp2 w8 ho8 hg8 hat8; have HO8 := Lib.hid ho8; have HG8 := Lib.hid hg8; clear ho8 hg8 hat8)
          exact ⟨⟨k + 1, q + 1, cp2, D2, by omega, by omega, rfl, by go_num, by rw [HN.out]; exact HO8.out, bel_app (bel_alloc hb _) HG8.out (fun g' hg1 => ((own_lt HO.out) g' hg1).1)⟩, by simp [intOf]; omega⟩
    · have hkn : k = n := by omega
      subst hkn
      rw [← HV.out] at hown
      have HO := Lib.hid (own_base hown hb2.size)
      clear hown
      go_wp2
      go_ret
      exact ⟨_, _, _, rfl, HO.out, (by (repeat (first | with_reducible exact Below.refl _ _ | with_reducible assumption | with_reducible apply bel_alloc | with_reducible apply bel_drew | with_reducible apply bel_drewN | ((with_reducible refine bel_set ?_ ?_); rotate_left; (simp <;> omega)) | (with_reducible refine bel_trans ?_ (by with_reducible assumption)))))⟩
end Go.Proofs.YtcgjnonlndaoeaaGreatDoor

/- The placements of a shape, of all pieces, in a region: the program. -/
namespace Go.Proofs.YtcgjnonlndaoeaaGreatDoor
open Go.RowKit
set_option linter.unusedVariables false
attribute [local go_sem ↓] Go.wp_at_zero Go.wp_at_succ

theorem mv_small {t : List C} (h : ∀ c ∈ t, (0 ≤ c.1 ∧ c.1 ≤ 14) ∧ (0 ≤ c.2 ∧ c.2 ≤ 14)) {x y : Nat} (hx : x ≤ 6) (hy : y ≤ 6) : ∀ d ∈ mv t (x : Int) (y : Int), small d := by
  intro d hd
  rw [mv_mem] at hd
  have := h _ hd
  simp only at this
  unfold small
  omega
set_option maxRecDepth 100000 in
set_option maxHeartbeats 6400000 in
theorem placements_i (W : Int) (A B : Option Addr) (n c k cb : Nat) (rows : List Int) (xs : List C) (w : World) (hr : Rd w A (vI rows)) (hl : rows.length = n) (hv : isReg W rows = true) (hrx : Rd w B (vC xs)) (hlx : xs.length = k) (hs : isShape xs = true) :
    Calls Tryz.prog 72 #[.agg #[.int .i64 W, .slice A n c], .slice B k cb] w (RetS w 3 1 (vI (plV W rows xs))) := by
  have hv0 := hv
  have hPV : plV W rows xs = ord (rawTo W rows (orV xs) (orV xs).length) := by unfold plV; rw [if_pos hv, ord_eq]; rfl
  obtain ⟨m, rfl, hm1, hm6, hn1, hn6, hrow⟩ := isReg_yes hv
  have h36 : m * rows.length ≤ 6 * 6 := Nat.mul_le_mul hm6 hn6
  have hmt : ((m : Int)).toNat = m := Int.toNat_natCast _
  have hfine := orV_fine (s := xs)
  have hol := orV_len xs
  have HLX := Lib.hid hlx
  have HSX := Lib.hid hs
  obtain ⟨F, hF⟩ : ∃ F, orV xs = F := ⟨_, rfl⟩
  rw [hF] at hPV hfine hol
  have HF := Lib.hid hF
  have HPV := Lib.hid hPV
  have HFI := Lib.hid hfine
  have HL := Lib.hid hl
  have HV := Lib.hid hv0
  have HR := Lib.hid (hr.alloc (.cells #[.int .i64 (m : Int), .slice A n c] 29))
  have HRX := Lib.hid (hrx.alloc (.cells #[.int .i64 (m : Int), .slice A n c] 29))
  have H36 : Hid (m * rows.length ≤ 36) := h36
  have HMT := Lib.hid hmt
  rw [hl] at hn1 hn6
  clear hl hr hrow hv hv0 hrx hlx hs h36 hmt hPV hfine hF
  go_enter Tryz.func72, Tryz.ntmps72
  go_wp2_with fail
  refine (OrientationsOf_i B k cb xs _ HRX.out HLX.out HSX.out).mono ?_
  rw [HF.out]
  rintro e w1 ⟨A0, q0, c0, hs, rfl, hO0, hb1⟩
  have HB1 := Lib.hid ((Blk.new w 29 #[.int .i64 (m : Int), .slice A n c]).below hb1)
  have HR1 := Lib.hid (HR.out.below hb1)
  have hbw1 : Below w.heap.size w w1 := bel_trans (bel_alloc (Below.refl _ _) _) hb1
  have HRF := Lib.hid hO0.rd
  have HFL := Lib.hid hO0.flen
  have hq8 : q0 ≤ 8 := by have := hO0.flen; omega
  clear hb1 hO0
  go_wp2_with fail
  go_loopw [15, 5] (fun e15 e5 wr => ∃ (i q cq : Nat) (D : Option Addr), i ≤ q0 ∧ e15 = .int .i64 i ∧ e5 = .slice D q cq ∧ wr.ownsRow w1.heap.size 3 1 (.slice D q cq) q (vI (rawTo (m : Int) rows F i)) ∧ Below w1.heap.size w1 wr) (fun e15 _ _ => q0 - (intOf e15).toNat)
  case atStart => exact ⟨0, 0, 0, none, Nat.zero_le _, rfl, rfl, own_nil _ _ _ _, Below.refl _ _⟩
  case round =>
    obtain ⟨i, q, cq, D, hi, rfl, rfl, hO, hb⟩ := hrel
    have hB := HB1.out.below hb
    have b0 : wr.cell? ⟨w.heap.size, 0, none⟩ = some (.int .i64 (m : Int)) := by simpa using hB.cell 0
    have b1 : wr.cell? ⟨w.heap.size, 1, none⟩ = some (.slice A n c) := by simpa using hB.cell 1
    have hgw := hB.lt
    clear hB
    by_cases hlt : i < q0
    · have hi0 : (0 : Int) ≤ (i : Int) := by omega
      have hi1 : (i : Int) < (q0 : Int) := by omega
      obtain ⟨x, t, gA, off, hsx, hfx, hAe, hg, d1, hrow⟩ := (HRF.out.below hb).at_ hlt
      have hft := HFI.out t (List.mem_of_getElem? hfx)
      have hstep : rawTo (m : Int) rows F (i + 1) = rawTo (m : Int) rows F i ++ rowY (m : Int) rows t n := by
        show _ ++ rowY _ _ (F.getD i []) rows.length = _
        rw [List.getD_eq_getElem?_getD, hfx, Option.getD_some, HL.out]
      have hol2 := (rawTo_msk H36.out F i).2
      obtain ⟨C1, m1, k1⟩ := x
      have hl1 : t.length = m1 := hrow.1
      obtain ⟨O, hOe⟩ : ∃ O, rawTo (m : Int) rows F i = O := ⟨_, rfl⟩
      rw [hOe] at hstep hO hol2
      have hrt : Rd w1 C1 (vC t) := (HRF.out.row i _ _ hsx hfx).2.1
      have HRT := Lib.hid hrt
      have HL1 := Lib.hid hl1
      have HFT := Lib.hid hft
      have HST := Lib.hid hstep
      have HO := Lib.hid hO
      have hOl : O.length ≤ 288 := by omega
      dsimp only at d1
      subst hAe
      clear hsx hfx hrow hstep hO hl1 hft hOe hrt hol2
      go_wp2_with fail
      go_loopw [22, 5] (fun e22 e5 wr => ∃ (y q cq : Nat) (D : Option Addr), y ≤ n ∧ e22 = .int .i64 y ∧ e5 = .slice D q cq ∧ wr.ownsRow w1.heap.size 3 1 (.slice D q cq) q (vI (O ++ rowY (m : Int) rows t y)) ∧ Below w1.heap.size w1 wr) (fun e22 _ _ => n - (intOf e22).toNat)
      case atStart => exact ⟨0, q, cq, D, Nat.zero_le _, rfl, rfl, by simpa [rowY] using HO.out, hb⟩
      case round =>
        clear HO hb b0 b1 hgw d1 hg
        obtain ⟨y, q, cq, D, hy, rfl, rfl, hO, hb⟩ := hrel
        have hB := HB1.out.below hb
        have b0 : wr.cell? ⟨w.heap.size, 0, none⟩ = some (.int .i64 (m : Int)) := by simpa using hB.cell 0
        have b1 : wr.cell? ⟨w.heap.size, 1, none⟩ = some (.slice A n c) := by simpa using hB.cell 1
        have hgw := hB.lt
        clear hB
        by_cases hly : y < n
        · have hy0 : (0 : Int) ≤ (y : Int) := by omega
          have hy1 : (y : Int) < (n : Int) := by omega
          have hstY : rowY (m : Int) rows t (y + 1) = rowY (m : Int) rows t y ++ rowX (m : Int) rows t y m := by show _ ++ rowX _ _ _ _ _ = _; rw [HMT.out]
          have hyl := (rowY_msk H36.out t y).2
          obtain ⟨O2, hO2⟩ : ∃ O2, O ++ rowY (m : Int) rows t y = O2 := ⟨_, rfl⟩
          have hstY2 : O ++ rowY (m : Int) rows t (y + 1) = O2 ++ rowX (m : Int) rows t y m := by rw [hstY, ← List.append_assoc, hO2]
          have hO2l : O2.length ≤ 400 := by
            rw [← hO2, List.length_append]
            have : y * m ≤ 6 * 6 := Nat.mul_le_mul (by omega) hm6
            omega
          rw [hO2] at hO
          have HST2 := Lib.hid hstY2
          have HO := Lib.hid hO
          clear hstY hyl hO2 hstY2 hO
          go_wp2_with fail
          go_loopw [27, 5] (fun e27 e5 wr => ∃ (x q cq : Nat) (D : Option Addr), x ≤ m ∧ e27 = .int .i64 x ∧ e5 = .slice D q cq ∧ wr.ownsRow w1.heap.size 3 1 (.slice D q cq) q (vI (O2 ++ rowX (m : Int) rows t y x)) ∧ Below w1.heap.size w1 wr) (fun e27 _ _ => m - (intOf e27).toNat)
          case atStart => exact ⟨0, q, cq, D, Nat.zero_le _, rfl, rfl, by simpa [rowX] using HO.out, hb⟩
          case round =>
            clear HO hb b0 b1 hgw
            obtain ⟨x, q, cq, D, hx, rfl, rfl, hO, hb⟩ := hrel
            have hB := HB1.out.below hb
            have b0 : wr.cell? ⟨w.heap.size, 0, none⟩ = some (.int .i64 (m : Int)) := by simpa using hB.cell 0
            have b1 : wr.cell? ⟨w.heap.size, 1, none⟩ = some (.slice A n c) := by simpa using hB.cell 1
            have hgw := hB.lt
            clear hB
            have hql : (O2 ++ rowX (m : Int) rows t y x).length = q := by have := own_len hO; rw [vI_length] at this; omega
            have hxl := (rowX_msk H36.out t y x).2
            rw [List.length_append] at hql
            have hq500 : q ≤ 500 := by omega
            by_cases hlx : x < m
            · have hx0 : (0 : Int) ≤ (x : Int) := by omega
              have hx1 : (x : Int) < (m : Int) := by omega
              obtain ⟨r, hmc⟩ : ∃ r, mcV (m : Int) rows (mv t (x : Int) (y : Int)) 0 = r := ⟨_, rfl⟩
              have hstX : O2 ++ rowX (m : Int) rows t y (x + 1) = (O2 ++ rowX (m : Int) rows t y x) ++ optL r := by
                show O2 ++ (_ ++ plAt _ _ _ _ _) = _
                unfold plAt
                rw [hmc, List.append_assoc]
              obtain ⟨O3, hO3⟩ : ∃ O3, O2 ++ rowX (m : Int) rows t y x = O3 := ⟨_, rfl⟩
              rw [hO3] at hstX hO
              have HST3 := Lib.hid hstX
              have HO := Lib.hid hO
              have HMC := Lib.hid hmc
              have HSM : Hid (∀ d ∈ t, small d) := fun d hd => by have := HFT.out.2 d hd; unfold small; omega
              have HSV : Hid (∀ d ∈ mv t (x : Int) (y : Int), small d) := mv_small HFT.out.2 (by omega) (by omega)
              have hm8 : m1 ≤ 8 := by have := HFT.out.1.2; have := HL1.out; omega
              clear hstX hO hmc hO3 hql hxl
              go_wp2_with fail
              refine wp_region_rg 11 rfl (by kernel_rfl) ?_
              (refine rgT (i := 0) (v := ?_) rfl rfl (by kernel_rfl) (by kernel_rfl) (by kernel_rfl) (by rfl) (fun w' hcw => ?_) ?_; rotate_left; ((try dsimp only at hcw); have hbc := hcw.cells; go_simp; first | done | with_reducible rfl); simp only [List.setIfInBounds_toArray, List.set_cons_zero, List.set_cons_succ])
              (refine rgT (i := 1) (v := ?_) rfl rfl (by kernel_rfl) (by kernel_rfl) (by kernel_rfl) (by rfl) (fun w' hcw => ?_) ?_; rotate_left; ((try dsimp only at hcw); have hbc := hcw.cells; go_simp; first | done | with_reducible rfl); simp only [List.setIfInBounds_toArray, List.set_cons_zero, List.set_cons_succ])
              (refine rgT (i := 2) (v := ?_) rfl rfl (by kernel_rfl) (by kernel_rfl) (by kernel_rfl) (by rfl) (fun w' hcw => ?_) ?_; rotate_left; ((try dsimp only at hcw); have hbc := hcw.cells; go_simp; first | done | with_reducible rfl); simp only [List.setIfInBounds_toArray, List.set_cons_zero, List.set_cons_succ])
              (refine rgT (i := 3) (v := ?_) rfl rfl (by kernel_rfl) (by kernel_rfl) (by kernel_rfl) (by rfl) (fun w' hcw => ?_) ?_; rotate_left; ((try dsimp only at hcw); have hbc := hcw.cells; go_simp; first | done | with_reducible rfl); simp only [List.setIfInBounds_toArray, List.set_cons_zero, List.set_cons_succ])
              refine rgK_one (i := 4) (by kernel_rfl) rfl rfl (fun u1 hc1 he1 K hK => ?_)
              go_simp
              refine (moved_i C1 m1 k1 t (x : Int) (y : Int) _ ((HRT.out.below hb).below hc1) HL1.out (by omega) HSM.out (by omega) (by omega)).mono ?_
              rintro e u2 ⟨E, q2, cE, rfl, hoM, hbM⟩
              have hq2 : (mv t (x : Int) (y : Int)).length = q2 := by have := own_len hoM; rw [vC_length] at this; omega
              have hc2 : Below wr.heap.size wr u2 := bel_trans hc1 hbM
              refine hK _ _ hc2 ?_
              clear hK K
              have HRM := Lib.hid (Rd.of_own hoM)
              have HQ2 := Lib.hid hq2
              have hq28 : q2 ≤ 8 := by rw [mv_len] at hq2; have := HL1.out; omega
              clear hoM hq2
              refine rgK_one (i := 5) (by kernel_rfl) rfl rfl (fun u3 hc3 he3 K hK => ?_)
              go_simp
              refine (MaskOfCells_i (m : Int) A E n c q2 cE rows (mv t (x : Int) (y : Int)) _ ((HR1.out.below hb).below hc3) HL.out HV.out (HRM.out.below he3) HQ2.out (by omega) HSV.out).mono ?_
              rw [HMC.out]
              rintro e u4 ⟨rfl, hb4⟩
              have hc4 : Below wr.heap.size wr u4 := bel_trans hc3 hb4
              refine hK _ _ hc4 ?_
              clear hK K
              cases r with
              | none =>
                simp only [mcR]
                (refine rgT (i := 6) (v := ?_) rfl rfl (by kernel_rfl) (by kernel_rfl) (by kernel_rfl) (by rfl) (fun w' hcw => ?_) ?_; rotate_left; ((try dsimp only at hcw); have hbc := hcw.cells; go_simp; first | done | with_reducible rfl); simp only [List.setIfInBounds_toArray, List.set_cons_zero, List.set_cons_succ])
                (refine rgT (i := 7) (v := ?_) rfl rfl (by kernel_rfl) (by kernel_rfl) (by kernel_rfl) (by rfl) (fun w' hcw => ?_) ?_; rotate_left; ((try dsimp only at hcw); have hbc := hcw.cells; go_simp; first | done | with_reducible rfl); simp only [List.setIfInBounds_toArray, List.set_cons_zero, List.set_cons_succ])
                (refine rgT (i := 8) (v := ?_) rfl rfl (by kernel_rfl) (by kernel_rfl) (by kernel_rfl) (by rfl) (fun w' hcw => ?_) ?_; rotate_left; ((try dsimp only at hcw); have hbc := hcw.cells; go_simp; first | done | with_reducible rfl); simp only [List.setIfInBounds_toArray, List.set_cons_zero, List.set_cons_succ])
                (refine rgT (i := 9) (v := ?_) rfl rfl (by kernel_rfl) (by kernel_rfl) (by kernel_rfl) (by rfl) (fun w' hcw => ?_) ?_; rotate_left; ((try dsimp only at hcw); have hbc := hcw.cells; go_simp; first | done | with_reducible rfl); simp only [List.setIfInBounds_toArray, List.set_cons_zero, List.set_cons_succ])
                (refine rgT (i := 10) (v := ?_) rfl rfl (by kernel_rfl) (by kernel_rfl) (by kernel_rfl) (by rfl) (fun w' hcw => ?_) ?_; rotate_left; ((try dsimp only at hcw); have hbc := hcw.cells; go_simp; first | done | with_reducible rfl); simp only [List.setIfInBounds_toArray, List.set_cons_zero, List.set_cons_succ])
                refine ⟨by kernel_rfl, fun wz hcz hez => NoPanic.normal ?_⟩
                go_wp2_with fail
                exact ⟨⟨x + 1, q, cq, D, by omega, by go_num, rfl, by rw [HST3.out]; simpa [optL] using own_keep HO.out hcz, bel_trans hb hcz⟩, by simp [intOf]; omega⟩
              | some v =>
                simp only [mcR]
                (refine rgT (i := 6) (v := ?_) rfl rfl (by kernel_rfl) (by kernel_rfl) (by kernel_rfl) (by rfl) (fun w' hcw => ?_) ?_; rotate_left; ((try dsimp only at hcw); have hbc := hcw.cells; go_simp; first | done | with_reducible rfl); simp only [List.setIfInBounds_toArray, List.set_cons_zero, List.set_cons_succ])
                (refine rgT (i := 7) (v := ?_) rfl rfl (by kernel_rfl) (by kernel_rfl) (by kernel_rfl) (by rfl) (fun w' hcw => ?_) ?_; rotate_left; ((try dsimp only at hcw); have hbc := hcw.cells; go_simp; first | done | with_reducible rfl); simp only [List.setIfInBounds_toArray, List.set_cons_zero, List.set_cons_succ])
                (refine rgT (i := 8) (v := ?_) rfl rfl (by kernel_rfl) (by kernel_rfl) (by kernel_rfl) (by rfl) (fun w' hcw => ?_) ?_; rotate_left; ((try dsimp only at hcw); have hbc := hcw.cells; go_simp; first | done | with_reducible rfl); simp only [List.setIfInBounds_toArray, List.set_cons_zero, List.set_cons_succ])
                (refine rgT (i := 9) (v := ?_) rfl rfl (by kernel_rfl) (by kernel_rfl) (by kernel_rfl) (by rfl) (fun w' hcw => ?_) ?_; rotate_left; ((try dsimp only at hcw); have hbc := hcw.cells; go_simp; first | done | with_reducible rfl); simp only [List.setIfInBounds_toArray, List.set_cons_zero, List.set_cons_succ])
                (refine rgT (i := 10) (v := ?_) rfl rfl (by kernel_rfl) (by kernel_rfl) (by kernel_rfl) (by rfl) (fun w' hcw => ?_) ?_; rotate_left; ((try dsimp only at hcw); have hbc := hcw.cells; go_simp; first | done | with_reducible rfl); simp only [List.setIfInBounds_toArray, List.set_cons_zero, List.set_cons_succ])
                refine ⟨by kernel_rfl, fun wz hcz hez => NoPanic.normal ?_⟩
                have HOZ := Lib.hid (own_keep HO.out hcz)
                have hbz := bel_trans hb hcz
                have hzz := hbz.size
                clear hcz hez hc4 hb4 hc3 he3 hc2 hbM hc1 he1 b0 b1 hgw
                go_wp2_with (at_builtin; go_must (refine app_I _ rfl _ _ rfl w1.heap.size _ _ _ _ rfl (HOZ.out.alloc _) _ _ _ [(v : Int)] rfl (rd_newI _ _ _) rfl (by omega) (by simp; omega) ?_); intro D2 cp2 w8 ho8 hg8 hat8; have HO8 := Lib.hid ho8; have HG8 := Lib.hid hg8; clear ho8 hg8 hat8)
                exact ⟨⟨x + 1, q + 1, cp2, D2, by omega, by go_num, rfl, by rw [HST3.out]; exact HO8.out, bel_app (bel_alloc hbz _) HG8.out (fun g' hg1 => ((own_lt HOZ.out) g' hg1).1)⟩, by simp [intOf]; omega⟩
            · obtain rfl : x = m := by omega
              rw [← HST2.out] at hO
              have HO := Lib.hid hO
              have hx1 : ¬ (x : Int) < (x : Int) := by omega
              clear hO hql hxl
              go_wp2_with fail
              exact ⟨⟨y + 1, q, cq, D, by omega, by go_num, rfl, HO.out, hb⟩, by simp [intOf]; omega⟩
        · obtain rfl : y = n := by omega
          rw [← HST.out] at hO
          have HO := Lib.hid hO
          have hy1 : ¬ (y : Int) < (y : Int) := by omega
          clear hO
          go_wp2_with fail
          exact ⟨⟨i + 1, q, cq, D, by omega, by go_num, rfl, HO.out, hb⟩, by simp [intOf]; omega⟩
    · obtain rfl : i = q0 := by omega
      have hql : (rawTo (m : Int) rows F i).length = q := by have := own_len hO; rw [vI_length] at this; omega
      have hol2 := (rawTo_msk H36.out F i).2
      have HN : Hid (plV (m : Int) rows xs = ord (rawTo (m : Int) rows F i)) := by show _ = _; rw [HPV.out, HFL.out]
      have HO := Lib.hid hO
      have HQL := Lib.hid hql
      have hq3 : q ≤ 288 := by omega
      have hi1 : ¬ (i : Int) < (i : Int) := by omega
      clear hO hql hol2
      go_wp2_with fail
      refine (ordered_i D q cq (rawTo (m : Int) rows F i) _ (Rd.of_own HO.out) HQL.out (by omega)).mono ?_
      rw [← HN.out]
      rintro e w2 ⟨E, q2, c2, rfl, hO2, hb2⟩
      have HO2 := Lib.hid hO2
      have hb02 := bel_trans hbw1 hb
      have hbz := hb02.size
      clear hO2
      go_wp2_with fail
      go_ret
      exact ⟨E, q2, c2, rfl, own_base HO2.out hbz, bel_trans hb02 hb2⟩
theorem pcs_at {P : List (List C)} (h : pcs P = true) : P.length ≤ 5 ∧ ∀ f ∈ P, isShape f = true := by
  refine ⟨(pcs_small h).1, ?_⟩
  unfold pcs at h
  simp only [Bool.and_eq_true, List.all_eq_true] at h
  exact h.1
theorem isProblem_i (W : Int) (A B : Option Addr) (n c q cb : Nat) (rows : List Int) (hs : List H) (P : List (List C)) (w : World) (hr : Rd w A (vI rows)) (hl : rows.length = n) (hp : RdP w B q hs P) (hq : q ≤ 1048576) (hm : totC P ≤ 1048576) :
    Calls Tryz.prog 59 #[.agg #[.int .i64 W, .slice A n c], .slice B q cb] w (Ret w (.bool (isReg W rows && pcs P))) := by
  have HL := Lib.hid hl
  have HR := Lib.hid (hr.alloc (.cells #[.int .i64 W, .slice A n c] 29))
  have HP := Lib.hid (hp.alloc (.cells #[.int .i64 W, .slice A n c] 29))
  have HM := Lib.hid hm
  clear hl hr hp hm
  cases hv : isReg W rows with
  | false =>
    have HV := Lib.hid hv
    clear hv
    go_enter Tryz.func59, Tryz.ntmps59
    go_wp2_with fail
    refine (IsRegion_i _ _ _ _ rows _ HR.out HL.out).mono ?_
    rw [HV.out]
    rintro e w1 ⟨rfl, hb1⟩
    go_wp2_with fail
    go_ret
    exact ⟨rfl, (by (repeat (first | with_reducible exact Below.refl _ _ | with_reducible assumption | with_reducible apply bel_alloc | with_reducible apply bel_drew | with_reducible apply bel_drewN | ((with_reducible refine bel_set ?_ ?_); rotate_left; (simp <;> omega)) | (with_reducible refine bel_trans ?_ (by with_reducible assumption)))))⟩
  | true =>
    have HV := Lib.hid hv
    clear hv
    go_enter Tryz.func59, Tryz.ntmps59
    go_wp2_with fail
    refine (IsRegion_i _ _ _ _ rows _ HR.out HL.out).mono ?_
    rw [HV.out]
    rintro e w1 ⟨rfl, hb1⟩
    go_wp2_with fail
    refine (ArePieces_i B q cb hs P _ (HP.out.below hb1) hq HM.out).mono ?_
    rintro e w2 ⟨rfl, hb2⟩
    go_wp2_with fail
    go_ret
    exact ⟨by simp, (by (repeat (first | with_reducible exact Below.refl _ _ | with_reducible assumption | with_reducible apply bel_alloc | with_reducible apply bel_drew | with_reducible apply bel_drewN | ((with_reducible refine bel_set ?_ ?_); rotate_left; (simp <;> omega)) | (with_reducible refine bel_trans ?_ (by with_reducible assumption)))))⟩
set_option maxHeartbeats 1600000 in
theorem all_i (W : Int) (A B : Option Addr) (n c q cb : Nat) (rows : List Int) (hs : List H) (P : List (List C)) (w : World) (hr : Rd w A (vI rows)) (hl : rows.length = n) (hv : isReg W rows = true) (hp : RdP w B q hs P) (hpc : pcs P = true) :
    Calls Tryz.prog 47 #[.agg #[.int .i64 W, .slice A n c], .slice B q cb] w (RetS w 3 1 (vI (allV W rows P))) := by
  obtain ⟨hq5, hsh⟩ := pcs_at hpc
  rw [hp.flen] at hq5
  have hN : allV W rows P = ord (catTo W rows P q) := by unfold allV; rw [ord_eq, hp.flen]
  have HN := Lib.hid hN
  have HSH := Lib.hid hsh
  have HL := Lib.hid hl
  have HV := Lib.hid hv
  have HR := Lib.hid (hr.alloc (.cells #[.int .i64 W, .slice A n c] 29))
  have HP := Lib.hid (hp.alloc (.cells #[.int .i64 W, .slice A n c] 29))
  have HB1 := Lib.hid (Blk.new w 29 #[.int .i64 W, .slice A n c])
  have hbw1 : Below w.heap.size w (w.alloc (.cells #[.int .i64 W, .slice A n c] 29)) := bel_alloc (Below.refl _ _) _
  clear hl hr hv hp hN hsh hpc
  go_enter Tryz.func47, Tryz.ntmps47
  go_wp2_with fail
  obtain ⟨w1, hw1⟩ : ∃ w1, w.alloc (.cells #[.int .i64 W, .slice A n c] 29) = w1 := ⟨_, rfl⟩
  rw [hw1] at HR HP HB1 hbw1 ⊢
  clear hw1
  go_loopw [10, 5] (fun e10 e5 wr => ∃ (i k cq : Nat) (D : Option Addr), i ≤ q ∧ e10 = .int .i64 i ∧ e5 = .slice D k cq ∧ wr.ownsRow w1.heap.size 3 1 (.slice D k cq) k (vI (catTo W rows P i)) ∧ Below w1.heap.size w1 wr) (fun e10 _ _ => q - (intOf e10).toNat)
  case atStart => exact ⟨0, 0, 0, none, Nat.zero_le _, rfl, rfl, own_nil _ _ _ _, Below.refl _ _⟩
  case round =>
    obtain ⟨i, k, cq, D, hi, rfl, rfl, hO, hb⟩ := hrel
    have hkl : (catTo W rows P i).length = k := by have := own_len hO; rw [vI_length] at this; omega
    have hcl := (catTo_msk W rows P i).2
    have hB := HB1.out.below hb
    have b0 : wr.cell? ⟨w.heap.size, 0, none⟩ = some (.int .i64 W) := by simpa using hB.cell 0
    have b1 : wr.cell? ⟨w.heap.size, 1, none⟩ = some (.slice A n c) := by simpa using hB.cell 1
    have hgw := hB.lt
    have hk : k ≤ 1440 := by omega
    have HKL := Lib.hid hkl
    clear hB hkl hcl
    by_cases hlt : i < q
    · have hi0 : (0 : Int) ≤ (i : Int) := by omega
      have hi1 : (i : Int) < (q : Int) := by omega
      obtain ⟨x, f, g, off, _, hfx, hBe, hg, d1, l1, r1⟩ := (HP.out.below hb).at_ hlt
      have hfs := HSH.out f (List.mem_of_getElem? hfx)
      have hst : catTo W rows P (i + 1) = catTo W rows P i ++ plV W rows f := by
        show _ ++ plV W rows (P.getD i []) = _
        rw [List.getD_eq_getElem?_getD, hfx, Option.getD_some]
      obtain ⟨C1, m1, k1⟩ := x
      have HFS := Lib.hid hfs
      have HR1 := Lib.hid r1
      have HL1 := Lib.hid l1
      have HST := Lib.hid hst
      have HO := Lib.hid hO
      have hpl := plV_len W rows f
      dsimp only at d1
      subst hBe
      clear hfx hst hO r1 l1 hfs
      go_wp2_with fail
      refine (placements_i W A C1 n c m1 k1 rows f _ (HR.out.below hb) HL.out HV.out HR1.out HL1.out HFS.out).mono ?_
      rintro e w2 ⟨E, q2, c2, rfl, hO2, hb2⟩
      have hq2 : (plV W rows f).length = q2 := by have := own_len hO2; rw [vI_length] at this; omega
      have HQ2 := Lib.hid hq2
      have HR2 := Lib.hid (Rd.of_own hO2)
      have HOK := Lib.hid (own_keep HO.out hb2)
      have hb02 := bel_trans hb hb2
      have hbz := hb02.size
      have hq3 : q2 ≤ 288 := by omega
      clear hO2 hq2 hpl d1 b0 b1 hgw
      go_wp2_with (at_builtin; go_must (refine app_I _ rfl _ _ rfl w1.heap.size _ _ _ _ rfl HOK.out _ _ _ (plV W rows f) rfl HR2.out HQ2.out (by omega) (by omega) ?_); intro D2 cp2 w8 ho8 hg8 hat8; have HO8 := Lib.hid ho8; have HG8 := Lib.hid hg8; clear ho8 hg8 hat8)
      exact ⟨⟨i + 1, k + q2, cp2, D2, by omega, by go_num, rfl, by rw [HST.out]; exact HO8.out, bel_app hb02 HG8.out (fun g' hg1 => ((own_lt HOK.out) g' hg1).1)⟩, by simp [intOf]; omega⟩
    · obtain rfl : i = q := by omega
      have HO := Lib.hid hO
      have hi1 : ¬ (i : Int) < (i : Int) := by omega
      clear hO
      go_wp2_with fail
      refine (ordered_i D k cq (catTo W rows P i) _ (Rd.of_own HO.out) HKL.out (by omega)).mono ?_
      rw [← HN.out]
      rintro e w2 ⟨E, q2, c2, rfl, hO2, hb2⟩
      have HO2 := Lib.hid hO2
      have hb02 := bel_trans hbw1 hb
      have hbz := hb02.size
      clear hO2
      go_wp2_with fail
      go_ret
      exact ⟨E, q2, c2, rfl, own_base HO2.out hbz, bel_trans hb02 hb2⟩
end Go.Proofs.YtcgjnonlndaoeaaGreatDoor

/- An append onto a row of the call's own: what was there reads as before, at its old place too. -/
namespace Go.Proofs.YtcgjnonlndaoeaaGreatDoor
open Go.RowKit
set_option linter.unusedVariables false
section
variable {w w' : World} {base e size g off n c : Nat} {xs : List Value}
theorem run_append_Q2 {P : Program} (w : World) {base e size g off n c : Nat} {xs : List Value} (t ty : TypeId) (i : TypeInfo) (z : Value) (bytes : Nat) (ht : P.underlying t = some (.slice e)) (hi : P.info? e = some i) (hz : i.zero = some z)
    (hsize : i.size = size) (hby : i.bytes = bytes) (hzs : z.cells.size = size) (hown : World.ownsQ w base e size g off n c xs)
    (a : Addr) (m c2 : Nat) (news : List Value) (hl : news.length = m * size) (hnews : ∀ j u, news[j]? = some u → w.cell? (a.add j) = some u) (h1 : ∀ u ∈ news, u.oneCell' = true)
    (h63 : n + m ≤ maxLen) (hbytes : (n + m) * bytes ≤ 140737488355328) (hbase : base ≤ w.heap.size) :
    ∃ g' off' c' w', (Builtin.append_ #[t, t] ty #[.slice (some ⟨g, off, none⟩) n c, .slice (some a) m c2]).run P w = .ok (.slice (some ⟨g', off', none⟩) (n + m) c') w' ∧ World.ownsQ w' base e size g' off' (n + m) c' (xs ++ news) ∧ w.grownBy w' (some g) ∧ (g' = g ∧ off' = off ∨ g' = w.heap.size) ∧ Rd w' (some ⟨g, off, none⟩) xs := by
  subst hsize hby
  have hrd := Rd.of_ownQ hown
  obtain ⟨hx, hnc, hcm, hbg, cur, hg, hfit, htake⟩ := hown
  have hlen : (xs ++ news).length = (n + m) * i.size := by rw [List.length_append, hx, hl, Nat.add_mul]
  by_cases hroom : n + m ≤ c
  · have hfit2 : off + n * i.size + news.length ≤ cur.size := by
      have : (n + m) * i.size ≤ c * i.size := Nat.mul_le_mul_right _ hroom
      rw [Nat.add_mul] at this
      omega
    have hf := run_firstCells_some (P := P) w i.size m a m c2 news hl hnews
    have hst := run_storeCells_at P g (off + n * i.size) e news 0 cur w hg (by simpa using hfit2) h1
    simp only [Nat.add_zero] at hst
    have hadd : (⟨g, off, none⟩ : Addr).add (n * i.size) = ⟨g, off + n * i.size, none⟩ := by unfold Addr.add; split <;> simp_all
    refine ⟨g, off, c, _, by simp [Builtin.append_, run_underlying ht, sizeOf, typeInfo, hi, Builtin.lenOf, hroom, hf, hadd, hst]; rfl, ⟨hlen, hroom, hcm, hbg, _, setRow_heap w g cur _ e _ hg, ?_, ?_⟩, ⟨rfl, rfl, rfl, by simp, fun k hk hne => setRow_other w g k _ (fun e => hne (by rw [e]))⟩, .inl ⟨rfl, rfl⟩, ?_⟩
    · simp only [List.size_toArray, List.length_append, List.length_take, List.length_drop, Array.length_toList]
      omega
    · have e1 : (cur.toList.take (off + n * i.size)).drop off = xs := by rw [List.drop_take, Nat.add_sub_cancel_left]; exact htake
      have e2 : off ≤ (cur.toList.take (off + n * i.size)).length := by rw [List.length_take, Array.length_toList]; omega
      rw [← hlen]
      simp only []
      rw [List.drop_append_of_le_length e2, e1, ← List.append_assoc]
      exact List.take_left
    · refine .inr ⟨g, off, rfl, fun k u hu => ?_⟩
      have hk : k < n * i.size := by have := (List.getElem?_eq_some_iff.1 hu).1; omega
      rw [cell_of_row _ g (off + k) _ e (0, 0) (setRow_heap w g cur _ e _ hg)]
      have hc : cur.toList[off + k]? = some u := by
        rw [← htake, List.getElem?_take, if_pos hk, List.getElem?_drop] at hu
        exact hu
      have hlt : off + k < off + n * i.size := by omega
      simp only [List.getElem?_toArray]
      have hcl : off + k < cur.toList.length := (List.getElem?_eq_some_iff.1 hc).1
      have htl : off + k < (cur.toList.take (off + n * i.size)).length := by rw [List.length_take]; omega
      rw [List.getElem?_append_left htl, List.getElem?_take, if_pos hlt]
      exact hc
  · have holds : ∀ j u, xs[j]? = some u → w.cell? ((⟨g, off, none⟩ : Addr).add j) = some u := by
      intro j u hu
      have hadd : (⟨g, off, none⟩ : Addr).add j = ⟨g, off + j, none⟩ := by unfold Addr.add; split <;> simp_all
      rw [hadd]
      rcases hrd with h | ⟨g', off', he, h⟩
      · rw [h] at hu; cases hu
      · injection he with he; injection he with h1 h2; subst h1 h2; exact h j u hu
    have hr := run_append_grow (P := P) w t ty e i z ht hi hz ⟨g, off, none⟩ n c xs hx holds a m c2 news hl hnews (by omega) (by simp only [maxLen] at h63; omega) (growslice_fits (by omega) hbytes)
    have hge := grownCap_ge w (n + m) c e
    have hcm2 : grownCap w (n + m) c e ≤ maxLen := grownCap_le_maxLen w (n + m) c e h63
    refine ⟨_, _, _, _, hr, ⟨hlen, hge, hcm2, hbase, _, heap_alloc_new w.drew _, ?_, ?_⟩, ⟨rfl, rfl, rfl, by simp, fun k hk _ => Below.heap_alloc w.drew _ k hk⟩, .inr rfl, hrd.drew.alloc _⟩
    · simp only [Array.size_append, List.size_toArray, size_zeroCells, hzs, hx, hl, ← Nat.add_mul, Nat.zero_add]
      refine Nat.le_of_eq ?_
      congr 1
      omega
    · simp only [Array.toList_append, List.append_assoc, List.drop_zero]
      rw [← List.append_assoc, ← hlen]
      exact List.take_left
end
section
variable (w : World) {ops : Array Oper} {rest : List Oper} {o : Oper} {a : Act} {Q : Exit → Act → World → Prop}
theorem app_QI2 (hgd : o.guard = none) (s x : Operand) (ho : o.op = .call { callee := .builtin .append, args := #[s, x], argTypes := #[22, 22] })
    (base g off n c : Nat) (l : List Int) (hs : a.eval s = .slice (some ⟨g, off, none⟩) n c) (hown : World.ownsQ w base 3 1 g off n c (vI l))
    (g2 m c2 : Nat) (l2 : List Int) (hx : a.eval x = .slice (some ⟨g2, 0, none⟩) m c2) (hr : ∀ j u, (vI l2)[j]? = some u → w.cell? ((⟨g2, 0, none⟩ : Addr).add j) = some u) (hl : l2.length = m) (hb : n + m ≤ 1099511627776) (hbase : base ≤ w.heap.size)
    (h : ∀ g' off' c' w', World.ownsQ w' base 3 1 g' off' (n + m) c' (vI (l ++ l2)) → w.grownBy w' (some g) → (g' = g ∧ off' = off ∨ g' = w.heap.size) → Rd w' (some ⟨g, off, none⟩) (vI l) → wpList Tryz.prog ops Q rest (a.put o.dst (.slice (some ⟨g', off', none⟩) (n + m) c')) w') :
    wpList Tryz.prog ops Q (o :: rest) a w := by
  obtain ⟨i0, hi, hz0, hz1, hz2⟩ := info_parts infoI
  refine wpList_plain hgd fun K hK => ?_
  obtain ⟨g', off', c', w', hrun, h2, h3, h4, h5⟩ := run_append_Q2 (P := Tryz.prog) w 22 o.type i0 _ 8 Tryz.underlying22 hi hz0 hz1 hz2 rfl hown ⟨g2, 0, none⟩ m c2 (vI l2) (by rw [vI_length, hl]; omega) hr (vI_one _) (by unfold maxLen; omega) (by omega) hbase
  rw [← vI_append] at h2
  unfold Oper.wp execOp
  simp only [ho, resolve, invoke, builtin, Sem.run_bind, Sem.run_pure, Result.andThen_ok, List.map_toArray, List.map_cons, List.map_nil, hs, hx, hrun]
  exact hK _ _ (h g' off' c' w' h2 h3 h4 h5)
end
theorem newI_cells (w : World) (t : TypeId) (x : Int) : ∀ j u, (vI [x])[j]? = some u → (w.alloc (.cells #[.int .i64 x] t)).cell? ((⟨w.heap.size, 0, none⟩ : Addr).add j) = some u := by
  intro j u hu
  have h := rd_newI w t x
  rcases h with h | ⟨g, off, he, h⟩
  · simp [vI] at h
  · injection he with he; injection he with h1 h2; subst h1 h2
    have := h j u hu
    have hadd : (⟨w.heap.size, 0, none⟩ : Addr).add j = ⟨w.heap.size, 0 + j, none⟩ := by unfold Addr.add; split <;> simp_all
    rw [hadd]; exact this
end Go.Proofs.YtcgjnonlndaoeaaGreatDoor

/- The area of a region, its cells, all parts of a mask, small problems: walks. -/
namespace Go.Proofs.YtcgjnonlndaoeaaGreatDoor
open Go.RowKit
set_option linter.unusedVariables false
attribute [local go_sem ↓] Go.wp_at_zero Go.wp_at_succ

theorem pop_le (x : Nat) : pop x ≤ 64 := by unfold pop; have h := List.countP_le_length (p := fun i => x.testBit i) (l := List.range 64); simpa using h
theorem area_le (rows : List Int) : ∀ k, areaTo rows k ≤ 64 * k
  | 0 => Nat.le_refl _
  | k + 1 => by
    show areaTo rows k + pop _ ≤ _
    have h1 := area_le rows k
    have h2 := pop_le (rows.getD k 0).toNat
    omega
theorem AreaOf_i (W : Int) (A : Option Addr) (n c : Nat) (rows : List Int) (w : World) (hr : Rd w A (vI rows)) (hl : rows.length = n) :
    Calls Tryz.prog 48 #[.agg #[.int .i64 W, .slice A n c]] w (Ret w (.int .i64 (areaV W rows))) := by
  have HL := Lib.hid hl
  have HR := Lib.hid (hr.alloc (.cells #[.int .i64 W, .slice A n c] 29))
  have HB1 := Lib.hid (Blk.new w 29 #[.int .i64 W, .slice A n c])
  have hbw1 : Below w.heap.size w (w.alloc (.cells #[.int .i64 W, .slice A n c] 29)) := bel_alloc (Below.refl _ _) _
  cases hv : isReg W rows with
  | false =>
    have HV : Hid (areaV W rows = -1) := by show _ = _; unfold areaV; rw [hv]; rfl
    have HT := Lib.hid hv
    clear hv hl hr HB1
    go_enter Tryz.func48, Tryz.ntmps48
    go_wp2_with fail
    refine (IsRegion_i _ _ _ _ rows _ HR.out HL.out).mono ?_
    rw [HT.out]
    rintro e w1 ⟨rfl, hb1⟩
    go_wp2_with fail
    go_ret
    exact ⟨by rw [HV.out]; rfl, bel_trans hbw1 hb1⟩
  | true =>
    have HT := Lib.hid hv
    obtain ⟨m, rfl, hm1, hm6, hn1, hn6, hrow⟩ := isReg_yes hv
    have hV : areaV (m : Int) rows = ((areaTo rows n : Nat) : Int) := by
      unfold areaV
      rw [if_pos hv, ← hl, area_len hm6 hrow rows.length (Nat.le_refl _)]
      unfold cellsC
      rw [if_pos hv]
    rw [hl] at hn1 hn6
    have HV := Lib.hid hV
    have HROW := Lib.hid hrow
    clear hv hl hr hV hrow
    go_enter Tryz.func48, Tryz.ntmps48
    go_wp2_with fail
    refine (IsRegion_i _ _ _ _ rows _ HR.out HL.out).mono ?_
    rw [HT.out]
    rintro e w1 ⟨rfl, hb1⟩
    have hB := HB1.out.below hb1
    have b1 : w1.cell? ⟨w.heap.size, 1, none⟩ = some (.slice A n c) := by simpa using hB.cell 1
    have hgw := hB.lt
    have HR1 := Lib.hid (HR.out.below hb1)
    have hbw := bel_trans hbw1 hb1
    clear hB HR HB1 hbw1 hb1
    go_wp2_with fail
    go_loopw [12, 3] (fun e12 e3 wr => ∃ k a : Nat, k ≤ n ∧ e12 = .int .i64 k ∧ e3 = .int .i64 (a : Int) ∧ a = areaTo rows k ∧ Below w1.heap.size w1 wr) (fun e12 _ _ => n - (intOf e12).toNat)
    case atStart => exact ⟨0, 0, Nat.zero_le _, rfl, rfl, rfl, Below.refl _ _⟩
    case round =>
      obtain ⟨k, a, hk, rfl, rfl, ha, hb⟩ := hrel
      have hale : a ≤ 64 * k := by rw [ha]; exact area_le rows k
      by_cases hlt : k < n
      · have hkl : k < rows.length := by rw [HL.out]; exact hlt
        have hk0 : (0 : Int) ≤ (k : Int) := by omega
        have hk1 : (k : Int) < (n : Int) := by omega
        obtain ⟨g, off, hA, hg, d1⟩ := RdI.at_ (HR1.out.below hb) hkl
        obtain ⟨z, hq, hq36⟩ := HROW.out k hkl
        have hz62 : z < 2 ^ 62 := Nat.lt_of_lt_of_le hq36 (Nat.pow_le_pow_right (by decide) (by omega))
        have hst : areaTo rows (k + 1) = a + pop z := by
          show areaTo rows k + pop (rows.getD k 0).toNat = _
          rw [ha, List.getD_eq_getElem?_getD, List.getElem?_eq_getElem hkl, Option.getD_some, hq]
          rfl
        rw [hq] at d1
        have hcv : IntKind.u64.wrap (z : Int) = (z : Int) := wraps_u64 _ (by omega) (by omega)
        have hpl := pop_le z
        obtain ⟨pz, hpz⟩ : ∃ pz, pop z = pz := ⟨_, rfl⟩
        rw [hpz] at hst hpl
        have hadd : IntKind.i64.wrap ((a : Int) + (pz : Int)) = (a : Int) + (pz : Int) := Go.IntWalk.i64_in _ (by omega)
        have HST := Lib.hid hst
        have HZ := Lib.hid hz62
        have HPZ := Lib.hid hpz
        subst hA
        clear hq hq36 hz62 hst hpz ha
        go_wp2_with fail
        refine (OnesCount_l z _ HZ.out).mono ?_
        rw [HPZ.out]
        rintro e w2 ⟨rfl, hb2⟩
        go_wp2_with fail
        exact ⟨⟨k + 1, a + pz, by omega, by go_num, by simp, HST.out.symm, bel_trans hb hb2⟩, by simp [intOf]; omega⟩
      · obtain rfl : k = n := by omega
        have HA := Lib.hid ha
        have hk1 : ¬ (k : Int) < (k : Int) := by omega
        clear ha
        go_wp2_with fail
        go_ret
        exact ⟨by rw [HV.out, ← HA.out]; rfl, bel_trans hbw hb⟩

set_option maxHeartbeats 1600000 in
theorem CellsOf_s (W : Int) (A : Option Addr) (n c : Nat) (rows : List Int) (w : World) (hr : Rd w A (vI rows)) (hl : rows.length = n) (hv : isReg W rows = true) :
    Calls Tryz.prog 57 #[.agg #[.int .i64 W, .slice A n c]] w (RetS w 77 2 (vC (cellsC W rows))) := by
  have hC : cellsC W rows = cyTo W rows n := by unfold cellsC; rw [if_pos hv, hl]
  have HT := Lib.hid hv
  obtain ⟨m, rfl, hm1, hm6, hn1, hn6, hrow⟩ := isReg_yes hv
  rw [hl] at hn1 hn6
  obtain ⟨W0, hW0⟩ : ∃ W0, w.alloc (.cells #[.int .i64 (m : Int), .slice A n c] 29) = W0 := ⟨_, rfl⟩
  have hsz : W0.heap.size = w.heap.size + 1 := by rw [← hW0]; simp
  have hI0 : (W0.alloc (.cells #[] 77)).ownsRow W0.heap.size 77 2 (.slice (some ⟨w.heap.size + 1, 0, none⟩) 0 0) 0 (vC []) := by
    have h := own_new W0 77 2 0 #[] rfl (by simp [maxLen]) (Nat.le_refl _)
    rw [hsz] at h ⊢
    exact h
  have HI0 := Lib.hid hI0
  have HC := Lib.hid hC
  have HL := Lib.hid hl
  have HR := Lib.hid (hr.alloc (.cells #[.int .i64 (m : Int), .slice A n c] 29))
  have HB1 := Lib.hid (Blk.new w 29 #[.int .i64 (m : Int), .slice A n c])
  have hbw0 : Below w.heap.size w (w.alloc (.cells #[.int .i64 (m : Int), .slice A n c] 29)) := bel_alloc (Below.refl _ _) _
  rw [hW0] at HR HB1 hbw0
  have hbs0 : w.heap.size ≤ W0.heap.size := by omega
  have HW0 := Lib.hid hW0
  have hmt : ((m : Int)).toNat = m := Int.toNat_natCast _
  have HMT := Lib.hid hmt
  clear hv hl hr hC hI0 hrow hW0 hsz hmt
  go_enter Tryz.func57, Tryz.ntmps57
  go_wp2_with fail
  rw [HW0.out]
  clear HW0
  go_loopw [4, 3] (fun e4 e3 wr => ∃ (y q cq : Nat) (D : Option Addr), y ≤ n ∧ q ≤ 6 * y ∧ e4 = .int .i64 y ∧ e3 = .slice D q cq ∧ wr.ownsRow W0.heap.size 77 2 (.slice D q cq) q (vC (cyTo (m : Int) rows y)) ∧ Below W0.heap.size W0 wr) (fun e4 _ _ => n - (intOf e4).toNat)
  case atStart => exact ⟨0, 0, 0, _, Nat.zero_le _, Nat.zero_le _, rfl, rfl, HI0.out, bel_alloc (Below.refl _ _) _⟩
  case round =>
    clear HI0
    obtain ⟨y, q, cq, D, hy, hq, rfl, rfl, hO, hb⟩ := hrel
    have HO := Lib.hid hO
    clear hO
    have hB := HB1.out.below hb
    have b0 : wr.cell? ⟨w.heap.size, 0, none⟩ = some (.int .i64 (m : Int)) := by simpa using hB.cell 0
    have b1 : wr.cell? ⟨w.heap.size, 1, none⟩ = some (.slice A n c) := by simpa using hB.cell 1
    have hgw := hB.lt
    clear hB
    by_cases hlt : y < n
    · have hy0 : (0 : Int) ≤ (y : Int) := by omega
      have hy1 : (y : Int) < (n : Int) := by omega
      go_wp2_with fail
      refine (IsRegion_s _ _ _ _ rows _ (HR.out.below hb) HL.out).mono ?_
      rw [HT.out]
      rintro e w2 ⟨rfl, hb2⟩
      have HO2 := Lib.hid (own_keep HO.out hb2)
      have hb02 := bel_trans hb hb2
      clear b0 b1 hgw HO hb hb2
      go_wp2_with fail
      go_loopw [5, 3] (fun e5 e3 wr2 => ∃ (x q cq : Nat) (D : Option Addr), x ≤ m ∧ q ≤ 6 * y + x ∧ e5 = .int .i64 x ∧ e3 = .slice D q cq ∧ wr2.ownsRow W0.heap.size 77 2 (.slice D q cq) q (vC (cyTo (m : Int) rows y ++ cxTo (m : Int) rows y x)) ∧ Below W0.heap.size W0 wr2) (fun e5 _ _ => m - (intOf e5).toNat)
      case atStart => exact ⟨0, q, cq, D, Nat.zero_le _, by omega, rfl, rfl, by simpa [cxTo] using HO2.out, hb02⟩
      case round =>
        clear HO2 hb02 hq
        obtain ⟨x, q, cq, D, hx, hq, rfl, rfl, hO, hb⟩ := hrel
        have hB := HB1.out.below hb
        have b0 : wr.cell? ⟨w.heap.size, 0, none⟩ = some (.int .i64 (m : Int)) := by simpa using hB.cell 0
        have b1 : wr.cell? ⟨w.heap.size, 1, none⟩ = some (.slice A n c) := by simpa using hB.cell 1
        have hgw := hB.lt
        clear hB
        by_cases hxm : x < m
        · have hx0 : (0 : Int) ≤ (x : Int) := by omega
          have hx1 : (x : Int) < (m : Int) := by omega
          have hst : cxTo (m : Int) rows y (x + 1) = cxTo (m : Int) rows y x ++ (if hasR (m : Int) rows ((x : Int), (y : Int)) then [((x : Int), (y : Int))] else []) := rfl
          cases hh : hasR (m : Int) rows ((x : Int), (y : Int)) with
          | false =>
            rw [hh] at hst
            simp only [Bool.false_eq_true, if_false, List.append_nil] at hst
            have HH := Lib.hid hh
            have HO := Lib.hid hO
            have HST := Lib.hid hst
            clear hO hst hh
            go_wp2_with fail
            refine (l6In_s (m : Int) A n c rows (x : Int) (y : Int) _ (HR.out.below hb) HL.out HT.out (by omega) (by omega)).mono ?_
            rw [HH.out]
            rintro e w3 ⟨rfl, hb3⟩
            go_wp2_with fail
            exact ⟨⟨x + 1, q, cq, D, by omega, by omega, by go_num, rfl, by rw [HST.out]; exact own_keep HO.out hb3, bel_trans hb hb3⟩, by simp [intOf]; omega⟩
          | true =>
            rw [hh] at hst
            simp only [if_true] at hst
            have HH := Lib.hid hh
            have HO := Lib.hid hO
            have HST := Lib.hid hst
            clear hO hst hh
            go_wp2_with fail
            refine (l6In_s (m : Int) A n c rows (x : Int) (y : Int) _ (HR.out.below hb) HL.out HT.out (by omega) (by omega)).mono ?_
            rw [HH.out]
            rintro e w3 ⟨rfl, hb3⟩
            have HO3 := Lib.hid (own_keep HO.out hb3)
            have hb03 := bel_trans hb hb3
            have hbz := hb03.size
            clear b0 b1 hgw HO hb hb3
            go_wp2_with (at_builtin; go_must (refine app_C _ rfl _ _ rfl W0.heap.size _ _ _ _ rfl (HO3.out.alloc _) _ _ _ [((x : Int), (y : Int))] rfl (rd_newC _ _ _ _) rfl (by omega) (by simp; omega) ?_); intro D2 cp2 w8 ho8 hg8 hat8; have HO8 := Lib.hid ho8; have HG8 := Lib.hid hg8; clear ho8 hg8 hat8)
            exact ⟨⟨x + 1, q + 1, cp2, D2, by omega, by omega, by go_num, rfl, by rw [HST.out, ← List.append_assoc]; exact HO8.out, bel_app (bel_alloc hb03 _) HG8.out (fun g' hg1 => ((own_lt HO3.out) g' hg1).1)⟩, by simp [intOf]; omega⟩
        · obtain rfl : x = m := by omega
          have hst : cyTo (x : Int) rows (y + 1) = cyTo (x : Int) rows y ++ cxTo (x : Int) rows y x := by show cyTo (x : Int) rows y ++ cxTo (x : Int) rows y ((x : Int)).toNat = _; rw [HMT.out]
          have HST := Lib.hid hst
          have HO := Lib.hid hO
          have hx1 : ¬ (x : Int) < (x : Int) := by omega
          clear hO hst
          go_wp2_with fail
          exact ⟨⟨y + 1, q, cq, D, by omega, by omega, by go_num, rfl, by rw [HST.out]; exact HO.out, hb⟩, by simp [intOf]; omega⟩
    · obtain rfl : y = n := by omega
      have hy1 : ¬ (y : Int) < (y : Int) := by omega
      go_wp2_with fail
      go_ret
      exact ⟨_, _, _, rfl, by rw [HC.out]; exact own_base HO.out hbs0, bel_trans hbw0 hb⟩
theorem AreaOf_s (W : Int) (A : Option Addr) (n c : Nat) (rows : List Int) (w : World) (hr : Rd w A (vI rows)) (hl : rows.length = n) :
    Calls Tryz.prog 42 #[.agg #[.int .i64 W, .slice A n c]] w (Ret w (.int .i64 (areaV W rows))) := by
  have HL := Lib.hid hl
  have HR := Lib.hid (hr.alloc (.cells #[.int .i64 W, .slice A n c] 29))
  have HB1 := Lib.hid (Blk.new w 29 #[.int .i64 W, .slice A n c])
  have hbw1 : Below w.heap.size w (w.alloc (.cells #[.int .i64 W, .slice A n c] 29)) := bel_alloc (Below.refl _ _) _
  cases hv : isReg W rows with
  | false =>
    have HV : Hid (areaV W rows = -1) := by show _ = _; unfold areaV; rw [hv]; rfl
    have HT := Lib.hid hv
    clear hv hl hr HB1
    go_enter Tryz.func42, Tryz.ntmps42
    go_wp2_with fail
    refine (IsRegion_s _ _ _ _ rows _ HR.out HL.out).mono ?_
    rw [HT.out]
    rintro e w1 ⟨rfl, hb1⟩
    go_wp2_with fail
    go_ret
    exact ⟨by rw [HV.out]; rfl, bel_trans hbw1 hb1⟩
  | true =>
    have HT := Lib.hid hv
    have HV : Hid (areaV W rows = (((cellsC W rows).length : Nat) : Int)) := by show _ = _; unfold areaV; rw [if_pos hv]
    clear hv hl hr
    go_enter Tryz.func42, Tryz.ntmps42
    go_wp2_with fail
    refine (IsRegion_s _ _ _ _ rows _ HR.out HL.out).mono ?_
    rw [HT.out]
    rintro e w1 ⟨rfl, hb1⟩
    have hB := HB1.out.below hb1
    have b0 : w1.cell? ⟨w.heap.size, 0, none⟩ = some (.int .i64 W) := by simpa using hB.cell 0
    have b1 : w1.cell? ⟨w.heap.size, 1, none⟩ = some (.slice A n c) := by simpa using hB.cell 1
    have hgw := hB.lt
    have HR1 := Lib.hid (HR.out.below hb1)
    have hbw := bel_trans hbw1 hb1
    clear hB HR HB1 hbw1 hb1
    go_wp2_with fail
    refine (CellsOf_s W A n c rows _ HR1.out HL.out HT.out).mono ?_
    rintro e w2 ⟨D, q, cq, rfl, hO, hb2⟩
    have hq : (cellsC W rows).length = q := by have := own_len hO; rw [vC_length] at this; omega
    have HQ := Lib.hid hq
    clear hO hq b0 b1
    go_wp2_with fail
    go_ret
    exact ⟨by rw [HV.out, HQ.out]; rfl, bel_trans hbw hb2⟩
set_option maxHeartbeats 1600000 in
theorem isSmall_i (W : Int) (A B : Option Addr) (n c q cb : Nat) (rows : List Int) (hs : List H) (P : List (List C)) (w : World) (hr : Rd w A (vI rows)) (hl : rows.length = n) (hp : RdP w B q hs P) (hq : q ≤ 1048576) (hm : totC P ≤ 1048576) :
    Calls Tryz.prog 45 #[.agg #[.int .i64 W, .slice A n c], .slice B q cb] w (Ret w (.bool (smallV W rows P))) := by
  have HL := Lib.hid hl
  have HR := Lib.hid (hr.alloc (.cells #[.int .i64 W, .slice A n c] 29))
  have HP := Lib.hid (hp.alloc (.cells #[.int .i64 W, .slice A n c] 29))
  have HB1 := Lib.hid (Blk.new w 29 #[.int .i64 W, .slice A n c])
  have HM := Lib.hid hm
  have hbw1 : Below w.heap.size w (w.alloc (.cells #[.int .i64 W, .slice A n c] 29)) := bel_alloc (Below.refl _ _) _
  clear hl hr hp hm
  cases hv : (isReg W rows && pcs P) with
  | false =>
    have HS : Hid (smallV W rows P = false) := by show _ = _; unfold smallV; rw [hv]; rfl
    have HV := Lib.hid hv
    clear hv
    go_enter Tryz.func45, Tryz.ntmps45
    go_wp2_with fail
    refine (isProblem_i W A B n c q cb rows hs P _ HR.out HL.out HP.out hq HM.out).mono ?_
    rw [HV.out]
    rintro e w1 ⟨rfl, hb1⟩
    go_wp2_with fail
    go_ret
    exact ⟨by rw [HS.out]; rfl, bel_trans hbw1 hb1⟩
  | true =>
    have HS : Hid (smallV W rows P = decide (areaV W rows ≤ 12)) := by show _ = _; unfold smallV; rw [hv]; rfl
    have HV := Lib.hid hv
    clear hv
    go_enter Tryz.func45, Tryz.ntmps45
    go_wp2_with fail
    refine (isProblem_i W A B n c q cb rows hs P _ HR.out HL.out HP.out hq HM.out).mono ?_
    rw [HV.out]
    rintro e w1 ⟨rfl, hb1⟩
    have hB := HB1.out.below hb1
    have b0 : w1.cell? ⟨w.heap.size, 0, none⟩ = some (.int .i64 W) := by simpa using hB.cell 0
    have b1 : w1.cell? ⟨w.heap.size, 1, none⟩ = some (.slice A n c) := by simpa using hB.cell 1
    have hgw := hB.lt
    clear hB
    go_wp2_with fail
    refine (AreaOf_i W A n c rows _ (HR.out.below hb1) HL.out).mono ?_
    rintro e w2 ⟨rfl, hb2⟩
    go_wp2_with fail
    go_ret
    exact ⟨by rw [HS.out]; rfl, bel_trans (bel_trans hbw1 hb1) hb2⟩
set_option maxHeartbeats 1600000 in
theorem l20Fine_s (W : Int) (A B : Option Addr) (n c q cb : Nat) (rows : List Int) (hs : List H) (P : List (List C)) (w : World) (hr : Rd w A (vI rows)) (hl : rows.length = n) (hp : RdP w B q hs P) (hq : q ≤ 1048576) (hm : totC P ≤ 1048576) :
    Calls Tryz.prog 40 #[.agg #[.int .i64 W, .slice A n c], .slice B q cb] w (Ret w (.bool (smallV W rows P))) := by
  have HL := Lib.hid hl
  have HR := Lib.hid (hr.alloc (.cells #[.int .i64 W, .slice A n c] 29))
  have HP := Lib.hid (hp.alloc (.cells #[.int .i64 W, .slice A n c] 29))
  have HB1 := Lib.hid (Blk.new w 29 #[.int .i64 W, .slice A n c])
  have HM := Lib.hid hm
  have hbw1 : Below w.heap.size w (w.alloc (.cells #[.int .i64 W, .slice A n c] 29)) := bel_alloc (Below.refl _ _) _
  clear hl hr hp hm
  cases hv : isReg W rows with
  | false =>
    have HS : Hid (smallV W rows P = false) := by show _ = _; unfold smallV; rw [hv]; rfl
    have HV := Lib.hid hv
    clear hv
    go_enter Tryz.func40, Tryz.ntmps40
    go_wp2_with fail
    refine (IsRegion_s _ _ _ _ rows _ HR.out HL.out).mono ?_
    rw [HV.out]
    rintro e w1 ⟨rfl, hb1⟩
    go_wp2_with fail
    go_ret
    exact ⟨by rw [HS.out]; rfl, bel_trans hbw1 hb1⟩
  | true =>
    cases hpc : pcs P with
    | false =>
      have HS : Hid (smallV W rows P = false) := by show _ = _; unfold smallV; rw [hv, hpc]; rfl
      have HV := Lib.hid hv
      have HPC := Lib.hid hpc
      clear hv hpc
      go_enter Tryz.func40, Tryz.ntmps40
      go_wp2_with fail
      refine (IsRegion_s _ _ _ _ rows _ HR.out HL.out).mono ?_
      rw [HV.out]
      rintro e w1 ⟨rfl, hb1⟩
      go_wp2_with fail
      refine (ArePieces_s B q cb hs P _ (HP.out.below hb1) hq HM.out).mono ?_
      rw [HPC.out]
      rintro e w2 ⟨rfl, hb2⟩
      go_wp2_with fail
      go_ret
      exact ⟨by rw [HS.out]; rfl, bel_trans (bel_trans hbw1 hb1) hb2⟩
    | true =>
      have HS : Hid (smallV W rows P = decide (areaV W rows ≤ 12)) := by show _ = _; unfold smallV; rw [hv, hpc]; rfl
      have HV := Lib.hid hv
      have HPC := Lib.hid hpc
      clear hv hpc
      go_enter Tryz.func40, Tryz.ntmps40
      go_wp2_with fail
      refine (IsRegion_s _ _ _ _ rows _ HR.out HL.out).mono ?_
      rw [HV.out]
      rintro e w1 ⟨rfl, hb1⟩
      go_wp2_with fail
      refine (ArePieces_s B q cb hs P _ (HP.out.below hb1) hq HM.out).mono ?_
      rw [HPC.out]
      rintro e w2 ⟨rfl, hb2⟩
      have hb12 := bel_trans hb1 hb2
      have hB := HB1.out.below hb12
      have b0 : w2.cell? ⟨w.heap.size, 0, none⟩ = some (.int .i64 W) := by simpa using hB.cell 0
      have b1 : w2.cell? ⟨w.heap.size, 1, none⟩ = some (.slice A n c) := by simpa using hB.cell 1
      have hgw := hB.lt
      clear hB
      go_wp2_with fail
      refine (AreaOf_s W A n c rows _ (HR.out.below hb12) HL.out).mono ?_
      rintro e w3 ⟨rfl, hb3⟩
      go_wp2_with fail
      go_ret
      exact ⟨by rw [HS.out]; rfl, bel_trans (bel_trans hbw1 hb12) hb3⟩
end Go.Proofs.YtcgjnonlndaoeaaGreatDoor

/- Coverings with fewest masks: the reference. -/
namespace Go.Proofs.YtcgjnonlndaoeaaGreatDoor
open Go.RowKit
set_option linter.unusedVariables false
attribute [local go_sem ↓] Go.wp_at_zero Go.wp_at_succ

set_option maxRecDepth 100000 in
set_option maxHeartbeats 3200000 in
theorem FewestCovering_s (W : Int) (A B : Option Addr) (n c q cb : Nat) (rows : List Int) (hs : List H) (P : List (List C)) (w : World) (hr : Rd w A (vI rows)) (hl : rows.length = n) (hp : RdP w B q hs P) (hq : q ≤ 1048576) (hm : totC P ≤ 1048576) :
    Calls Tryz.prog 14 #[.agg #[.int .i64 W, .slice A n c], .slice B q cb] w (RetS2 w 3 1 (vI (fewL W rows P)) (.bool (fewcV W rows P).isSome)) := by
  have HL := Lib.hid hl
  have HR := Lib.hid (hr.alloc (.cells #[.int .i64 W, .slice A n c] 29))
  have HP := Lib.hid (hp.alloc (.cells #[.int .i64 W, .slice A n c] 29))
  have HB0 := Lib.hid (Blk.new w 29 #[.int .i64 W, .slice A n c])
  have HM := Lib.hid hm
  have hbw0 : Below w.heap.size w (w.alloc (.cells #[.int .i64 W, .slice A n c] 29)) := bel_alloc (Below.refl _ _) _
  skip
  clear hl hr hp hm
  have HB1 : Hid (∀ {w1 : World}, Below (w.alloc (.cells #[.int .i64 W, .slice A n c] 29)).heap.size (w.alloc (.cells #[.int .i64 W, .slice A n c] 29)) w1 → w1.cell? ⟨w.heap.size, 0, none⟩ = some (.int .i64 W) ∧ w1.cell? ⟨w.heap.size, 1, none⟩ = some (.slice A n c) ∧ w.heap.size < w1.heap.size) := fun h => by
    have hB := HB0.out.below h
    exact ⟨by simpa using hB.cell 0, by simpa using hB.cell 1, hB.lt⟩
  have hfr0 : ∀ u : World, w.heap.size ≤ u.heap.size → (u.alloc (.cells #[] 3)).ownsRow w.heap.size 3 1 (.slice (some ⟨u.heap.size, 0, none⟩) 0 0) 0 (vI []) := fun u hu => own_new u _ 1 0 #[] rfl (by simp [maxLen]) hu
  have HF0 := Lib.hid hfr0
  clear hfr0
  cases hsm : smallV W rows P with
  | false =>
    have hV := fewL_of (W := W) (rows := rows) (P := P) (o := none) (by unfold fewcV; rw [hsm]; rfl)
    have HV := Lib.hid hV
    have HS := Lib.hid hsm
    clear hsm hV
    go_enter Tryz.func14, Tryz.ntmps14
    go_wp2_with fail
    refine (l20Fine_s W A B n c q cb rows hs P _ HR.out HL.out HP.out hq HM.out).mono ?_
    rw [HS.out]
    rintro e w1 ⟨rfl, hb1⟩
    have HB2 := Lib.hid (bel_trans hbw0 hb1)
    clear hb1
    go_wp2_with fail
    go_ret2
    exact ⟨_, _, _, by rw [HV.out.2]; rfl, by rw [HV.out.1]; simp only [Option.getD_none]; rw [ord_nil]; exact HF0.out w1 HB2.out.size, bel_alloc HB2.out _⟩
  | true =>
    obtain ⟨hvr, hpc, a, ha, ha12⟩ := small_parts hsm
    have hfc : fewcV W rows P = fewTo (allV W rows P) (maskV W rows) (a + 1) := by unfold fewcV; rw [if_pos hsm, ha, Int.toNat_natCast]
    have hLm := allV_msk W rows P
    have hLl := allV_len W rows P
    have hp5 := (pcs_at hpc).1
    have hin := allV_in (P := P) hvr
    have hM36 := mask36C W rows
    obtain ⟨L, hL⟩ : ∃ L, allV W rows P = L := ⟨_, rfl⟩
    obtain ⟨M, hMM⟩ : ∃ M, maskV W rows = M := ⟨_, rfl⟩
    rw [hL] at hLm hLl hin hfc
    rw [hMM] at hin hM36 hfc
    have hL5 : L.length ≤ 1440 := by omega
    have hor := orL_lt hLm
    have hreach : orL L L.length ≠ M → fewTo L M (a + 1) = none := fun hne => fewTo_none fun k _ => by
      cases hc : covP L k M with
      | none => rfl
      | some p => exact absurd (cov_reach (by omega) hin hc) hne
    have HV := Lib.hid (fun o (h : fewTo L M (a + 1) = o) => fewL_of (hfc.trans h))
    have HRE := Lib.hid hreach
    have HOR := Lib.hid hor
    have HS := Lib.hid hsm
    have HVR := Lib.hid hvr
    have HPC := Lib.hid hpc
    have HLE := Lib.hid hL
    have HLM := Lib.hid hLm
    have HL5 := Lib.hid hL5
    have HA := Lib.hid ha
    have HMM := Lib.hid hMM
    have HM36 := Lib.hid hM36
    clear hsm hvr hpc hL hMM hLm hLl hp5 hin hL5 hor hreach ha hfc hM36
    go_enter Tryz.func14, Tryz.ntmps14
    go_wp2_with fail
    refine (l20Fine_s W A B n c q cb rows hs P _ HR.out HL.out HP.out hq HM.out).mono ?_
    rw [HS.out]
    rintro e w1 ⟨rfl, hb1⟩
    obtain ⟨b0, b1, bl⟩ := HB1.out hb1
    go_wp2_with fail
    refine (AllPlacements_s W A B n c q cb rows hs P _ (HR.out.below hb1) HL.out HVR.out (HP.out.below hb1) HPC.out).mono ?_
    rw [HLE.out]
    rintro e w2 ⟨gE0, q3, c3, rfl, hO, hb2⟩
    obtain ⟨gE, hgE⟩ : ∃ gE, some (⟨gE0, 0, none⟩ : Addr) = gE := ⟨_, rfl⟩
    rw [hgE] at hO ⊢
    clear hgE
    have hq3 : L.length = q3 := by have := own_len hO; rw [vI_length] at this; omega
    have HQ3 := Lib.hid hq3
    have HRE2 := Lib.hid (Rd.of_own hO)
    have hq4 : q3 ≤ 1440 := by have := HL5.out; omega
    have HB12 := Lib.hid (bel_trans hb1 hb2)
    clear hO hq3 b0 b1 bl hb1 hb2
    go_wp2_with fail
    go_loopw [8, 7] (fun e8 e7 wr => ∃ i r : Nat, i ≤ q3 ∧ e8 = .int .i64 i ∧ e7 = .int .i64 (r : Int) ∧ r = orL L i ∧ Below w2.heap.size w2 wr) (fun e8 _ _ => q3 - (intOf e8).toNat)
    case atStart => exact ⟨0, 0, Nat.zero_le _, rfl, rfl, rfl, Below.refl _ _⟩
    case round =>
      obtain ⟨i, r, hi, rfl, rfl, hro, hb⟩ := hrel
      have HRO := Lib.hid hro
      have HB := Lib.hid hb
      have hr36 : r < 2 ^ 36 := by rw [hro]; exact HOR.out i (by rw [HQ3.out]; exact hi)
      clear hro hb
      by_cases hlt : i < q3
      · have hi0 : (0 : Int) ≤ (i : Int) := by omega
        have hi1 : (i : Int) < (q3 : Int) := by omega
        have hil : i < L.length := by rw [HQ3.out]; exact hlt
        obtain ⟨g, off, hAE, hg, d1⟩ := RdI.at_ (HRE2.out.below HB.out) hil
        obtain ⟨x, hx, hx36⟩ := HLM.out _ (List.getElem_mem hil)
        rw [hx] at d1
        have hst := orL_succ L hil
        rw [hx, Int.toNat_natCast, ← HRO.out] at hst
        obtain ⟨u, hu⟩ : ∃ u, r ||| x = u := ⟨_, rfl⟩
        have hbor : bits .or .i64 (r : Int) (x : Int) = (u : Int) := by rw [i64_or r x (by omega) (by omega), hu]
        rw [hu] at hst
        have HST := Lib.hid hst
        subst hAE
        clear hst hu hx hx36 hr36
        go_wp2_with fail
        exact ⟨⟨i + 1, u, by omega, by go_num, rfl, HST.out.symm, HB.out⟩, by simp [intOf]; omega⟩
      · obtain rfl : i = q3 := by omega
        have hi1 : ¬ (i : Int) < (i : Int) := by omega
        have hrr : r = orL L L.length := by rw [HQ3.out]; exact HRO.out
        have HRR := Lib.hid hrr
        have HB2 := Lib.hid (bel_trans HB12.out HB.out)
        have HBW := Lib.hid (bel_trans hbw0 HB2.out)
        have hM62 : M < 2 ^ 62 := by have := HM36.out; omega
        clear hrr hr36 HRO
        by_cases hrm : r = M
        · have hrI : ((r : Int) == (M : Int)) = true := by simp [hrm]
          clear hrm HRE
          obtain ⟨b0, b1, bl⟩ := HB1.out HB2.out
          go_wp2_with fail
          go_loopw [9] (fun e9 wr2 => ∃ k : Nat, k ≤ a + 1 ∧ e9 = .int .i64 k ∧ fewTo L M k = none ∧ Below wr.heap.size wr wr2) (fun e9 _ => a + 1 - (intOf e9).toNat)
          case atStart => exact ⟨0, Nat.zero_le _, rfl, rfl, Below.refl _ _⟩
          case round =>
            clear b0 b1 bl
            obtain ⟨k, hk, rfl, hno, hb4⟩ := hrel
            have HNO := Lib.hid hno
            have HB4 := Lib.hid (bel_trans HB2.out hb4)
            have HB5 := Lib.hid (bel_trans HB.out hb4)
            have HBS := Lib.hid hb4
            clear hno hb4
            obtain ⟨b0, b1, bl⟩ := HB1.out HB4.out
            go_wp2_with fail
            refine (AreaOf_s W A n c rows _ (HR.out.below HB4.out) HL.out).mono ?_
            rw [HA.out]
            rintro e w5 ⟨rfl, hb5⟩
            have HB45 := Lib.hid (bel_trans HB4.out hb5)
            have HB55 := Lib.hid (bel_trans HB5.out hb5)
            have HBT := Lib.hid (bel_trans HBS.out hb5)
            clear hb5 b0 b1 bl
            obtain ⟨b0, b1, bl⟩ := HB1.out HB45.out
            by_cases hka : k ≤ a
            · have hkI : (k : Int) ≤ (a : Int) := by omega
              go_wp2_with fail
              refine (MaskOf_s W A n c rows _ (HR.out.below HB45.out) HL.out).mono ?_
              rw [HMM.out]
              rintro e w6 ⟨rfl, hb6⟩
              have HB46 := Lib.hid (bel_trans HB45.out hb6)
              have HB56 := Lib.hid (bel_trans HB55.out hb6)
              have HBU := Lib.hid (bel_trans HBT.out hb6)
              clear hb6 b0 b1 bl
              obtain ⟨b0, b1, bl⟩ := HB1.out HB46.out
              go_wp2_with fail
              refine (MaskOf_s W A n c rows _ (HR.out.below HB46.out) HL.out).mono ?_
              rw [HMM.out]
              rintro e w7 ⟨rfl, hb7⟩
              have HB47 := Lib.hid (bel_trans HB46.out hb7)
              have HB57 := Lib.hid (bel_trans HB56.out hb7)
              have HBV := Lib.hid (bel_trans HBU.out hb7)
              clear hb7 b0 b1 bl
              go_wp2_with fail
              obtain ⟨o, ho⟩ : ∃ o, covP L k M = o := ⟨_, rfl⟩
              have hC := l21Cover_s gE i c3 L HQ3.out (by omega) HLM.out k M w7 (HRE2.out.below HB57.out) HM36.out (by omega)
              rw [ho] at hC
              have HC := Lib.hid hC
              have HO := Lib.hid ho
              clear hC ho
              cases o with
              | none =>
                have HN2 := Lib.hid (fewTo_next HNO.out HO.out)
                refine HC.out.mono ?_
                rintro e w8 ⟨g8, k8, c8, rfl, hO8, hb8⟩
                clear hO8
                have HBX := Lib.hid (bel_trans HBV.out hb8)
                clear hb8
                go_wp2_with fail
                exact ⟨⟨k + 1, by omega, by go_num, HN2.out, HBX.out⟩, by simp [intOf]; omega⟩
              | some p =>
                have hE := HV.out _ (fewTo_some HNO.out HO.out (a + 1) (by omega))
                have HE := Lib.hid hE
                refine HC.out.mono ?_
                rintro e w8 ⟨g8, k8, c8, rfl, hO8, hb8⟩
                have HO8 := Lib.hid hO8
                have HBX := Lib.hid (bel_trans hbw0 (bel_trans HB47.out hb8))
                have hsz : w.heap.size ≤ w7.heap.size := by have h1 := HB47.out.size; have h2 := hbw0.size; omega
                clear hb8 hO8 hE
                go_wp2_with fail
                go_ret2
                exact ⟨_, _, _, by rw [HE.out.2]; rfl, by rw [HE.out.1, ← putP_eq]; exact own_base HO8.out hsz, HBX.out⟩
            · have hkI : ¬ (k : Int) ≤ (a : Int) := by omega
              obtain rfl : k = a + 1 := by omega
              have HE := Lib.hid (HV.out _ HNO.out)
              have HBX := Lib.hid (bel_trans hbw0 HB45.out)
              go_wp2_with fail
              go_ret2
              exact ⟨_, _, _, by rw [HE.out.2]; rfl, by rw [HE.out.1]; simp only [Option.getD_none]; rw [ord_nil]; exact HF0.out w5 HBX.out.size, bel_alloc HBX.out _⟩
        · have hrI : ((r : Int) == (M : Int)) = false := by simp; omega
          have HE := Lib.hid (HV.out _ (HRE.out (fun e => hrm (HRR.out.trans e))))
          clear hrm HRE
          obtain ⟨b0, b1, bl⟩ := HB1.out HB2.out
          have ha0 : (0 : Int) ≤ (a : Int) := by omega
          go_wp2_with fail
          go_loopw [9] (fun e9 wr2 => e9 = .int .i64 0 ∧ wr2 = wr) (fun _ _ => 0)
          case atStart => exact ⟨rfl, rfl⟩
          case round =>
            obtain ⟨rfl, rfl⟩ := hrel
            go_wp2_with fail
            refine (AreaOf_s W A n c rows _ (HR.out.below HB2.out) HL.out).mono ?_
            rw [HA.out]
            rintro e w5 ⟨rfl, hb5⟩
            have HB45 := Lib.hid (bel_trans HB2.out hb5)
            clear hb5 b0 b1 bl
            obtain ⟨b0, b1, bl⟩ := HB1.out HB45.out
            go_wp2_with fail
            refine (MaskOf_s W A n c rows _ (HR.out.below HB45.out) HL.out).mono ?_
            rw [HMM.out]
            rintro e w6 ⟨rfl, hb6⟩
            have HBX := Lib.hid (bel_trans hbw0 (bel_trans HB45.out hb6))
            clear hb6
            go_wp2_with fail
            go_ret2
            exact ⟨_, _, _, by rw [HE.out.2]; rfl, by rw [HE.out.1]; simp only [Option.getD_none]; rw [ord_nil]; exact HF0.out w6 HBX.out.size, bel_alloc HBX.out _⟩
end Go.Proofs.YtcgjnonlndaoeaaGreatDoor

/- All parts of a mask: the program's walk. -/
namespace Go.Proofs.YtcgjnonlndaoeaaGreatDoor
open Go.RowKit
set_option linter.unusedVariables false
attribute [local go_sem ↓] Go.wp_at_zero Go.wp_at_succ

def sI (l : List Nat) : List Int := l.map fun (x : Nat) => (x : Int)
theorem sI_app (a b : List Nat) : sI (a ++ b) = sI a ++ sI b := by simp [sI]
theorem sI_len (a : List Nat) : (sI a).length = a.length := by simp [sI]
def RetRd (w : World) (l : List Int) (e : Ending) (w' : World) : Prop :=
  ∃ A n c, e = .returned (.slice A n c) ∧ Rd w' A (vI l) ∧ l.length = n ∧ Below w.heap.size w w'
theorem bitsL_le (mask : Nat) : ∀ k, (bitsL mask k).length ≤ k
  | 0 => Nat.le_refl _
  | k + 1 => by
    show (bitsL mask k ++ _).length ≤ _
    have := bitsL_le mask k
    rw [List.length_append]
    split <;> simp <;> omega
theorem sub_len_le (mask : Nat) {k : Nat} (hk : k ≤ 36) : (subTo mask k).length ≤ 2 ^ 36 := by
  rw [subTo_len]
  exact Nat.pow_le_pow_right (by decide) (by have := bitsL_le mask k; omega)
theorem rd_prefix {w : World} {A : Option Addr} {xs ys : List Value} (h : Rd w A (xs ++ ys)) : Rd w A xs := by
  rcases h with h | ⟨g, off, rfl, h⟩
  · exact .inl (List.append_eq_nil_iff.1 h).1
  · refine .inr ⟨g, off, rfl, fun j v hv => h j v ?_⟩
    rw [List.getElem?_append_left (List.getElem?_eq_some_iff.1 hv).1]
    exact hv
set_option maxHeartbeats 1600000 in
theorem subsets_i (mask : Nat) (w : World) (hm : mask < 2 ^ 36) : Calls Tryz.prog 54 #[.int .i64 (mask : Int)] w (RetRd w (sI (subTo mask 36))) := by
  have h0 := own_new w 3 1 1 #[.int .i64 0] rfl (by simp [maxLen]) (Nat.le_refl _)
  obtain ⟨g0, he, hq0⟩ := ownQ_of h0 (by omega)
  injection he with he
  injection he with he1
  subst he1
  have hq0' : World.ownsQ (w.alloc (.cells #[.int .i64 0] 3)) w.heap.size 3 1 w.heap.size 0 1 1 (vI (sI (subTo mask 0))) := by simpa [vI, sI, subTo, bitsL, subL] using hq0
  have HQ0 := Lib.hid hq0'
  have HM := Lib.hid hm
  clear h0 hq0 hq0'
  go_enter Tryz.func54, Tryz.ntmps54
  go_wp2_with fail
  go_loopw [4, 3] (fun e4 e3 wr => ∃ (k g off q cq : Nat), k ≤ 36 ∧ e4 = .int .i64 k ∧ e3 = .slice (some ⟨g, off, none⟩) q cq ∧ (subTo mask k).length = q ∧ World.ownsQ wr w.heap.size 3 1 g off q cq (vI (sI (subTo mask k))) ∧ Below w.heap.size w wr) (fun e4 _ _ => 36 - (intOf e4).toNat)
  case atStart => exact ⟨0, _, 0, 1, 1, by omega, rfl, rfl, rfl, HQ0.out, bel_alloc (Below.refl _ _) _⟩
  case round =>
    clear HQ0
    obtain ⟨k, g, off, q, cq, hk, rfl, rfl, hlen, hO, hb⟩ := hrel
    have hql := sub_len_le mask hk
    rw [hlen] at hql
    have HLEN := Lib.hid hlen
    have HO := Lib.hid hO
    clear hlen hO
    have hk0 : (0 : Int) ≤ (k : Int) := by omega
    have hk64 : (k : Int) ≤ 64 := by omega
    have ek : IntKind.i64.wrap (k : Int) = (k : Int) := Go.IntWalk.i64_in _ (by omega)
    have hbit := bit_testP mask k (by omega)
    obtain ⟨d, hd⟩ : ∃ d, mask / 2 ^ k = d := ⟨_, rfl⟩
    have hdI : (mask : Int) / 2 ^ k = (d : Int) := by rw [← hd]; simp
    rw [hdI] at hbit
    by_cases hd0 : d = 0
    · have hlt : mask < 2 ^ k := by
        rw [hd0] at hd
        rcases (Nat.div_eq_zero_iff).1 hd with h | h
        · have := Nat.pow_pos (n := k) (show 0 < 2 by decide); omega
        · exact h
      have hE := subTo_end hlt (36 - k)
      rw [show k + (36 - k) = 36 by omega] at hE
      have HE := Lib.hid hE
      have hne : ((d : Int) != 0) = false := by simp [hd0]
      clear hlt hE hd hd0 hbit
      go_wp2_with fail
      go_ret
      exact ⟨_, _, _, rfl, by rw [HE.out]; exact Rd.of_ownQ HO.out, by rw [HE.out, sI_len]; exact HLEN.out, hb⟩
    · have hk36 : k < 36 := by
        rcases Nat.lt_or_ge k 36 with h | h
        · exact h
        · exfalso
          apply hd0
          rw [← hd]
          exact Nat.div_eq_of_lt (by rw [show k = 36 by omega]; exact HM.out)
      have hne : ((d : Int) != 0) = true := by simp [hd0]
      have hsucc := subTo_succ mask k
      clear hd hd0
      cases hbt : mask.testBit k with
      | false =>
        rw [hbt] at hbit hsucc
        simp only [Bool.false_eq_true, if_false] at hsucc
        have HSU := Lib.hid hsucc
        clear hsucc hbt
        go_wp2_with fail
        exact ⟨⟨k + 1, g, off, q, cq, by omega, by go_num, rfl, by rw [HSU.out]; exact HLEN.out, by rw [HSU.out]; exact HO.out, hb⟩, by simp [intOf]; omega⟩
      | true =>
        rw [hbt] at hbit hsucc
        simp only [if_true] at hsucc
        have HSU := Lib.hid hsucc
        have hSlt := subTo_lt mask k
        obtain ⟨S, hS⟩ : ∃ S, subTo mask k = S := ⟨_, rfl⟩
        rw [hS] at HLEN HO HSU hSlt
        have HSL := Lib.hid hSlt
        have hcq : q ≤ cq := HO.out.2.1
        have hgq := (ownQ_lt HO.out).2
        clear hsucc hbt hS hSlt
        go_wp2_with fail
        go_loopw [26, 3] (fun e26 e3 wr2 => ∃ (i g2 off2 c2 : Nat), i ≤ q ∧ e26 = .int .i64 i ∧ e3 = .slice (some ⟨g2, off2, none⟩) (q + i) c2 ∧ World.ownsQ wr2 w.heap.size 3 1 g2 off2 (q + i) c2 (vI (sI (S ++ (S.take i).map (· ||| 2 ^ k)))) ∧ (g2 = g ∧ off2 = off ∨ g2 ≠ g) ∧ Rd wr2 (some ⟨g, off, none⟩) (vI (sI S)) ∧ g < wr2.heap.size ∧ Below w.heap.size w wr2) (fun e26 _ _ => q - (intOf e26).toNat)
        case atStart => exact ⟨0, g, off, cq, Nat.zero_le _, rfl, rfl, by simpa using HO.out, .inl ⟨rfl, rfl⟩, Rd.of_ownQ HO.out, hgq, hb⟩
        case round =>
          clear HO hbit hdI hne hb hgq hcq
          obtain ⟨i, g2, off2, c2, hi, rfl, rfl, hO, hgg, hR, hgs, hb⟩ := hrel
          have HO := Lib.hid hO
          have HGG := Lib.hid hgg
          have HR := Lib.hid hR
          clear hO hgg hR
          by_cases hlt : i < q
          · have hiS : i < S.length := by rw [HLEN.out]; exact hlt
            have hkl : i < (sI S).length := by rw [sI_len]; exact hiS
            have hi0 : (0 : Int) ≤ (i : Int) := by omega
            have hi1 : (i : Int) < (q : Int) := by omega
            obtain ⟨g1, off1, hA, hg1, d1⟩ := RdI.at_ HR.out hkl
            injection hA with hA
            injection hA with hA1 hA2
            subst hA1 hA2
            obtain ⟨x, hx⟩ : ∃ x, S[i] = x := ⟨_, rfl⟩
            have hxI : (sI S)[i] = (x : Int) := by rw [← hx]; simp [sI]
            rw [hxI] at d1
            have hxk : x < 2 ^ k := by rw [← hx]; exact HSL.out _ (List.getElem_mem hiS)
            have hxb : x.testBit k = false := Nat.testBit_lt_two_pow hxk
            have h2k : (2 : Nat) ^ k < 2 ^ 36 := Nat.pow_lt_pow_right (by decide) hk36
            have hx62 : x < 2 ^ 62 := by omega
            have hor := or_bit hx62 (show k < 62 by omega) hxb
            have hbor := i64_or x (2 ^ k) (by omega) (by omega)
            have hst : S ++ (S.take (i + 1)).map (· ||| 2 ^ k) = (S ++ (S.take i).map (· ||| 2 ^ k)) ++ [x ||| 2 ^ k] := by
              rw [List.take_succ_eq_append_getElem hiS, List.map_append, hx, List.append_assoc]
              rfl
            obtain ⟨u, hu⟩ : ∃ u, x ||| 2 ^ k = u := ⟨_, rfl⟩
            rw [hu] at hbor hst
            have HST := Lib.hid hst
            obtain ⟨t, ht⟩ : ∃ t : Nat, 2 ^ k = t := ⟨_, rfl⟩
            have htI : (2 : Int) ^ k = (t : Int) := by rw [← ht]; simp
            rw [ht] at hbor h2k
            have et : IntKind.i64.wrap (t : Int) = (t : Int) := Go.IntWalk.i64_in _ (by omega)
            have hbz := hb.size
            have hgw2 := (ownQ_lt HO.out).2
            clear hst hu ht hor hxb hxk hx62 hx hxI HSL
            go_wp2_with (at_builtin; go_must (refine app_QI2 _ rfl _ _ rfl w.heap.size g2 off2 (q + i) c2 _ rfl (ownQ_keep HO.out (bel_alloc (Below.refl _ _) _)) wr.heap.size _ _ [(u : Int)] rfl (newI_cells _ _ _) rfl (by omega) (by simp; omega) ?_); intro g' off' c' w8 hq8 hg8 hg' hr8; have HQ8 := Lib.hid hq8; have HG8 := Lib.hid hg8; have HGN := Lib.hid hg'; have HR8 := Lib.hid hr8; clear hq8 hg8 hg' hr8)
            have hRd : Rd w8 (some ⟨g, off, none⟩) (vI (sI S)) := by
              rcases HGG.out with ⟨e1, e2⟩ | e
              · have h := HR8.out
                rw [e1, e2, sI_app, vI_append] at h
                exact rd_prefix h
              · exact (HR.out.alloc _).grown HG8.out (fun b h r => by simp only [ob, Option.map_some, Option.some.injEq] at h r; omega)
            have hgg : (g' = g ∧ off' = off) ∨ g' ≠ g := by
              rcases HGN.out with ⟨e1, e2⟩ | e
              · rw [e1, e2]; exact HGG.out
              · right; simp at e; omega
            have hsz := HG8.out.size
            exact ⟨⟨i + 1, g', off', c', by omega, by go_num, rfl, by rw [HST.out, sI_app]; exact HQ8.out, hgg, hRd, by simp at hsz; omega, bel_app (bel_alloc hb _) (show World.grownBy _ w8 (ob (some ⟨g2, off2, none⟩)) from HG8.out) (fun b hb1 => by simp only [ob, Option.map_some, Option.some.injEq] at hb1; have := (ownQ_lt HO.out).1; omega)⟩, by simp [intOf]; omega⟩
          · obtain rfl : i = q := by omega
            have hi1 : ¬ (i : Int) < (i : Int) := by omega
            go_wp2_with fail
            exact ⟨⟨k + 1, g2, off2, i + i, c2, by omega, by go_num, rfl, by rw [HSU.out, List.length_append, List.length_map, HLEN.out], by rw [HSU.out]; have h := HO.out; rw [List.take_of_length_le (by rw [HLEN.out]; omega)] at h; exact h, hb⟩, by simp [intOf]; omega⟩
end Go.Proofs.YtcgjnonlndaoeaaGreatDoor

/- Masks scattered over placements: both sides. -/
namespace Go.Proofs.YtcgjnonlndaoeaaGreatDoor
open Go.RowKit
set_option linter.unusedVariables false
attribute [local go_sem ↓] Go.wp_at_zero Go.wp_at_succ

def okMask2 (W : Int) (rows : List Int) (x : Int) : Bool := decide (0 ≤ x) && inM x.toNat (maskV W rows)
theorem maskV_62b {W : Int} {rows : List Int} (h : isReg W rows = true) : maskV W rows < 2 ^ 36 := by
  obtain ⟨m, rfl, hm1, hm6, hn1, hn6, hrow⟩ := isReg_yes h
  unfold maskV
  rw [if_pos h]
  have h1 := mkTo_lt hrow rows.length (Nat.le_refl _)
  rw [Int.toNat_natCast]
  exact Nat.lt_of_lt_of_le h1 (Nat.pow_le_pow_right (by decide) (by have := Nat.mul_le_mul hn6 hm6; omega))
theorem isMaskP_i (W : Int) (A : Option Addr) (h c : Nat) (rows : List Int) (x : Int) (w : World) (hr : Rd w A (vI rows)) (hl : rows.length = h) (hv : isReg W rows = true) (hx : x < 9223372036854775808) :
    Calls Tryz.prog 60 #[.agg #[.int .i64 W, .slice A h c], .int .i64 x] w (Ret w (.bool (okMask2 W rows x))) := by
  have HL := Lib.hid hl
  have HT := Lib.hid hv
  have hm62 := maskV_62b hv
  clear hl hv
  by_cases h0 : 0 ≤ x
  · obtain ⟨k, rfl⟩ : ∃ k : Nat, x = (k : Int) := ⟨x.toNat, by omega⟩
    obtain ⟨v, hve⟩ : ∃ v, maskV W rows = v := ⟨_, rfl⟩
    have hV : okMask2 W rows (k : Int) = inM k v := by unfold okMask2; rw [hve, decide_eq_true h0]; rfl
    rw [hve] at hm62
    have hand := i64_andNot k v (by omega) (by omega)
    obtain ⟨t, ht⟩ : ∃ t, k - (k &&& v) = t := ⟨_, rfl⟩
    rw [ht] at hand
    have hti := sub_zero_iff k v
    rw [ht] at hti
    have hge : (k : Int) ≥ 0 := h0
    have HVE := Lib.hid hve
    cases hi : inM k v with
    | true =>
      rw [hi] at hV hti
      have HV := Lib.hid hV
      have ht0 : ((t : Int) == 0) = true := by have := hti.2 rfl; simp [this]
      clear hV hti ht hi hm62 hve
      go_enter Tryz.func60, Tryz.ntmps60
      go_wp2_with fail
      refine (mask_i _ _ _ _ rows _ (hr.alloc _) HL.out HT.out).mono ?_
      rw [HVE.out]
      rintro e w1 ⟨rfl, hb1⟩
      go_wp2_with fail
      go_ret
      exact ⟨by rw [HV.out]; rfl, (by (repeat (first | with_reducible exact Below.refl _ _ | with_reducible assumption | with_reducible apply bel_alloc | with_reducible apply bel_drew | with_reducible apply bel_drewN | ((with_reducible refine bel_set ?_ ?_); rotate_left; (simp <;> omega)) | (with_reducible refine bel_trans ?_ (by with_reducible assumption)))))⟩
    | false =>
      rw [hi] at hV hti
      have HV := Lib.hid hV
      have ht0 : ((t : Int) == 0) = false := by rw [beq_eq_false_iff_ne]; intro h; exact absurd (hti.1 (by omega)) (by decide)
      clear hV hti ht hi hm62 hve
      go_enter Tryz.func60, Tryz.ntmps60
      go_wp2_with fail
      refine (mask_i _ _ _ _ rows _ (hr.alloc _) HL.out HT.out).mono ?_
      rw [HVE.out]
      rintro e w1 ⟨rfl, hb1⟩
      go_wp2_with fail
      go_ret
      exact ⟨by rw [HV.out]; rfl, (by (repeat (first | with_reducible exact Below.refl _ _ | with_reducible assumption | with_reducible apply bel_alloc | with_reducible apply bel_drew | with_reducible apply bel_drewN | ((with_reducible refine bel_set ?_ ?_); rotate_left; (simp <;> omega)) | (with_reducible refine bel_trans ?_ (by with_reducible assumption)))))⟩
  · have HV : Hid (okMask2 W rows x = false) := by show okMask2 W rows x = false; unfold okMask2; rw [decide_eq_false h0]; rfl
    have hge : decide (x ≥ 0) = false := by simpa using h0
    go_enter Tryz.func60, Tryz.ntmps60
    go_wp2_with fail
    go_ret
    exact ⟨by rw [HV.out]; rfl, (by (repeat (first | with_reducible exact Below.refl _ _ | with_reducible assumption | with_reducible apply bel_alloc | with_reducible apply bel_drew | with_reducible apply bel_drewN | ((with_reducible refine bel_set ?_ ?_); rotate_left; (simp <;> omega)) | (with_reducible refine bel_trans ?_ (by with_reducible assumption)))))⟩

theorem scat_lt {a b : Nat} (hb : b < 2 ^ 62) : a &&& b < 2 ^ 62 := Nat.lt_of_le_of_lt Nat.and_le_right hb
theorem scattered_i (A : Option Addr) (n c : Nat) (L : List Int) (mask : Nat) (w : World) (hr : Rd w A (vI L)) (hl : L.length = n) (hn : n ≤ 1048576) (hL : Msk 36 L) (hm : mask < 2 ^ 62) :
    Calls Tryz.prog 56 #[.slice A n c, .int .i64 (mask : Int)] w (Ret w (.bool (scatL L mask))) := by
  have HL := Lib.hid hl
  have HM := Lib.hid hL
  have HR := Lib.hid hr
  clear hl hL hr
  go_enter Tryz.func56, Tryz.ntmps56
  go_wp2_with fail
  go_loopw [9] (fun e9 wr => ∃ k : Nat, k ≤ n ∧ e9 = .int .i64 k ∧ scatL L mask = (L.drop k).all (fun m => decide (pop (m.toNat &&& mask) ≤ 1)) ∧ Below w.heap.size w wr) (fun e9 _ => n - (intOf e9).toNat)
  case atStart => exact ⟨0, Nat.zero_le _, rfl, rfl, Below.refl _ _⟩
  case round =>
    obtain ⟨k, hk, rfl, hs, hb⟩ := hrel
    by_cases hlt : k < n
    · have hkl : k < L.length := by rw [HL.out]; exact hlt
      have hk0 : (0 : Int) ≤ (k : Int) := by omega
      have hk1 : (k : Int) < (n : Int) := by omega
      obtain ⟨g, off, hA, hg, d1⟩ := RdI.at_ (HR.out.below hb) hkl
      obtain ⟨q, hq, hq36⟩ := HM.out _ (List.getElem_mem hkl)
      rw [List.drop_eq_getElem_cons hkl, List.all_cons, hq, Int.toNat_natCast] at hs
      rw [hq] at d1
      obtain ⟨z, hz⟩ : ∃ z, q &&& mask = z := ⟨_, rfl⟩
      have hz62 : z < 2 ^ 62 := by rw [← hz]; exact scat_lt hm
      have hand : bits .and .i64 (q : Int) (mask : Int) = (z : Int) := by rw [i64_and q mask (by omega) (by omega), hz]
      have hcv : IntKind.u64.wrap (z : Int) = (z : Int) := wraps_u64 _ (by omega) (by omega)
      rw [hz] at hs
      have hpl : pop z ≤ 64 := by unfold pop; have h := List.countP_le_length (p := fun i => z.testBit i) (l := List.range 64); simpa using h
      have HZ := Lib.hid hz62
      subst hA
      clear hq hq36 hz hz62
      by_cases h1 : pop z ≤ 1
      · have hs2 : scatL L mask = (L.drop (k + 1)).all (fun m => decide (pop (m.toNat &&& mask) ≤ 1)) := by rw [hs, decide_eq_true h1, Bool.true_and]
        have HS := Lib.hid hs2
        obtain ⟨pz, hpz⟩ : ∃ pz, pop z = pz := ⟨_, rfl⟩
        rw [hpz] at h1
        have HPZ := Lib.hid hpz
        have hgt : ¬ (pz : Int) > 1 := by omega
        clear hs hs2 hpl hpz
        go_wp2_with fail
        refine (OnesCount_l z _ HZ.out).mono ?_
        rw [HPZ.out]
        rintro e w1 ⟨rfl, hb1⟩
        go_wp2_with fail
        exact ⟨⟨k + 1, by omega, by go_num, HS.out, bel_trans hb hb1⟩, by simp [intOf]; omega⟩
      · have hs2 : scatL L mask = false := by rw [hs, decide_eq_false h1, Bool.false_and]
        have HS := Lib.hid hs2
        obtain ⟨pz, hpz⟩ : ∃ pz, pop z = pz := ⟨_, rfl⟩
        rw [hpz] at h1
        have HPZ := Lib.hid hpz
        have hgt : (pz : Int) > 1 := by omega
        clear hs hs2 hpl hpz
        go_wp2_with fail
        refine (OnesCount_l z _ HZ.out).mono ?_
        rw [HPZ.out]
        rintro e w1 ⟨rfl, hb1⟩
        go_wp2_with fail
        go_ret
        exact ⟨by rw [HS.out]; rfl, bel_trans hb hb1⟩
    · obtain rfl : k = n := by omega
      rw [List.drop_of_length_le (by rw [HL.out]; omega)] at hs
      have HS := Lib.hid hs
      have hk1 : ¬ (k : Int) < (k : Int) := by omega
      clear hs
      go_wp2_with fail
      go_ret
      exact ⟨by rw [HS.out]; rfl, hb⟩
theorem and0 : bits .and .i64 (0 : Int) (-1) = 0 := by decide
theorem l21Apart_s (A : Option Addr) (n c : Nat) (L : List Int) (mask : Nat) (w : World) (hr : Rd w A (vI L)) (hl : L.length = n) (hn : n ≤ 1048576) (hL : Msk 36 L) (hm : mask < 2 ^ 62) :
    Calls Tryz.prog 58 #[.slice A n c, .int .i64 (mask : Int)] w (Ret w (.bool (scatL L mask))) := by
  have HL := Lib.hid hl
  have HM := Lib.hid hL
  have HR := Lib.hid hr
  clear hl hL hr
  go_enter Tryz.func58, Tryz.ntmps58
  go_wp2_with fail
  go_loopw [5] (fun e9 wr => ∃ k : Nat, k ≤ n ∧ e9 = .int .i64 k ∧ scatL L mask = (L.drop k).all (fun m => decide (pop (m.toNat &&& mask) ≤ 1)) ∧ Below w.heap.size w wr) (fun e9 _ => n - (intOf e9).toNat)
  case atStart => exact ⟨0, Nat.zero_le _, rfl, rfl, Below.refl _ _⟩
  case round =>
    obtain ⟨k, hk, rfl, hs, hb⟩ := hrel
    by_cases hlt : k < n
    · have hkl : k < L.length := by rw [HL.out]; exact hlt
      have hk0 : (0 : Int) ≤ (k : Int) := by omega
      have hk1 : (k : Int) < (n : Int) := by omega
      obtain ⟨g, off, hA, hg, d1⟩ := RdI.at_ (HR.out.below hb) hkl
      obtain ⟨q, hq, hq36⟩ := HM.out _ (List.getElem_mem hkl)
      rw [List.drop_eq_getElem_cons hkl, List.all_cons, hq, Int.toNat_natCast] at hs
      rw [hq] at d1
      obtain ⟨z, hz⟩ : ∃ z, q &&& mask = z := ⟨_, rfl⟩
      have hz62 : z < 2 ^ 62 := by rw [← hz]; exact scat_lt hm
      have hand : bits .and .i64 (q : Int) (mask : Int) = (z : Int) := by rw [i64_and q mask (by omega) (by omega), hz]
      rw [hz] at hs
      have hp1 := pop_one hz62
      subst hA
      clear hq hq36 hz
      by_cases hz0 : z = 0
      · subst hz0
        have hs2 : scatL L mask = (L.drop (k + 1)).all (fun m => decide (pop (m.toNat &&& mask) ≤ 1)) := by rw [hs, decide_eq_true (hp1.2 (.inl rfl)), Bool.true_and]
        have HS := Lib.hid hs2
        have ha0 := and0
        clear hs hs2 hp1 hz62
        go_wp2_with fail
        exact ⟨⟨k + 1, by omega, by go_num, HS.out, hb⟩, by simp [intOf]; omega⟩
      · obtain ⟨y, hy⟩ : ∃ y, z - 1 = y := ⟨_, rfl⟩
        have hyI : (z : Int) - 1 = (y : Int) := by omega
        have hyw : IntKind.i64.wrap (y : Int) = (y : Int) := Go.IntWalk.i64_in _ (by omega)
        obtain ⟨t, ht⟩ : ∃ t, z &&& y = t := ⟨_, rfl⟩
        have hand2 : bits .and .i64 (z : Int) (y : Int) = (t : Int) := by rw [i64_and z y (by omega) (by omega), ht]
        rw [hy, ht] at hp1
        have hzp : (z : Int) > 0 := by omega
        by_cases ht0 : t = 0
        · have hs2 : scatL L mask = (L.drop (k + 1)).all (fun m => decide (pop (m.toNat &&& mask) ≤ 1)) := by rw [hs, decide_eq_true (hp1.2 (.inr ht0)), Bool.true_and]
          have HS := Lib.hid hs2
          have htt : ((t : Int) != 0) = false := by simp [ht0]
          clear hs hs2 hp1 hz62 hy ht ht0
          go_wp2_with fail
          exact ⟨⟨k + 1, by omega, by go_num, HS.out, hb⟩, by simp [intOf]; omega⟩
        · have hs2 : scatL L mask = false := by rw [hs, decide_eq_false (fun h => by have := hp1.1 h; omega), Bool.false_and]
          have HS := Lib.hid hs2
          have htt : ((t : Int) != 0) = true := by simp; omega
          clear hs hs2 hp1 hz62 hy ht ht0
          go_wp2_with fail
          go_ret
          exact ⟨by rw [HS.out]; rfl, hb⟩
    · obtain rfl : k = n := by omega
      rw [List.drop_of_length_le (by rw [HL.out]; omega)] at hs
      have HS := Lib.hid hs
      have hk1 : ¬ (k : Int) < (k : Int) := by omega
      clear hs
      go_wp2_with fail
      go_ret
      exact ⟨by rw [HS.out]; rfl, hb⟩
set_option maxHeartbeats 1600000 in
theorem IsScattered_i (W : Int) (A B : Option Addr) (n c q cb : Nat) (rows : List Int) (x : Int) (hs : List H) (P : List (List C)) (w : World) (hr : Rd w A (vI rows)) (hl : rows.length = n) (hp : RdP w B q hs P) (hq : q ≤ 1048576) (hm : totC P ≤ 1048576) (hx : x < 9223372036854775808) :
    Calls Tryz.prog 26 #[.agg #[.int .i64 W, .slice A n c], .slice B q cb, .int .i64 x] w (Ret w (.bool (scatV W rows P x))) := by
  have HL := Lib.hid hl
  have HR := Lib.hid (hr.alloc (.cells #[.int .i64 W, .slice A n c] 29))
  have HP := Lib.hid (hp.alloc (.cells #[.int .i64 W, .slice A n c] 29))
  have HB0 := Lib.hid (Blk.new w 29 #[.int .i64 W, .slice A n c])
  have HM := Lib.hid hm
  have HX63 := Lib.hid hx
  have HPF := Lib.hid hp.flen
  have hbw0 : Below w.heap.size w (w.alloc (.cells #[.int .i64 W, .slice A n c] 29)) := bel_alloc (Below.refl _ _) _
  clear hl hr hp hm hx
  cases hpv : (isReg W rows && pcs P) with
  | false =>
    have HV : Hid (scatV W rows P x = false) := by show scatV W rows P x = false; unfold scatV; rw [hpv]; rfl
    have HPV := Lib.hid hpv
    clear hpv
    go_enter Tryz.func26, Tryz.ntmps26
    go_wp2_with fail
    refine (isProblem_i W A B n c q cb rows hs P _ HR.out HL.out HP.out hq HM.out).mono ?_
    rw [HPV.out]
    rintro e w1 ⟨rfl, hb1⟩
    go_wp2_with fail
    go_ret
    exact ⟨by rw [HV.out]; rfl, bel_trans hbw0 hb1⟩
  | true =>
    have HPV := Lib.hid hpv
    have hvr : isReg W rows = true := by simp only [Bool.and_eq_true] at hpv; exact hpv.1
    have hpc : pcs P = true := by simp only [Bool.and_eq_true] at hpv; exact hpv.2
    have HVR := Lib.hid hvr
    have HPC := Lib.hid hpc
    have hV : scatV W rows P x = (okMask2 W rows x && scatL (allV W rows P) x.toNat) := by unfold scatV okMask2 inM; rw [hpv, Bool.true_and]
    have HV := Lib.hid hV
    have hLm := allV_msk W rows P
    have hLl := allV_len W rows P
    have hp5 := (pcs_at hpc).1
    have hm36 := maskV_62b hvr
    have HB1 : Hid (∀ {w1 : World}, Below (w.alloc (.cells #[.int .i64 W, .slice A n c] 29)).heap.size (w.alloc (.cells #[.int .i64 W, .slice A n c] 29)) w1 → w1.cell? ⟨w.heap.size, 0, none⟩ = some (.int .i64 W) ∧ w1.cell? ⟨w.heap.size, 1, none⟩ = some (.slice A n c) ∧ w.heap.size < w1.heap.size) := fun h => by
      have hB := HB0.out.below h
      exact ⟨by simpa using hB.cell 0, by simpa using hB.cell 1, hB.lt⟩
    cases hok : okMask2 W rows x with
    | false =>
      have HV2 : Hid (scatV W rows P x = false) := by show _ = _; rw [hV, hok]; rfl
      have HOK := Lib.hid hok
      clear hpv hvr hpc hV hLm hLl hp5 hok hm36
      go_enter Tryz.func26, Tryz.ntmps26
      go_wp2_with fail
      refine (isProblem_i W A B n c q cb rows hs P _ HR.out HL.out HP.out hq HM.out).mono ?_
      rw [HPV.out]
      rintro e w1 ⟨rfl, hb1⟩
      obtain ⟨b0, b1, bl⟩ := HB1.out hb1
      go_wp2_with fail
      refine (isMaskP_i W A n c rows x _ (HR.out.below hb1) HL.out HVR.out HX63.out).mono ?_
      rw [HOK.out]
      rintro e w2 ⟨rfl, hb2⟩
      go_wp2_with fail
      go_ret
      exact ⟨by rw [HV2.out]; rfl, bel_trans hbw0 (bel_trans hb1 hb2)⟩
    | true =>
      have hx0 : 0 ≤ x ∧ inM x.toNat (maskV W rows) = true := by unfold okMask2 at hok; simpa using hok
      obtain ⟨k, rfl⟩ := Int.eq_ofNat_of_zero_le hx0.1
      have hk36 : k < 2 ^ 36 := inM_lt hx0.2 hm36
      have hk62 : k < 2 ^ 62 := by omega
      have HK := Lib.hid hk62
      have HV2 : Hid (scatV W rows P (k : Int) = scatL (allV W rows P) k) := by show _ = _; rw [hV, hok, Bool.true_and, Int.toNat_natCast]
      obtain ⟨L, hL⟩ : ∃ L, allV W rows P = L := ⟨_, rfl⟩
      rw [hL] at HV2 hLm hLl
      have HLE := Lib.hid hL
      have HLM := Lib.hid hLm
      have hL5 : L.length ≤ 1440 := by omega
      have HL5 := Lib.hid hL5
      have HOK := Lib.hid hok
      clear hpv hvr hpc hV hLm hLl hp5 hok hm36 hx0 hk36 hk62 hL hL5
      go_enter Tryz.func26, Tryz.ntmps26
      go_wp2_with fail
      refine (isProblem_i W A B n c q cb rows hs P _ HR.out HL.out HP.out hq HM.out).mono ?_
      rw [HPV.out]
      rintro e w1 ⟨rfl, hb1⟩
      obtain ⟨b0, b1, bl⟩ := HB1.out hb1
      go_wp2_with fail
      refine (isMaskP_i W A n c rows (k : Int) _ (HR.out.below hb1) HL.out HVR.out HX63.out).mono ?_
      rw [HOK.out]
      rintro e w2 ⟨rfl, hb2⟩
      have hb12 := bel_trans hb1 hb2
      obtain ⟨d0, d1, dl⟩ := HB1.out hb12
      clear b0 b1 bl
      go_wp2_with fail
      refine (all_i W A B n c q cb rows hs P _ (HR.out.below hb12) HL.out HVR.out (HP.out.below hb12) HPC.out).mono ?_
      rw [HLE.out]
      rintro e w3 ⟨E, q3, c3, rfl, hO, hb3⟩
      have hq3 : L.length = q3 := by have := own_len hO; rw [vI_length] at this; omega
      have HQ3 := Lib.hid hq3
      have HRE := Lib.hid (Rd.of_own hO)
      have hq4 : q3 ≤ 1048576 := by have := HL5.out; omega
      clear hO hq3
      go_wp2_with fail
      refine (scattered_i E q3 c3 L k _ HRE.out HQ3.out hq4 HLM.out HK.out).mono ?_
      rintro e w4 ⟨rfl, hb4⟩
      go_wp2_with fail
      go_ret
      exact ⟨by rw [HV2.out]; simp, bel_trans hbw0 (bel_trans hb12 (bel_trans hb3 hb4))⟩
set_option maxRecDepth 100000 in
set_option maxHeartbeats 3200000 in
theorem IsScattered_s (W : Int) (A B : Option Addr) (n c q cb : Nat) (rows : List Int) (x : Int) (hs : List H) (P : List (List C)) (w : World) (hr : Rd w A (vI rows)) (hl : rows.length = n) (hp : RdP w B q hs P) (hq : q ≤ 1048576) (hm : totC P ≤ 1048576) (hx : x < 9223372036854775808) :
    Calls Tryz.prog 34 #[.agg #[.int .i64 W, .slice A n c], .slice B q cb, .int .i64 x] w (Ret w (.bool (scatV W rows P x))) := by
  have HL := Lib.hid hl
  have HR := Lib.hid (hr.alloc (.cells #[.int .i64 W, .slice A n c] 29))
  have HP := Lib.hid (hp.alloc (.cells #[.int .i64 W, .slice A n c] 29))
  have HB0 := Lib.hid (Blk.new w 29 #[.int .i64 W, .slice A n c])
  have HM := Lib.hid hm
  have HX63 := Lib.hid hx
  have HPF := Lib.hid hp.flen
  have hbw0 : Below w.heap.size w (w.alloc (.cells #[.int .i64 W, .slice A n c] 29)) := bel_alloc (Below.refl _ _) _
  clear hl hr hp hm hx
  have HB1 : Hid (∀ {w1 : World}, Below (w.alloc (.cells #[.int .i64 W, .slice A n c] 29)).heap.size (w.alloc (.cells #[.int .i64 W, .slice A n c] 29)) w1 → w1.cell? ⟨w.heap.size, 0, none⟩ = some (.int .i64 W) ∧ w1.cell? ⟨w.heap.size, 1, none⟩ = some (.slice A n c) ∧ w.heap.size < w1.heap.size) := fun h => by
    have hB := HB0.out.below h
    exact ⟨by simpa using hB.cell 0, by simpa using hB.cell 1, hB.lt⟩
  cases hvr : isReg W rows with
  | false =>
    have HV : Hid (scatV W rows P x = false) := by show scatV W rows P x = false; unfold scatV; rw [hvr]; rfl
    have HVR := Lib.hid hvr
    clear hvr
    go_enter Tryz.func34, Tryz.ntmps34
    go_wp2_with fail
    refine (IsRegion_s _ _ _ _ rows _ HR.out HL.out).mono ?_
    rw [HVR.out]
    rintro e w1 ⟨rfl, hb1⟩
    go_wp2_with fail
    go_ret
    exact ⟨by rw [HV.out]; rfl, bel_trans hbw0 hb1⟩
  | true =>
    have HVR := Lib.hid hvr
    cases hpc : pcs P with
    | false =>
      have HV : Hid (scatV W rows P x = false) := by show scatV W rows P x = false; unfold scatV; rw [hpc, Bool.and_false]; rfl
      have HPC := Lib.hid hpc
      clear hvr hpc
      go_enter Tryz.func34, Tryz.ntmps34
      go_wp2_with fail
      refine (IsRegion_s _ _ _ _ rows _ HR.out HL.out).mono ?_
      rw [HVR.out]
      rintro e w1 ⟨rfl, hb1⟩
      go_wp2_with fail
      refine (ArePieces_s B q cb hs P _ (HP.out.below hb1) hq HM.out).mono ?_
      rw [HPC.out]
      rintro e w2 ⟨rfl, hb2⟩
      go_wp2_with fail
      go_ret
      exact ⟨by rw [HV.out]; rfl, bel_trans hbw0 (bel_trans hb1 hb2)⟩
    | true =>
      have HPC := Lib.hid hpc
      have hV : scatV W rows P x = (okMask2 W rows x && scatL (allV W rows P) x.toNat) := by unfold scatV okMask2 inM; rw [hvr, hpc]; rfl
      have hLm := allV_msk W rows P
      have hLl := allV_len W rows P
      have hp5 := (pcs_at hpc).1
      have hm36 := maskV_62b hvr
      by_cases hx0 : x < 0
      · have HV2 : Hid (scatV W rows P x = false) := by show _ = _; rw [hV]; unfold okMask2; rw [decide_eq_false (by omega)]; rfl
        clear hvr hpc hV hLm hLl hp5 hm36
        go_enter Tryz.func34, Tryz.ntmps34
        go_wp2_with fail
        refine (IsRegion_s _ _ _ _ rows _ HR.out HL.out).mono ?_
        rw [HVR.out]
        rintro e w1 ⟨rfl, hb1⟩
        go_wp2_with fail
        refine (ArePieces_s B q cb hs P _ (HP.out.below hb1) hq HM.out).mono ?_
        rw [HPC.out]
        rintro e w2 ⟨rfl, hb2⟩
        go_wp2_with fail
        go_ret
        exact ⟨by rw [HV2.out]; rfl, bel_trans hbw0 (bel_trans hb1 hb2)⟩
      · obtain ⟨k, rfl⟩ := Int.eq_ofNat_of_zero_le (by omega : 0 ≤ x)
        obtain ⟨mv, hmv⟩ : ∃ mv, maskV W rows = mv := ⟨_, rfl⟩
        rw [hmv] at hm36
        obtain ⟨z, hz⟩ : ∃ z, k &&& mv = z := ⟨_, rfl⟩
        have hk63 : k < 2 ^ 63 := by have := HX63.out; omega
        have hand : bits .and .i64 (k : Int) (mv : Int) = (z : Int) := by rw [i64_and k mv (by omega) (by omega), hz]
        have HMV := Lib.hid hmv
        have hokz : okMask2 W rows (k : Int) = (z == k) := by unfold okMask2 inM; rw [hmv, Int.toNat_natCast, hz, decide_eq_true (by omega), Bool.true_and]
        have HAND := Lib.hid hand
        by_cases hzk : z = k
        · have hk36 : k < 2 ^ 36 := by rw [← hzk, ← hz]; exact Nat.lt_of_le_of_lt Nat.and_le_right hm36
          have hk62 : k < 2 ^ 62 := by omega
          have HK := Lib.hid hk62
          have HV2 : Hid (scatV W rows P (k : Int) = scatL (allV W rows P) k) := by show _ = _; rw [hV, hokz, hzk]; simp
          obtain ⟨L, hL⟩ : ∃ L, allV W rows P = L := ⟨_, rfl⟩
          rw [hL] at HV2 hLm hLl
          have HLE := Lib.hid hL
          have HLM := Lib.hid hLm
          have hL5 : L.length ≤ 1440 := by omega
          have HL5 := Lib.hid hL5
          have hzt : ((k : Int) != (k : Int)) = false := by simp
          have HZT := Lib.hid hzt
          have hand3 : bits .and .i64 (k : Int) (mv : Int) = (k : Int) := by rw [hand, hzk]
          have HAND3 := Lib.hid hand3
          clear HAND hand3
          clear hvr hpc hV hLm hLl hp5 hm36 hmv hz hk63 hokz hzk hk36 hk62 hL hL5 hzt hand
          go_enter Tryz.func34, Tryz.ntmps34
          go_wp2_with fail
          refine (IsRegion_s _ _ _ _ rows _ HR.out HL.out).mono ?_
          rw [HVR.out]
          rintro e w1 ⟨rfl, hb1⟩
          go_wp2_with fail
          refine (ArePieces_s B q cb hs P _ (HP.out.below hb1) hq HM.out).mono ?_
          rw [HPC.out]
          rintro e w2 ⟨rfl, hb2⟩
          have hb12 := bel_trans hb1 hb2
          obtain ⟨b0, b1, bl⟩ := HB1.out hb12
          go_wp2_with fail
          refine (MaskOf_s W A n c rows _ (HR.out.below hb12) HL.out).mono ?_
          rw [HMV.out]
          rintro e w3 ⟨rfl, hb3⟩
          have hb13 := bel_trans hb12 hb3
          obtain ⟨d0, d1, dl⟩ := HB1.out hb13
          have hand := HAND3.out
          have hz9 : decide ((k : Int) < 0) = false := by simp
          clear b0 b1 bl
          go_wp2_with fail
          refine (AllPlacements_s W A B n c q cb rows hs P _ (HR.out.below hb13) HL.out HVR.out (HP.out.below hb13) HPC.out).mono ?_
          rw [HLE.out]
          rintro e w4 ⟨gE, q3, c3, rfl, hO, hb4⟩
          have hq3 : L.length = q3 := by have := own_len hO; rw [vI_length] at this; omega
          have HQ3 := Lib.hid hq3
          have HRE := Lib.hid (Rd.of_own hO)
          have hq4 : q3 ≤ 1048576 := by have := HL5.out; omega
          clear hO hq3
          go_wp2_with fail
          refine (l21Apart_s _ q3 c3 L k _ HRE.out HQ3.out hq4 HLM.out HK.out).mono ?_
          rintro e w5 ⟨rfl, hb5⟩
          go_wp2_with fail
          go_ret
          exact ⟨by rw [HV2.out]; rfl, bel_trans hbw0 (bel_trans hb13 (bel_trans hb4 hb5))⟩
        · have HV2 : Hid (scatV W rows P (k : Int) = false) := by show _ = _; rw [hV, hokz, show (z == k) = false from by simpa using hzk]; rfl
          have hzt : ((z : Int) != (k : Int)) = true := by simp; omega
          have HZT := Lib.hid hzt
          clear hvr hpc hV hLm hLl hp5 hm36 hmv hz hk63 hokz hzk hzt hand
          go_enter Tryz.func34, Tryz.ntmps34
          go_wp2_with fail
          refine (IsRegion_s _ _ _ _ rows _ HR.out HL.out).mono ?_
          rw [HVR.out]
          rintro e w1 ⟨rfl, hb1⟩
          go_wp2_with fail
          refine (ArePieces_s B q cb hs P _ (HP.out.below hb1) hq HM.out).mono ?_
          rw [HPC.out]
          rintro e w2 ⟨rfl, hb2⟩
          have hb12 := bel_trans hb1 hb2
          obtain ⟨b0, b1, bl⟩ := HB1.out hb12
          go_wp2_with fail
          refine (MaskOf_s W A n c rows _ (HR.out.below hb12) HL.out).mono ?_
          rw [HMV.out]
          rintro e w3 ⟨rfl, hb3⟩
          have hand := HAND.out
          have hzt := HZT.out
          clear b0 b1 bl
          go_wp2_with fail
          go_ret
          exact ⟨by rw [HV2.out]; rfl, bel_trans hbw0 (bel_trans hb12 hb3)⟩
end Go.Proofs.YtcgjnonlndaoeaaGreatDoor

/- Most scattered cells: the reference's walk. -/
namespace Go.Proofs.YtcgjnonlndaoeaaGreatDoor
open Go.RowKit
set_option linter.unusedVariables false
attribute [local go_sem ↓] Go.wp_at_zero Go.wp_at_succ

theorem mTo_mono (ps : List Nat) (code j : Nat) : ∀ d, mTo ps code j ≤ mTo ps code (j + d)
  | 0 => Nat.le_refl _
  | d + 1 => by
    have := mTo_mono ps code j d
    show _ ≤ mTo ps code (j + d) + _
    omega
theorem popN_snoc (n x : Nat) : popN (n + 1) x = popN n x + (if x.testBit n then 1 else 0) := by
  unfold popN
  rw [List.range_succ, List.countP_append, List.countP_singleton]
theorem popN_le (n x : Nat) : popN n x ≤ n := by unfold popN; have h := List.countP_le_length (p := fun i => x.testBit i) (l := List.range n); simpa using h
set_option maxRecDepth 100000 in
set_option maxHeartbeats 3200000 in
theorem LargestScattered_s (W : Int) (A B : Option Addr) (n c q cb : Nat) (rows : List Int) (hs : List H) (P : List (List C)) (w : World) (hr : Rd w A (vI rows)) (hl : rows.length = n) (hp : RdP w B q hs P) (hq : q ≤ 1048576) (hm : totC P ≤ 1048576) :
    Calls Tryz.prog 24 #[.agg #[.int .i64 W, .slice A n c], .slice B q cb] w (Ret w (.tuple #[.int .i64 (lsV W rows P : Nat), .bool (smallV W rows P)])) := by
  have HL := Lib.hid hl
  have HR := Lib.hid (hr.alloc (.cells #[.int .i64 W, .slice A n c] 29))
  have HP := Lib.hid (hp.alloc (.cells #[.int .i64 W, .slice A n c] 29))
  have HB0 := Lib.hid (Blk.new w 29 #[.int .i64 W, .slice A n c])
  have HM := Lib.hid hm
  have hbw0 : Below w.heap.size w (w.alloc (.cells #[.int .i64 W, .slice A n c] 29)) := bel_alloc (Below.refl _ _) _
  clear hl hr hp hm
  have HB1 : Hid (∀ {w1 : World}, Below (w.alloc (.cells #[.int .i64 W, .slice A n c] 29)).heap.size (w.alloc (.cells #[.int .i64 W, .slice A n c] 29)) w1 → w1.cell? ⟨w.heap.size, 0, none⟩ = some (.int .i64 W) ∧ w1.cell? ⟨w.heap.size, 1, none⟩ = some (.slice A n c) ∧ w.heap.size < w1.heap.size) := fun h => by
    have hB := HB0.out.below h
    exact ⟨by simpa using hB.cell 0, by simpa using hB.cell 1, hB.lt⟩
  cases hsm : smallV W rows P with
  | false =>
    have HV : Hid (lsV W rows P = 0) := by show _ = _; unfold lsV; rw [hsm]; rfl
    have HS := Lib.hid hsm
    clear hsm
    go_enter Tryz.func24, Tryz.ntmps24
    go_wp2_with fail
    refine (l20Fine_s W A B n c q cb rows hs P _ HR.out HL.out HP.out hq HM.out).mono ?_
    rw [HS.out]
    rintro e w1 ⟨rfl, hb1⟩
    go_wp2_with fail
    go_ret2
    exact ⟨by rw [HV.out]; rfl, bel_trans hbw0 hb1⟩
  | true =>
    have hsm2 := hsm
    unfold smallV at hsm2
    simp only [Bool.and_eq_true, decide_eq_true_eq] at hsm2
    have hvr := hsm2.1.1
    have hpc := hsm2.1.2
    have ha12 := hsm2.2
    have hV : lsV W rows P = lsTo (allV W rows P) (subTo (maskV W rows) 36) (subTo (maskV W rows) 36).length := by unfold lsV; rw [if_pos hsm]
    have hLm := allV_msk W rows P
    have hLl := allV_len W rows P
    have hp5 := (pcs_at hpc).1
    have hcb := (cells_bits hvr).1
    have hcin := cells_in (W := W) (rows := rows)
    have hcl : (cellsC W rows).length ≤ 12 := by unfold areaV at ha12; rw [if_pos hvr] at ha12; omega
    have HVR := Lib.hid hvr
    obtain ⟨m, rfl, hm1, hm6, hn1, hn6, hrow⟩ := isReg_yes hvr
    have h36 : m * rows.length ≤ 6 * 6 := Nat.mul_le_mul hm6 hn6
    rw [Int.toNat_natCast] at hcb
    obtain ⟨L, hL⟩ : ∃ L, allV (m : Int) rows P = L := ⟨_, rfl⟩
    obtain ⟨mk, hmk⟩ : ∃ mk, maskV (m : Int) rows = mk := ⟨_, rfl⟩
    obtain ⟨cs, hcs⟩ : ∃ cs, cellsC (m : Int) rows = cs := ⟨_, rfl⟩
    rw [hcs] at hcb hcl hcin
    rw [hL, hmk] at hV
    rw [hL] at hLm hLl
    rw [hmk] at hcb
    have hcode := sub_code mk 36 (Nat.le_refl _)
    have hMl := subTo_len mk 36
    have hMlt := subTo_lt mk 36
    obtain ⟨M, hM⟩ : ∃ M, subTo mk 36 = M := ⟨_, rfl⟩
    obtain ⟨ps, hps⟩ : ∃ ps, bitsL mk 36 = ps := ⟨_, rfl⟩
    obtain ⟨k, hk⟩ : ∃ k, cs.length = k := ⟨_, rfl⟩
    rw [hM] at hV hcode hMl hMlt
    rw [hps] at hcb hcode hMl
    have hpk : ps.length = k := by rw [← hcb, List.length_map, hk]
    rw [hpk] at hcode hMl
    have hgd : ∀ i (hi : i < cs.length), ps.getD i 0 = posM m cs[i] := fun i hi => by
      rw [← hcb, List.getD_eq_getElem?_getD, List.getElem?_map, List.getElem?_eq_getElem hi]; rfl
    obtain ⟨T, hT⟩ : ∃ T : Nat, 2 ^ k = T := ⟨_, rfl⟩
    have hTI : (2 : Int) ^ k = (T : Int) := by rw [← hT]; simp
    have hk12 : k ≤ 12 := by omega
    have hT12 : T ≤ 2 ^ 12 := by rw [← hT]; exact Nat.pow_le_pow_right (by decide) hk12
    rw [hT] at hcode hMl
    have hL5 : L.length ≤ 1440 := by omega
    have HV := Lib.hid hV
    have HS := Lib.hid hsm
    have HPC := Lib.hid hpc
    have HLE := Lib.hid hL
    have HLM := Lib.hid hLm
    have HL5 := Lib.hid hL5
    have HCS := Lib.hid hcs
    have HCIN := Lib.hid hcin
    have HCODE := Lib.hid hcode
    have HML := Lib.hid hMl
    have HMLT := Lib.hid hMlt
    have HGD := Lib.hid hgd
    have HK := Lib.hid hk
    have H36 : Hid (m * rows.length ≤ 36) := h36
    have hk0 : (0 : Int) ≤ (k : Int) := by omega
    have hk64 : (k : Int) ≤ 64 := by omega
    have ek : IntKind.i64.wrap (k : Int) = (k : Int) := Go.IntWalk.i64_in _ (by omega)
    have eT : IntKind.i64.wrap (T : Int) = (T : Int) := Go.IntWalk.i64_in _ (by omega)
    clear hsm hsm2 hvr hpc hV hLm hLl hp5 hL hmk hM hMlt hMl hL5 hcb hcin hcl hcode hps hpk hgd hT hrow h36 hcs hk ha12
    go_enter Tryz.func24, Tryz.ntmps24
    go_wp2_with fail
    refine (l20Fine_s (m : Int) A B n c q cb rows hs P _ HR.out HL.out HP.out hq HM.out).mono ?_
    rw [HS.out]
    rintro e w1 ⟨rfl, hb1⟩
    obtain ⟨b0, b1, bl⟩ := HB1.out hb1
    go_wp2_with fail
    refine (AllPlacements_s (m : Int) A B n c q cb rows hs P _ (HR.out.below hb1) HL.out HVR.out (HP.out.below hb1) HPC.out).mono ?_
    rw [HLE.out]
    rintro e w2 ⟨gE, q3, c3, rfl, hO, hb2⟩
    have hq3 : L.length = q3 := by have := own_len hO; rw [vI_length] at this; omega
    have HQ3 := Lib.hid hq3
    have HRE := Lib.hid (Rd.of_own hO)
    have hq4 : q3 ≤ 1048576 := by have := HL5.out; omega
    have hb12 := bel_trans hb1 hb2
    clear hO hq3 b0 b1 bl
    obtain ⟨b0, b1, bl⟩ := HB1.out hb12
    go_wp2_with fail
    refine (CellsOf_s (m : Int) A n c rows _ (HR.out.below hb12) HL.out HVR.out).mono ?_
    rw [HCS.out]
    rintro e w4 ⟨D, u, cd, rfl, hO, hb4⟩
    obtain rfl : k = u := by have := own_len hO; rw [vC_length, HK.out] at this; omega
    have HRD := Lib.hid (Rd.of_own hO)
    have HRE4 := Lib.hid (HRE.out.below hb4)
    have hb14 := bel_trans hb12 hb4
    clear hO hb4 hb12 hb1 hb2 b0 b1 bl
    go_wp2_with fail
    go_loopw [10, 8, 9] (fun e10 e8 e9 wr => ∃ code b s : Nat, code ≤ T ∧ e10 = .int .i64 code ∧ e8 = .int .i64 (b : Int) ∧ e9 = .int .i64 (s : Int) ∧ b = lsTo L M code ∧ s = pop b ∧ Below w4.heap.size w4 wr) (fun e10 _ _ _ => T - (intOf e10).toNat)
    case atStart => exact ⟨0, 0, 0, Nat.zero_le _, rfl, rfl, rfl, rfl, (popN_zero 64).symm, Below.refl _ _⟩
    case round =>
      obtain ⟨code, b, s, hc, rfl, rfl, rfl, hbe, hse, hb⟩ := hrel
      have HBE := Lib.hid hbe
      have HSE := Lib.hid hse
      clear hbe hse
      by_cases hlt : code < T
      · have hi0 : (0 : Int) ≤ (code : Int) := by omega
        have hi1 : (code : Int) < (T : Int) := by omega
        obtain ⟨hco1, hco2⟩ := HCODE.out code hlt
        have hcM : code < M.length := by rw [HML.out]; exact hlt
        have hxk : M[code] = mTo ps code k := by
          rw [List.getElem?_eq_getElem hcM] at hco1
          injection hco1
        have hst := lsTo_succ L M hcM
        have hx36 : mTo ps code k < 2 ^ 36 := by rw [← hxk]; exact HMLT.out _ (List.getElem_mem hcM)
        rw [hxk, ← HBE.out] at hst
        unfold lsStep at hst
        rw [hco2, ← HSE.out] at hst
        have hmono : ∀ i, i ≤ k → mTo ps code i < 2 ^ 36 := fun i hi => by
          have h := mTo_mono ps code i (k - i)
          rw [show i + (k - i) = k by omega] at h
          omega
        have HMO := Lib.hid hmono
        have HST := Lib.hid hst
        have HCO2 := Lib.hid hco2
        have HX36 := Lib.hid hx36
        clear hco1 hco2 hxk hst hx36 hmono
        go_wp2_with fail
        go_loopw [13, 11, 12] (fun e13 e11 e12 wr2 => ∃ i v z : Nat, i ≤ k ∧ e13 = .int .i64 i ∧ e11 = .int .i64 (v : Int) ∧ e12 = .int .i64 (z : Int) ∧ v = mTo ps code i ∧ z = popN i code ∧ Below w4.heap.size w4 wr2) (fun e13 _ _ _ => k - (intOf e13).toNat)
        case atStart => exact ⟨0, 0, 0, Nat.zero_le _, rfl, rfl, rfl, rfl, by simp [popN], hb⟩
        case round =>
          clear hb
          obtain ⟨i, v, z, hi, rfl, rfl, rfl, hv, hz, hb⟩ := hrel
          have hv36 : v < 2 ^ 36 := by rw [hv]; exact HMO.out i hi
          have hz12 : z ≤ i := by rw [hz]; exact popN_le _ _
          have HVE := Lib.hid hv
          have HZE := Lib.hid hz
          clear hv hz
          by_cases hik : i < k
          · have hii0 : (0 : Int) ≤ (i : Int) := by omega
            have hii1 : (i : Int) < (k : Int) := by omega
            have hii64 : (i : Int) ≤ 64 := by omega
            have ei : IntKind.i64.wrap (i : Int) = (i : Int) := Go.IntWalk.i64_in _ (by omega)
            have hic : i < cs.length := by rw [HK.out]; exact hik
            have hbit := bit_testP code i (by omega)
            obtain ⟨d, hd⟩ : ∃ d, code / 2 ^ i = d := ⟨_, rfl⟩
            have hdI : (code : Int) / 2 ^ i = (d : Int) := by rw [← hd]; simp
            rw [hdI] at hbit
            have hst : mTo ps code (i + 1) = mTo ps code i + (if code.testBit i then 2 ^ ps.getD i 0 else 0) := rfl
            have hsn := popN_snoc i code
            rw [← HVE.out] at hst
            rw [← HZE.out] at hsn
            clear hd
            cases hbt : code.testBit i with
            | false =>
              rw [hbt] at hbit hst hsn
              simp only [Bool.false_eq_true, if_false, Nat.add_zero] at hst hsn
              have HST2 := Lib.hid hst
              have HSN := Lib.hid hsn
              clear hst hsn hbt
              go_wp2_with fail
              exact ⟨⟨i + 1, v, z, by omega, by go_num, rfl, rfl, HST2.out.symm, HSN.out.symm, hb⟩, by simp [intOf]; omega⟩
            | true =>
              rw [hbt] at hbit hst hsn
              simp only [if_true] at hst hsn
              have hh := HCIN.out _ (List.getElem_mem hic)
              have hgp := HGD.out i hic
              rw [hgp] at hst
              obtain ⟨g, off, hA, hg, d1, d2⟩ := RdC.at_ (HRD.out.below hb) hic
              obtain ⟨x, hx⟩ : ∃ x, cs[i].1 = x := ⟨_, rfl⟩
              obtain ⟨y, hy⟩ : ∃ y, cs[i].2 = y := ⟨_, rfl⟩
              rw [show cs[i] = (x, y) from Prod.ext hx hy] at hst hh
              rw [hx] at d1
              rw [hy] at d2
              obtain ⟨p, r, s', j, rfl, rfl, hpm, hsE, hj, hpos, hj36, hjl, hs36⟩ := mc_num H36.out hh (n := n)
              rw [hpos] at hst
              have hj0 : (0 : Int) ≤ (j : Int) := by omega
              have hj64 : (j : Int) ≤ 64 := by omega
              have es : IntKind.i64.wrap (s' : Int) = (s' : Int) := Go.IntWalk.i64_in _ (by omega)
              have ej : IntKind.i64.wrap (j : Int) = (j : Int) := Go.IntWalk.i64_in _ (by omega)
              have h2j : (2 : Nat) ^ j < 2 ^ 36 := Nat.pow_lt_pow_right (by decide) hj36
              obtain ⟨t, ht⟩ : ∃ t : Nat, 2 ^ j = t := ⟨_, rfl⟩
              have htI : (2 : Int) ^ j = (t : Int) := by rw [← ht]; simp
              rw [ht] at hst h2j
              have et : IntKind.i64.wrap (t : Int) = (t : Int) := Go.IntWalk.i64_in _ (by omega)
              obtain ⟨u, hu⟩ : ∃ u, u = v + t := ⟨_, rfl⟩
              have huI : (v : Int) + (t : Int) = (u : Int) := by omega
              have eu : IntKind.i64.wrap (u : Int) = (u : Int) := Go.IntWalk.i64_in _ (by omega)
              rw [← hu] at hst
              obtain ⟨b0, b1, bl⟩ := HB1.out (bel_trans hb14 hb)
              have HST2 := Lib.hid hst
              have HSN := Lib.hid hsn
              have HSP := Lib.hid hsE
              subst hA
              clear hst hsn hbt hx hy hh hgp hpos ht hu b1
              go_wp2_with fail
              (refine wp_region_below (by kernel_rfl) (by kernel_rfl) ?_; (repeat (first | go_big_quiet_skip | (refine quietV (v := ?_) (by rfl) rfl (fun w' hbw => ?_) ?_; rotate_left; ((try dsimp only at hbw); have hbc := (bcell hbw).1; have hbf := (bcell hbw).2; go_simp; first | done | with_reducible rfl | fail); simp only [List.setIfInBounds_toArray, List.set_cons_zero, List.set_cons_succ]))); refine wpQuiet_nil ?_; intro wz hbz)
              go_wp2_with fail
              exact ⟨⟨i + 1, u, z + 1, by omega, by go_num, by first | rfl | (simp <;> omega), by first | go_num | (simp <;> omega), HST2.out.symm, HSN.out.symm, bel_trans hb hbz⟩, by simp [intOf]; omega⟩
          · obtain rfl : i = k := by omega
            have hi1 : ¬ (i : Int) < (i : Int) := by omega
            have hst := HST.out
            rw [← HVE.out, ← HZE.out] at hst
            have hzp : pop v = z := by rw [HVE.out, HZE.out]; exact HCO2.out
            have HZP := Lib.hid hzp
            clear hzp
            by_cases hgt : s < z
            · have hgtI : (z : Int) > (s : Int) := by omega
              rw [decide_eq_true hgt, Bool.true_and] at hst
              cases hsc : scatL L v with
              | true =>
                rw [hsc] at hst
                have HST3 := Lib.hid hst
                have HSC := Lib.hid hsc
                clear hst hsc
                go_wp2_with fail
                refine (l21Apart_s _ q3 c3 L v _ (HRE4.out.below hb) HQ3.out hq4 HLM.out (by omega)).mono ?_
                rw [HSC.out]
                rintro e w7 ⟨rfl, hb7⟩
                go_wp2_with fail
                exact ⟨⟨code + 1, v, z, by omega, by go_num, rfl, rfl, HST3.out.symm, HZP.out.symm, bel_trans hb hb7⟩, by simp [intOf]; omega⟩
              | false =>
                rw [hsc] at hst
                have HST3 := Lib.hid hst
                have HSC := Lib.hid hsc
                clear hst hsc
                go_wp2_with fail
                refine (l21Apart_s _ q3 c3 L v _ (HRE4.out.below hb) HQ3.out hq4 HLM.out (by omega)).mono ?_
                rw [HSC.out]
                rintro e w7 ⟨rfl, hb7⟩
                go_wp2_with fail
                exact ⟨⟨code + 1, b, s, by omega, by go_num, rfl, rfl, HST3.out.symm, HSE.out, bel_trans hb hb7⟩, by simp [intOf]; omega⟩
            · have hgtI : ¬ (z : Int) > (s : Int) := by omega
              rw [decide_eq_false hgt, Bool.false_and] at hst
              have HST3 := Lib.hid hst
              clear hst
              go_wp2_with fail
              exact ⟨⟨code + 1, b, s, by omega, by go_num, rfl, rfl, HST3.out.symm, HSE.out, hb⟩, by simp [intOf]; omega⟩
      · obtain rfl : code = T := by omega
        have hi1 : ¬ (code : Int) < (code : Int) := by omega
        have hfin : lsV (m : Int) rows P = b := by rw [HV.out, HML.out, HBE.out]
        have HF := Lib.hid hfin
        clear hfin
        go_wp2_with fail
        go_ret2
        exact ⟨by rw [HF.out]; rfl, bel_trans hbw0 (bel_trans hb14 hb)⟩
end Go.Proofs.YtcgjnonlndaoeaaGreatDoor

/- The reference's draws of coverings and of scattered cells. -/
namespace Go.Proofs.YtcgjnonlndaoeaaGreatDoor
open Go.RowKit
set_option linter.unusedVariables false
attribute [local go_sem ↓] Go.wp_at_zero Go.wp_at_succ

def aplV (W : Int) (rows : List Int) (P : List (List C)) : List Int := if (isReg W rows && pcs P) = true then allV W rows P else []
theorem aplV_len (W : Int) (rows : List Int) (P : List (List C)) : (aplV W rows P).length ≤ 1440 := by
  unfold aplV
  split
  · next h =>
    simp only [Bool.and_eq_true] at h
    have h1 := (pcs_atS h.2).1
    have h2 := allV_len W rows P
    have : 288 * P.length ≤ 1440 := by omega
    omega
  · simp
theorem AllPlacements_d (W : Int) (A B : Option Addr) (n c q cb : Nat) (rows : List Int) (hs : List H) (P : List (List C)) (w : World) (hr : Rd w A (vI rows)) (hl : rows.length = n) (hp : RdP w B q hs P) (hq : q ≤ 1048576) (htc : totC P ≤ 1048576) :
    Calls Tryz.prog 41 #[.agg #[.int .i64 W, .slice A n c], .slice B q cb] w (RetO w w.heap.size 3 1 (vI (aplV W rows P))) := by
  unfold aplV
  by_cases h : (isReg W rows && pcs P) = true
  · rw [if_pos h]
    simp only [Bool.and_eq_true] at h
    exact AllPlacements_s W A B n c q cb rows hs P w hr hl h.1 hp h.2
  · rw [if_neg h]
    exact AllPlacements_n W A B n c q cb rows hs P w hr hl (by simpa using h) hp hq htc
theorem lsV_63 (W : Int) (rows : List Int) (P : List (List C)) : ((lsV W rows P : Nat) : Int) < 9223372036854775808 := by
  have h := (lsV_spec (W := W) (rows := rows) (P := P)).2
  have h1 := and_in h
  have h2 := mask62 W rows
  have h3 : lsV W rows P ≤ maskV W rows := Nat.le_trans (Nat.le_of_eq h1.symm) Nat.and_le_left
  omega
/-- A region, pieces and a list were drawn. -/
def RetOc (w : World) (e : Ending) (w' : World) : Prop :=
  ∃ (W : Int) (k : Nat) (D : Option Addr) (cD : Nat) (rows : List Int) (B : Option Addr) (q cB : Nat) (hs : List H) (P : List (List C)) (E : Option Addr) (kE cE : Nat) (ls : List Int), e = .returned (.tuple #[.agg #[.int .i64 W, .slice D k cD], .slice B q cB, .slice E kE cE]) ∧ Rd w' D (vI rows) ∧ rows.length = k ∧ k ≤ 9 ∧ PcF (w.heap.size + 1) w' B q cB hs P ∧ q ≤ 5 ∧ Rd w' E (vI ls) ∧ ls.length = kE ∧ kE ≤ 1048576 ∧ Below w.heap.size w w'
/-- A region, pieces and a number were drawn. -/
def RetOs (w : World) (e : Ending) (w' : World) : Prop :=
  ∃ (W : Int) (k : Nat) (D : Option Addr) (cD : Nat) (rows : List Int) (B : Option Addr) (q cB : Nat) (hs : List H) (P : List (List C)) (x : Int), e = .returned (.tuple #[.agg #[.int .i64 W, .slice D k cD], .slice B q cB, .int .i64 x]) ∧ Rd w' D (vI rows) ∧ rows.length = k ∧ k ≤ 9 ∧ PcF (w.heap.size + 1) w' B q cB hs P ∧ q ≤ 5 ∧ x < 9223372036854775808 ∧ Below w.heap.size w w'
set_option maxRecDepth 100000 in
set_option maxHeartbeats 3200000 in
theorem DrawIsCovering_s (A : Option Addr) (n c : Nat) (bs : List UInt8) (w : World) (hr : Rd w A (vB bs)) (hl : bs.length = n) (hn : n ≤ 1048576) :
    Calls Tryz.prog 31 #[.slice A n c] w (RetOc w) := by
  have hBZ := Blk.new w 29 #[.int .i64 0, .slice none 0 0]
  have hb0 := bel_alloc (Below.refl w.heap.size w) (.cells #[.int .i64 0, .slice none 0 0] 29)
  have hr0 := hr.below hb0
  obtain ⟨w1, hw1⟩ : ∃ w1, w.alloc (.cells #[.int .i64 0, .slice none 0 0] 29) = w1 := ⟨_, rfl⟩
  have hsz1 : w1.heap.size = w.heap.size + 1 := by rw [← hw1]; simp
  rw [hw1] at hBZ hb0 hr0
  have HW1 := Lib.hid hw1
  have HSZ1 := Lib.hid hsz1
  have HBZ := Lib.hid hBZ
  have HB0 := Lib.hid hb0
  have HR0 := Lib.hid hr0
  have HL := Lib.hid hl
  clear hBZ hb0 hw1 hsz1 hr hr0 hl
  go_enter Tryz.func31, Tryz.ntmps31
  go_wp2_with fail
  rw [HW1.out]
  clear HW1
  go_wp2_with fail
  refine (l20Both_s A n c bs w1 HR0.out HL.out hn).mono ?_
  rintro e w3 ⟨W, k, D, cD, rows, B, q, cB, hs, P, rfl, hr3, hl3, hk9, hD, hP, hq, hb3⟩
  have H2 := Lib.hid hl3
  have H3 := Lib.hid (fun b e => by have h1 := hD b e; have h2 := HSZ1.out; omega : ∀ b, ob D = some b → w.heap.size < b)
  have HTOT := Lib.hid (totC_le70O hP hq)
  have hs1 := HSZ1.out
  have hs3 := hb3.size
  have ba := bel_alloc (Below.refl w3.heap.size w3) (.cells #[.int .i64 W, .slice D k cD] 29)
  have HN4 := Lib.hid (Blk.new w3 29 #[.int .i64 W, .slice D k cD])
  have HD4 := Lib.hid (hr3.below ba)
  have HP4 := Lib.hid (hP.below ba)
  have HB4 := Lib.hid (bel_trans (bel_trans HB0.out hb3) ba)
  have HZ4 := Lib.hid ((HBZ.out.below hb3).below ba)
  obtain ⟨w4, hw4⟩ : ∃ w4, w3.alloc (.cells #[.int .i64 W, .slice D k cD] 29) = w4 := ⟨_, rfl⟩
  have hs4 : w4.heap.size = w3.heap.size + 1 := by rw [← hw4]; simp
  rw [hw4] at HN4 HD4 HP4 HB4 HZ4
  have HW4 := Lib.hid hw4
  have HS4 := Lib.hid hs4
  clear ba hw4 hs4 hr3 hl3 hD hP hb3 HBZ HB0 HR0
  go_upto_region 2 with fail
  rw [HW4.out]
  clear HW4
  have c0 : w4.cell? ⟨w3.heap.size, 0, none⟩ = some (.int .i64 W) := by simpa using HN4.out.cell 0
  have c1 : w4.cell? ⟨w3.heap.size, 1, none⟩ = some (.slice D k cD) := by simpa using HN4.out.cell 1
  have cl := HN4.out.lt
  obtain ⟨gr, hgr⟩ : ∃ gr, w3.heap.size = gr := ⟨_, rfl⟩
  have hgw : w.heap.size < gr := by omega
  rw [hgr] at HN4 c0 c1 cl HS4 ⊢
  clear hgr hs3 hs1
  have hne1 : gr ≠ w.heap.size := by omega
  have hqm : q ≤ 1048576 := by omega
  have htm : totC P ≤ 1048576 := by have := HTOT.out; omega
  clear HTOT
  go_wp2_with fail
  refine (FewestCovering_s W D B k cD q cB rows hs P w4 HD4.out H2.out HP4.out.rdp hqm htm).mono ?_
  obtain ⟨fl, hfl⟩ : ∃ fl, fewL W rows P = fl := ⟨_, rfl⟩
  obtain ⟨isb, hisb⟩ : ∃ b, (fewcV W rows P).isSome = b := ⟨_, rfl⟩
  have hfll : fl.length ≤ 1000 := by rw [← hfl]; exact fewL_len W rows P
  rw [hfl, hisb]
  clear hfl hisb
  rintro e w5 ⟨A5, n5, c5, rfl, ho5, hb5⟩
  have hn5 : fl.length = n5 := by have h := own_len ho5; rw [vI_length] at h; omega
  have HA5 := Lib.hid (Rd.of_own ho5)
  have HAL := Lib.hid hn5
  have hA5 := Lib.hid (fun b e => by have h1 := (own_lt ho5 b e).1; have h2 := HS4.out; omega : ∀ b, ob A5 = some b → w.heap.size < b)
  clear ho5 hn5
  have HN5 := Lib.hid (HN4.out.below hb5)
  have HZ5 := Lib.hid (HZ4.out.below hb5)
  have HD5 := Lib.hid (HD4.out.below hb5)
  have HP5 := Lib.hid (HP4.out.below hb5)
  have HB5 := Lib.hid (bel_trans HB4.out hb5)
  clear hb5 c0 c1 cl HN4 HZ4
  have c0 : w5.cell? ⟨gr, 0, none⟩ = some (.int .i64 W) := by simpa using HN5.out.cell 0
  have c1 : w5.cell? ⟨gr, 1, none⟩ = some (.slice D k cD) := by simpa using HN5.out.cell 1
  have cl := HN5.out.lt
  have z0 : w5.cell? ⟨w.heap.size, 0, none⟩ = some (.int .i64 0) := by simpa using HZ5.out.cell 0
  have z1 : w5.cell? ⟨w.heap.size, 1, none⟩ = some (.slice none 0 0) := by simpa using HZ5.out.cell 1
  have g0 := HZ5.out.frozen 0
  have g1 := HZ5.out.frozen 1
  have zl := HZ5.out.lt
  obtain ⟨t, ht⟩ : ∃ t, n % 4 = t := ⟨_, rfl⟩
  have htx : (n : Int).tmod 4 = ((n % 4 : Nat) : Int) := (Int.ofNat_tmod n 4).symm
  rw [ht] at htx
  have hty : (n : Int) % 4 = (t : Int) := by omega
  have et : IntKind.i64.wrap (t : Int) = (t : Int) := Go.IntWalk.i64_in _ (by omega)
  have HT := Lib.hid ht
  clear ht
  go_upto_region 3 with fail
  go_cut [26] (fun s wx => ∃ d, s = .bool d ∧ wx = w5)
  case first =>
    cases isb with
    | false =>
      go_wp2
      go_meet
      exact ⟨false, rfl, rfl⟩
    | true =>
      by_cases h0 : 0 < t
      · have h1 : (t : Int) > 0 := by omega
        go_wp2
        go_meet
        exact ⟨true, rfl, rfl⟩
      · have h1 : ¬ (t : Int) > 0 := by omega
        go_wp2
        go_meet
        exact ⟨false, rfl, rfl⟩
  case rest =>
    obtain ⟨d, rfl, hx⟩ := hcut
    have hx := hx.symm
    subst hx
    cases d with
    | true =>
      have HZX := HZ5
      have gz : w5.grownBy ((w5.setCell ⟨w.heap.size, 0, none⟩ (.int .i64 W)).setCell ⟨w.heap.size, 1, none⟩ (.slice D k cD)) (some w.heap.size) := grown_set (p := ⟨w.heap.size, 1, none⟩) (grown_set (p := ⟨w.heap.size, 0, none⟩) (World.grownBy.refl _ _) rfl _) rfl _
      have GZ := Lib.hid gz
      have hZf := (HZX.out.set_ 0 (.int .i64 W)).set_ 1 (.slice D k cD)
      have e0 : ((w5.setCell ⟨w.heap.size, 0, none⟩ (.int .i64 W)).setCell ⟨w.heap.size, 1, none⟩ (.slice D k cD)).cell? ⟨w.heap.size, 0, none⟩ = some (.int .i64 W) := by simpa using hZf.cell 0
      have e1 : ((w5.setCell ⟨w.heap.size, 0, none⟩ (.int .i64 W)).setCell ⟨w.heap.size, 1, none⟩ (.slice D k cD)).cell? ⟨w.heap.size, 1, none⟩ = some (.slice D k cD) := by simpa using hZf.cell 1
      have E0 := Lib.hid e0
      have E1 := Lib.hid e1
      clear hZf e0 e1 gz
      go_wp2_with fail
      have e0 := E0.out
      have e1 := E1.out
      exact bodyPost_ret (v := .tuple #[.agg #[.int .i64 W, .slice D k cD], .slice B q cB, .slice A5 n5 c5]) (by simp [results, Tryz.results31, go_sem, e0, e1]) rfl
        ⟨W, k, D, cD, rows, B, q, cB, hs, P, A5, n5, c5, fl, rfl, HD5.out.grown GZ.out (fun b e r => by injection r with r; have := H3.out b e; omega), H2.out, hk9, (HP5.out.draw GZ.out (by have := HSZ1.out; omega)).baseO (by have := HSZ1.out; omega), hq, HA5.out.grown GZ.out (fun b e r => by injection r with r; have := hA5.out b e; omega), HAL.out, by have := HAL.out; omega, bel_grown (HB5.out) GZ.out (fun b e => by injection e with e; omega)⟩
    | false =>
      go_wp2_with fail
      go_region_with (go_at_call 41; refine (AllPlacements_d W D B k cD q cB rows hs P _ (HD5.out.below (bel_drew (Below.refl _ _))) H2.out (HP5.out.below (bel_drew (Below.refl _ _))).rdp hqm htm).mono ?_; rintro e w6 ⟨gE, kE, cE, rfl, hOE, hb6⟩; have HB6 := Lib.hid (bel_trans (bel_drew (Below.refl w5.heap.size w5)) hb6); have HOE := Lib.hid hOE; clear hOE hb6; have HNX := Lib.hid (HN5.out.below HB6.out); have HZX := Lib.hid (HZ5.out.below HB6.out); have y0 : w6.cell? ⟨gr, 0, none⟩ = some (.int .i64 W) := (by simpa using HNX.out.cell 0); have y1 : w6.cell? ⟨gr, 1, none⟩ = some (.slice D k cD) := (by simpa using HNX.out.cell 1); have yl := HNX.out.lt; have x0 : w6.cell? ⟨w.heap.size, 0, none⟩ = some (.int .i64 0) := (by simpa using HZX.out.cell 0); have x1 : w6.cell? ⟨w.heap.size, 1, none⟩ = some (.slice none 0 0) := (by simpa using HZX.out.cell 1); have f0 := HZX.out.frozen 0; have f1 := HZX.out.frozen 1; have xl := HZX.out.lt)
      all_goals
        have HAL6 := Lib.hid (by have h := own_len HOE.out; rw [vI_length] at h; omega : (aplV W rows P).length = kE)
        have hE6 := Lib.hid (fun b e => by have h1 := (own_lt HOE.out b e).1; simp at h1; omega : ∀ b, ob (some ⟨gE, 0, none⟩) = some b → w.heap.size < b)
        have gz : w6.grownBy ((w6.setCell ⟨w.heap.size, 0, none⟩ (.int .i64 W)).setCell ⟨w.heap.size, 1, none⟩ (.slice D k cD)) (some w.heap.size) := grown_set (p := ⟨w.heap.size, 1, none⟩) (grown_set (p := ⟨w.heap.size, 0, none⟩) (World.grownBy.refl _ _) rfl _) rfl _
        have GZ := Lib.hid gz
        have hZf := (HZX.out.set_ 0 (.int .i64 W)).set_ 1 (.slice D k cD)
        have e0 : ((w6.setCell ⟨w.heap.size, 0, none⟩ (.int .i64 W)).setCell ⟨w.heap.size, 1, none⟩ (.slice D k cD)).cell? ⟨w.heap.size, 0, none⟩ = some (.int .i64 W) := by simpa using hZf.cell 0
        have e1 : ((w6.setCell ⟨w.heap.size, 0, none⟩ (.int .i64 W)).setCell ⟨w.heap.size, 1, none⟩ (.slice D k cD)).cell? ⟨w.heap.size, 1, none⟩ = some (.slice D k cD) := by simpa using hZf.cell 1
        have E0 := Lib.hid e0
        have E1 := Lib.hid e1
        clear hZf e0 e1 gz
        go_wp2_with fail
        have e0 := E0.out
        have e1 := E1.out
        exact bodyPost_ret (v := .tuple #[.agg #[.int .i64 W, .slice D k cD], .slice B q cB, .slice (some ⟨gE, 0, none⟩) kE cE]) (by simp [results, Tryz.results31, go_sem, e0, e1]) rfl
          ⟨W, k, D, cD, rows, B, q, cB, hs, P, some ⟨gE, 0, none⟩, kE, cE, aplV W rows P, rfl, (HD5.out.below HB6.out).grown GZ.out (fun b e r => by injection r with r; have := H3.out b e; omega), H2.out, hk9, ((HP5.out.below HB6.out).draw GZ.out (by have := HSZ1.out; omega)).baseO (by have := HSZ1.out; omega), hq, (Rd.of_own HOE.out).grown GZ.out (fun b e r => by injection r with r; have := hE6.out b e; omega), HAL6.out, by have h1 := HAL6.out; have h2 := aplV_len W rows P; omega, bel_grown (bel_trans HB5.out HB6.out) GZ.out (fun b e => by injection e with e; omega)⟩
set_option maxRecDepth 100000 in
set_option maxHeartbeats 3200000 in
theorem DrawIsScattered_s (A : Option Addr) (n c : Nat) (bs : List UInt8) (w : World) (hr : Rd w A (vB bs)) (hl : bs.length = n) (hn : n ≤ 1048576) :
    Calls Tryz.prog 32 #[.slice A n c] w (RetOs w) := by
  have hBZ := Blk.new w 29 #[.int .i64 0, .slice none 0 0]
  have hb0 := bel_alloc (Below.refl w.heap.size w) (.cells #[.int .i64 0, .slice none 0 0] 29)
  have hr0 := hr.below hb0
  obtain ⟨w1, hw1⟩ : ∃ w1, w.alloc (.cells #[.int .i64 0, .slice none 0 0] 29) = w1 := ⟨_, rfl⟩
  have hsz1 : w1.heap.size = w.heap.size + 1 := by rw [← hw1]; simp
  rw [hw1] at hBZ hb0 hr0
  have HW1 := Lib.hid hw1
  have HSZ1 := Lib.hid hsz1
  have HBZ := Lib.hid hBZ
  have HB0 := Lib.hid hb0
  have HR0 := Lib.hid hr0
  have HL := Lib.hid hl
  clear hBZ hb0 hw1 hsz1 hr hr0 hl
  go_enter Tryz.func32, Tryz.ntmps32
  go_wp2_with fail
  rw [HW1.out]
  clear HW1
  go_wp2_with fail
  refine (l20Both_s A n c bs w1 HR0.out HL.out hn).mono ?_
  rintro e w3 ⟨W, k, D, cD, rows, B, q, cB, hs, P, rfl, hr3, hl3, hk9, hD, hP, hq, hb3⟩
  have H2 := Lib.hid hl3
  have H3 := Lib.hid (fun b e => by have h1 := hD b e; have h2 := HSZ1.out; omega : ∀ b, ob D = some b → w.heap.size < b)
  have HTOT := Lib.hid (totC_le70O hP hq)
  have hs1 := HSZ1.out
  have hs3 := hb3.size
  have ba := bel_alloc (Below.refl w3.heap.size w3) (.cells #[.int .i64 W, .slice D k cD] 29)
  have HN4 := Lib.hid (Blk.new w3 29 #[.int .i64 W, .slice D k cD])
  have HD4 := Lib.hid (hr3.below ba)
  have HP4 := Lib.hid (hP.below ba)
  have HB4 := Lib.hid (bel_trans (bel_trans HB0.out hb3) ba)
  have HZ4 := Lib.hid ((HBZ.out.below hb3).below ba)
  obtain ⟨w4, hw4⟩ : ∃ w4, w3.alloc (.cells #[.int .i64 W, .slice D k cD] 29) = w4 := ⟨_, rfl⟩
  have hs4 : w4.heap.size = w3.heap.size + 1 := by rw [← hw4]; simp
  rw [hw4] at HN4 HD4 HP4 HB4 HZ4
  have HW4 := Lib.hid hw4
  have HS4 := Lib.hid hs4
  clear ba hw4 hs4 hr3 hl3 hD hP hb3 HBZ HB0 HR0
  go_upto_region 2 with fail
  rw [HW4.out]
  clear HW4
  have c0 : w4.cell? ⟨w3.heap.size, 0, none⟩ = some (.int .i64 W) := by simpa using HN4.out.cell 0
  have c1 : w4.cell? ⟨w3.heap.size, 1, none⟩ = some (.slice D k cD) := by simpa using HN4.out.cell 1
  have cl := HN4.out.lt
  obtain ⟨gr, hgr⟩ : ∃ gr, w3.heap.size = gr := ⟨_, rfl⟩
  have hgw : w.heap.size < gr := by omega
  rw [hgr] at HN4 c0 c1 cl HS4 ⊢
  clear hgr hs3 hs1
  have hne1 : gr ≠ w.heap.size := by omega
  have hqm : q ≤ 1048576 := by omega
  have htm : totC P ≤ 1048576 := by have := HTOT.out; omega
  clear HTOT
  go_wp2_with fail
  refine (LargestScattered_s W D B k cD q cB rows hs P w4 HD4.out H2.out HP4.out.rdp hqm htm).mono ?_
  have hls63 := lsV_63 W rows P
  obtain ⟨ls, hls⟩ : ∃ ls : Int, ((lsV W rows P : Nat) : Int) = ls := ⟨_, rfl⟩
  obtain ⟨isb, hisb⟩ : ∃ b, smallV W rows P = b := ⟨_, rfl⟩
  rw [hls] at hls63
  rw [hls, hisb]
  clear hls hisb
  rintro e w5 ⟨rfl, hb5⟩
  have HN5 := Lib.hid (HN4.out.below hb5)
  have HZ5 := Lib.hid (HZ4.out.below hb5)
  have HD5 := Lib.hid (HD4.out.below hb5)
  have HP5 := Lib.hid (HP4.out.below hb5)
  have HB5 := Lib.hid (bel_trans HB4.out hb5)
  clear hb5 c0 c1 cl HN4 HZ4
  have c0 : w5.cell? ⟨gr, 0, none⟩ = some (.int .i64 W) := by simpa using HN5.out.cell 0
  have c1 : w5.cell? ⟨gr, 1, none⟩ = some (.slice D k cD) := by simpa using HN5.out.cell 1
  have cl := HN5.out.lt
  have z0 : w5.cell? ⟨w.heap.size, 0, none⟩ = some (.int .i64 0) := by simpa using HZ5.out.cell 0
  have z1 : w5.cell? ⟨w.heap.size, 1, none⟩ = some (.slice none 0 0) := by simpa using HZ5.out.cell 1
  have g0 := HZ5.out.frozen 0
  have g1 := HZ5.out.frozen 1
  have zl := HZ5.out.lt
  obtain ⟨t, ht⟩ : ∃ t, n % 3 = t := ⟨_, rfl⟩
  have htx : (n : Int).tmod 3 = ((n % 3 : Nat) : Int) := (Int.ofNat_tmod n 3).symm
  rw [ht] at htx
  have hty : (n : Int) % 3 = (t : Int) := by omega
  have et : IntKind.i64.wrap (t : Int) = (t : Int) := Go.IntWalk.i64_in _ (by omega)
  have HT := Lib.hid ht
  clear ht
  go_upto_region 3 with fail
  go_cut [26] (fun s wx => ∃ d, s = .bool d ∧ wx = w5)
  case first =>
    cases isb with
    | false =>
      go_wp2
      go_meet
      exact ⟨false, rfl, rfl⟩
    | true =>
      by_cases h0 : 0 < t
      · have h1 : (t : Int) > 0 := by omega
        go_wp2
        go_meet
        exact ⟨true, rfl, rfl⟩
      · have h1 : ¬ (t : Int) > 0 := by omega
        go_wp2
        go_meet
        exact ⟨false, rfl, rfl⟩
  case rest =>
    obtain ⟨d, rfl, hx⟩ := hcut
    have hx := hx.symm
    subst hx
    cases d with
    | true =>
      have HZX := HZ5
      have gz : w5.grownBy ((w5.setCell ⟨w.heap.size, 0, none⟩ (.int .i64 W)).setCell ⟨w.heap.size, 1, none⟩ (.slice D k cD)) (some w.heap.size) := grown_set (p := ⟨w.heap.size, 1, none⟩) (grown_set (p := ⟨w.heap.size, 0, none⟩) (World.grownBy.refl _ _) rfl _) rfl _
      have GZ := Lib.hid gz
      have hZf := (HZX.out.set_ 0 (.int .i64 W)).set_ 1 (.slice D k cD)
      have e0 : ((w5.setCell ⟨w.heap.size, 0, none⟩ (.int .i64 W)).setCell ⟨w.heap.size, 1, none⟩ (.slice D k cD)).cell? ⟨w.heap.size, 0, none⟩ = some (.int .i64 W) := by simpa using hZf.cell 0
      have e1 : ((w5.setCell ⟨w.heap.size, 0, none⟩ (.int .i64 W)).setCell ⟨w.heap.size, 1, none⟩ (.slice D k cD)).cell? ⟨w.heap.size, 1, none⟩ = some (.slice D k cD) := by simpa using hZf.cell 1
      have E0 := Lib.hid e0
      have E1 := Lib.hid e1
      clear hZf e0 e1 gz
      go_wp2_with fail
      have e0 := E0.out
      have e1 := E1.out
      exact bodyPost_ret (v := .tuple #[.agg #[.int .i64 W, .slice D k cD], .slice B q cB, .int .i64 ls]) (by simp [results, Tryz.results32, go_sem, e0, e1]) rfl
        ⟨W, k, D, cD, rows, B, q, cB, hs, P, ls, rfl, HD5.out.grown GZ.out (fun b e r => by injection r with r; have := H3.out b e; omega), H2.out, hk9, (HP5.out.draw GZ.out (by have := HSZ1.out; omega)).baseO (by have := HSZ1.out; omega), hq, hls63, bel_grown (HB5.out) GZ.out (fun b e => by injection e with e; omega)⟩
    | false =>
      clear htx hty et HT
      obtain ⟨t4, ht4⟩ : ∃ t, n % 4 = t := ⟨_, rfl⟩
      have htx4 : (n : Int).tmod 4 = ((n % 4 : Nat) : Int) := (Int.ofNat_tmod n 4).symm
      rw [ht4] at htx4
      have h4 : t4 < 4 := by omega
      clear ht4
      go_upto_region 5 with fail
      go_cut [3, 4] (fun s3 s4 wx => s3 = .slice B q cB ∧ ∃ x : Int, s4 = .int .i64 x ∧ x < 9223372036854775808 ∧ wx = (((w5.setCell ⟨w.heap.size, 0, none⟩ (.int .i64 W)).setCell ⟨w.heap.size, 1, none⟩ (.slice D k cD)).alloc (.cells #[.int .i64 0, .int .i64 3, .int .i64 (-1), .int .i64 5] 3)).drew)
      case first =>
        rcases t4 with _ | _ | _ | _ | t4
        · go_wp2_with fail
          go_region_with fail
          all_goals
            go_wp2
            go_meet
            exact ⟨rfl, 0, rfl, by decide, rfl⟩
        · go_wp2_with fail
          go_region_with fail
          all_goals
            go_wp2
            go_meet
            exact ⟨rfl, 3, rfl, by decide, rfl⟩
        · go_wp2_with fail
          go_region_with fail
          all_goals
            go_wp2
            go_meet
            exact ⟨rfl, -1, rfl, by decide, rfl⟩
        · go_wp2_with fail
          go_region_with fail
          all_goals
            go_wp2
            go_meet
            exact ⟨rfl, 5, rfl, by decide, rfl⟩
        · omega
      case rest =>
        obtain ⟨rfl, x, rfl, hx63, rfl⟩ := hcut
        have gz : w5.grownBy ((w5.setCell ⟨w.heap.size, 0, none⟩ (.int .i64 W)).setCell ⟨w.heap.size, 1, none⟩ (.slice D k cD)) (some w.heap.size) := grown_set (p := ⟨w.heap.size, 1, none⟩) (grown_set (p := ⟨w.heap.size, 0, none⟩) (World.grownBy.refl _ _) rfl _) rfl _
        have GZ := Lib.hid gz
        have HBL := Lib.hid (bel_drew (bel_alloc (Below.refl ((w5.setCell ⟨w.heap.size, 0, none⟩ (.int .i64 W)).setCell ⟨w.heap.size, 1, none⟩ (.slice D k cD)).heap.size ((w5.setCell ⟨w.heap.size, 0, none⟩ (.int .i64 W)).setCell ⟨w.heap.size, 1, none⟩ (.slice D k cD))) (.cells #[.int .i64 0, .int .i64 3, .int .i64 (-1), .int .i64 5] 3)))
        have hZf := (((HZ5.out.set_ 0 (.int .i64 W)).set_ 1 (.slice D k cD)).alloc (.cells #[.int .i64 0, .int .i64 3, .int .i64 (-1), .int .i64 5] 3)).drew
        have e0 : ((((w5.setCell ⟨w.heap.size, 0, none⟩ (.int .i64 W)).setCell ⟨w.heap.size, 1, none⟩ (.slice D k cD)).alloc (.cells #[.int .i64 0, .int .i64 3, .int .i64 (-1), .int .i64 5] 3)).drew).cell? ⟨w.heap.size, 0, none⟩ = some (.int .i64 W) := by simpa using hZf.cell 0
        have e1 : ((((w5.setCell ⟨w.heap.size, 0, none⟩ (.int .i64 W)).setCell ⟨w.heap.size, 1, none⟩ (.slice D k cD)).alloc (.cells #[.int .i64 0, .int .i64 3, .int .i64 (-1), .int .i64 5] 3)).drew).cell? ⟨w.heap.size, 1, none⟩ = some (.slice D k cD) := by simpa using hZf.cell 1
        have E0 := Lib.hid e0
        have E1 := Lib.hid e1
        clear hZf e0 e1 gz c0 c1 cl z0 z1 g0 g1 zl
        go_wp2_with fail
        have e0 := E0.out
        have e1 := E1.out
        exact bodyPost_ret (v := .tuple #[.agg #[.int .i64 W, .slice D k cD], .slice B q cB, .int .i64 x]) (by simp [results, Tryz.results32, go_sem, e0, e1]) rfl
          ⟨W, k, D, cD, rows, B, q, cB, hs, P, x, rfl, (HD5.out.grown GZ.out (fun b e r => by injection r with r; have := H3.out b e; omega)).below HBL.out, H2.out, hk9, ((HP5.out.draw GZ.out (by have := HSZ1.out; omega)).below HBL.out).baseO (by have := HSZ1.out; omega), hq, hx63, bel_trans (bel_grown HB5.out GZ.out (fun b e => by injection e with e; omega)) HBL.out⟩
end Go.Proofs.YtcgjnonlndaoeaaGreatDoor

/- The laws' count of bits. -/
namespace Go.Proofs.YtcgjnonlndaoeaaGreatDoor
open Go.RowKit
set_option linter.unusedVariables false
attribute [local go_sem ↓] Go.wp_at_zero Go.wp_at_succ

theorem pop_half {y : Nat} (h : y < 2 ^ 63) : pop y = y % 2 + pop (y / 2) := by
  rw [pop_at (k := 64) (by omega) (by omega), pop_at (x := y / 2) (k := 63) (by omega) (by omega)]
  exact popN_succ 63 y
theorem pop_zero : pop 0 = 0 := by decide
theorem bits_l (x : Nat) (w : World) (hx : x < 2 ^ 62) : Calls Tryz.prog 28 #[.int .i64 (x : Int)] w (Ret w (.int .i64 (pop x : Nat))) := by
  by_cases hx0 : 0 < x
  · have hp64 : pop x ≤ 64 := by unfold pop; have h := List.countP_le_length (p := fun i => x.testBit i) (l := List.range 64); simpa using h
    have hm : (x : Int) > 0 := by omega
    obtain ⟨r, hr⟩ : ∃ r, pop x = r := ⟨_, rfl⟩
    rw [hr] at hp64 ⊢
    have HR := Lib.hid hr
    clear hr hx0
    go_enter Tryz.func28, Tryz.ntmps28
    go_wp2_with fail
    go_loopw [4, 3] (fun e4 e3 wr => ∃ (y a : Nat), y < 2 ^ 62 ∧ e4 = .int .i64 y ∧ e3 = .int .i64 a ∧ a + pop y = r ∧ wr = w) (fun e4 _ _ => (intOf e4).toNat)
    case atStart => exact ⟨x, 0, hx, rfl, rfl, by rw [HR.out]; omega, rfl⟩
    case round =>
      obtain ⟨y, a, hy, rfl, rfl, ha, rfl⟩ := hrel
      by_cases h0 : 0 < y
      · have h1 : (y : Int) > 0 := by omega
        have hh := pop_half (y := y) (by omega)
        obtain ⟨t, ht⟩ : ∃ t, y % 2 = t := ⟨_, rfl⟩
        obtain ⟨z, hz⟩ : ∃ z, y / 2 = z := ⟨_, rfl⟩
        have ht1 : (y : Int) % 2 = (t : Int) := by omega
        have ht2 : (y : Int).tmod 2 = (t : Int) := by rw [← ht]; exact (Int.ofNat_tmod y 2).symm
        have hz1 : (y : Int) / 2 = (z : Int) := by omega
        have hz2 : (y : Int).tdiv 2 = (z : Int) := by rw [← hz]; exact (Int.ofNat_tdiv y 2).symm
        have et : IntKind.i64.wrap (t : Int) = (t : Int) := Go.IntWalk.i64_in _ (by omega)
        have ez : IntKind.i64.wrap (z : Int) = (z : Int) := Go.IntWalk.i64_in _ (by omega)
        have hz62 : z < 2 ^ 62 := by omega
        have hzy : z < y := by omega
        have ea : IntKind.i64.wrap ((a : Int) + (t : Int)) = (a : Int) + (t : Int) := Go.IntWalk.i64_in _ (by omega)
        rw [ht, hz] at hh
        have HA := Lib.hid (by omega : a + t + pop z = r)
        clear hh ha ht hz hy hx hm
        go_wp2_with fail
        exact ⟨⟨z, a + t, hz62, rfl, by go_num, HA.out, trivial⟩, by simp [intOf]; omega⟩
      · obtain rfl : y = 0 := by omega
        have h1 : ¬ ((0 : Nat) : Int) > 0 := by omega
        have hae : a = r := by rw [pop_zero] at ha; omega
        subst hae
        clear ha HR hm
        go_wp2_with fail
        go_ret
        exact ⟨rfl, Below.refl _ _⟩
  · obtain rfl : x = 0 := by omega
    rw [pop_zero]
    go_enter Tryz.func28, Tryz.ntmps28
    go_wp2_with fail
    go_loopw [4, 3] (fun e4 e3 wr => e4 = .int .i64 0 ∧ e3 = .int .i64 0 ∧ wr = w) (fun _ _ _ => 0)
    case atStart => exact ⟨rfl, rfl, rfl⟩
    case round =>
      obtain ⟨rfl, rfl, rfl⟩ := hrel
      go_wp2_with fail
      go_ret
      exact ⟨rfl, Below.refl _ _⟩
end Go.Proofs.YtcgjnonlndaoeaaGreatDoor

/- Headers of rows that are only read; two slices that grow side by side. -/
namespace Go.Proofs.YtcgjnonlndaoeaaGreatDoor
open Go.RowKit
set_option linter.unusedVariables false
/-- The rows behind some headers read as lists of integers, none of them empty. -/
structure RowsH (w : World) (hs : List H) (F : List (List Int)) : Prop where
  len : hs.length = F.length
  at_ : ∀ k (a : k < hs.length) (b : k < F.length), hs[k].2.1 = F[k].length ∧ 0 < F[k].length ∧ Rd w hs[k].1 (vI F[k])
def away (hs : List H) (g : Nat) : Prop := ∀ h ∈ hs, ob h.1 ≠ some g
section
variable {w w' : World} {hs : List H} {F : List (List Int)}
theorem Rd.blk {A : Option Addr} {f : List Int} (h : Rd w A (vI f)) (hp : 0 < f.length) : ∃ g, ob A = some g ∧ g < w.heap.size := by
  obtain ⟨g, off, rfl, hg, _⟩ := RdI.at_ h hp
  exact ⟨g, rfl, hg⟩
theorem RowsH.nil (w : World) : RowsH w [] [] := ⟨rfl, fun k h => by simp at h⟩
theorem RowsH.below (h : RowsH w hs F) (hb : Below w.heap.size w w') : RowsH w' hs F := ⟨h.len, fun k a b => ⟨(h.at_ k a b).1, (h.at_ k a b).2.1, (h.at_ k a b).2.2.below hb⟩⟩
theorem RowsH.lt (h : RowsH w hs F) : ∀ x ∈ hs, ∃ g, ob x.1 = some g ∧ g < w.heap.size := by
  intro x hx
  obtain ⟨k, hk, rfl⟩ := List.mem_iff_getElem.1 hx
  have := h.at_ k hk (by rw [← h.len]; exact hk)
  exact this.2.2.blk this.2.1
theorem RowsH.grown {row : Option Nat} (h : RowsH w hs F) (hg : w.grownBy w' row) (hn : ∀ g, row = some g → away hs g) : RowsH w' hs F :=
  ⟨h.len, fun k a b => ⟨(h.at_ k a b).1, (h.at_ k a b).2.1, (h.at_ k a b).2.2.grown hg fun g he e => hn g e.symm _ (List.getElem_mem a) he⟩⟩
theorem RowsH.push (h : RowsH w hs F) {A : Option Addr} {n c : Nat} {f : List Int} (hr : Rd w A (vI f)) (hn : n = f.length) (hp : 0 < f.length) : RowsH w (hs ++ [(A, n, c)]) (F ++ [f]) := by
  refine ⟨by simp [h.len], fun k a b => ?_⟩
  by_cases hk : k < hs.length
  · simp only [List.getElem_append_left hk, List.getElem_append_left (h.len ▸ hk : k < F.length)]
    exact h.at_ k hk _
  · have e : k = hs.length := by simp at a; omega
    subst e
    simp only [List.getElem_append_right (Nat.le_refl _), List.getElem_append_right (Nat.le_of_eq h.len.symm), Nat.sub_self]
    exact ⟨by simpa [h.len] using hn, by simpa [h.len] using hp, by simpa [h.len] using hr⟩
theorem away_push {g : Nat} {h : H} (ha : away hs g) (h1 : ob h.1 ≠ some g) : away (hs ++ [h]) g := by
  intro x hx
  rcases List.mem_append.1 hx with hx | hx
  · exact ha x hx
  · simp only [List.mem_singleton] at hx; rw [hx]; exact h1
theorem RowsH.away_new (h : RowsH w hs F) {g : Nat} (hg : w.heap.size ≤ g) : away hs g := by
  intro x hx e
  obtain ⟨g', h1, h2⟩ := h.lt x hx
  rw [h1] at e
  injection e with e
  omega
end
/-- Two slices of the call's own that grow, a row of headers and their rows, a block beside them. -/
structure Two (base g0 : Nat) (t1 s1 : Nat) (vs : List Value) (A : Option Addr) (n c : Nat) (B : Option Addr) (c2 : Nat) (hs : List H) (F : List (List Int)) (cells : Array Value) (w : World) : Prop where
  own1 : w.ownsRow base t1 s1 (.slice A n c) n vs
  own2 : w.ownsRow base 22 1 (.slice B n c2) n (vS hs)
  rows : RowsH w hs F
  beside : Blk w g0 3 cells
  sepA : ∀ g, ob A = some g → ob B ≠ some g ∧ away hs g ∧ g ≠ g0
  sepB : ∀ g, ob B = some g → away hs g ∧ g ≠ g0
theorem Two.below {base g0 t1 s1 : Nat} {vs : List Value} {A : Option Addr} {n c : Nat} {B : Option Addr} {c2 : Nat} {hs : List H} {F : List (List Int)} {cells : Array Value} {w w' : World}
    (h : Two base g0 t1 s1 vs A n c B c2 hs F cells w) (hb : Below w.heap.size w w') : Two base g0 t1 s1 vs A n c B c2 hs F cells w' :=
  ⟨own_keep h.own1 hb, own_keep h.own2 hb, h.rows.below hb, h.beside.below hb, h.sepA, h.sepB⟩
theorem Two.push {base g0 t1 s1 : Nat} {vs vs' : List Value} {A A' : Option Addr} {n c c' : Nat} {B B' : Option Addr} {c2 c2' : Nat} {hs : List H} {F : List (List Int)} {cells : Array Value} {w1 w2 w2' w3 : World}
    {D : Option Addr} {cf : Nat} {f : List Int} {o1 : Obj}
    (h : Two base g0 t1 s1 vs A n c B c2 hs F cells w1) (hf : Rd w1 D (vI f)) {nf : Nat} (hn : nf = f.length) (hp : 0 < f.length) (hfd : ∀ g, ob D = some g → ob A ≠ some g ∧ ob B ≠ some g)
    (ho1 : w2.ownsRow base t1 s1 (.slice A' (n + 1) c') (n + 1) vs') (hg1 : (w1.alloc o1).grownBy w2 (ob A)) (ha1 : ob A' = ob A ∨ ob A' = some (w1.alloc o1).heap.size)
    (hm : Below w2.heap.size w2 w2')
    (ho2 : w3.ownsRow base 22 1 (.slice B' (n + 1) c2') (n + 1) (vS (hs ++ [(D, nf, cf)]))) (hg2 : w2'.grownBy w3 (ob B)) (ha2 : ob B' = ob B ∨ ob B' = some w2'.heap.size) :
    Two base g0 t1 s1 vs' A' (n + 1) c' B' c2' (hs ++ [(D, nf, cf)]) (F ++ [f]) cells w3 := by
  obtain ⟨gf, hgf, hgl⟩ := hf.blk hp
  obtain ⟨hfa, hfb⟩ := hfd gf hgf
  have hz1 : (w1.alloc o1).heap.size = w1.heap.size + 1 := by simp
  have hz2 := hg1.size
  have hz3 := hm.size
  have hz4 := hg2.size
  rw [hz1] at ha1 hz2
  have hbl := h.beside.lt
  -- the blocks that were there
  have hAnew : ∀ g, ob A' = some g → ob A = some g ∨ g = w1.heap.size + 1 := fun g e => by
    rcases ha1 with h1 | h1
    · exact .inl (h1 ▸ e)
    · rw [h1] at e; injection e with e; exact .inr e.symm
  have hBnew : ∀ g, ob B' = some g → ob B = some g ∨ g = w2'.heap.size := fun g e => by
    rcases ha2 with h1 | h1
    · exact .inl (h1 ▸ e)
    · rw [h1] at e; injection e with e; exact .inr e.symm
  have hAlt := own_lt h.own1
  have hBlt := own_lt h.own2
  have r1 : RowsH w2 hs F := (h.rows.below (Below.alloc (Below.refl _ _) (Nat.le_refl _) o1)).grown hg1 fun g e => (h.sepA g e).2.1
  have f1 : Rd w2 D (vI f) := (hf.alloc o1).grown hg1 fun g he e => by rw [hgf] at he; injection he with he; subst he; exact hfa e.symm
  have k1 : Blk w2 g0 3 cells := (h.beside.alloc o1).grown hg1 fun e => (h.sepA g0 e.symm).2.2 rfl
  have r2 : RowsH w3 hs F := (r1.below hm).grown hg2 fun g e => (h.sepB g e).1
  have f2 : Rd w3 D (vI f) := (f1.below hm).grown hg2 fun g he e => by rw [hgf] at he; injection he with he; subst he; exact hfb e.symm
  have k2 : Blk w3 g0 3 cells := (k1.below hm).grown hg2 fun e => (h.sepB g0 e.symm).2 rfl
  have o1' : w3.ownsRow base t1 s1 (.slice A' (n + 1) c') (n + 1) vs' := (own_keep ho1 hm).kept hg2 (by
    rw [ownBlock_slice]
    cases hA : ob A' with
    | none => exact .inl rfl
    | some g =>
      right
      intro e
      rcases hAnew g hA with h1 | h1
      · exact (h.sepA g h1).1 e.symm
      · have := (hBlt g e.symm).2; omega)
  refine ⟨o1', ho2, r2.push f2 hn hp, k2, fun g hg => ?_, fun g hg => ?_⟩
  · rcases hAnew g hg with h1 | h1
    · obtain ⟨s1, s2, s3⟩ := h.sepA g h1
      refine ⟨fun e => ?_, away_push s2 (fun e => by rw [hgf] at e; injection e with e; subst e; exact hfa h1), s3⟩
      rcases hBnew g e with h2 | h2
      · exact s1 h2
      · have := (hAlt g h1).2; omega
    · refine ⟨fun e => ?_, away_push (h.rows.away_new (by omega)) (fun e => by rw [hgf] at e; injection e with e; omega), by omega⟩
      rcases hBnew g e with h2 | h2
      · have := (hBlt g h2).2; omega
      · have := (own_lt ho1 g hg).2; omega
  · rcases hBnew g hg with h1 | h1
    · obtain ⟨s2, s3⟩ := h.sepB g h1
      exact ⟨away_push s2 (fun e => by rw [hgf] at e; injection e with e; subst e; exact hfb h1), s3⟩
    · exact ⟨away_push (h.rows.away_new (by omega)) (fun e => by rw [hgf] at e; injection e with e; omega), by omega⟩
end Go.Proofs.YtcgjnonlndaoeaaGreatDoor

/- Slices of slices of integers, all of it the call's own: made, kept, marked. -/
namespace Go.Proofs.YtcgjnonlndaoeaaGreatDoor
open Go.RowKit
set_option linter.unusedVariables false
structure Own2 (base : Nat) (w : World) (B : Option Addr) (n c : Nat) (hs : List H) (F : List (List Int)) : Prop where
  own : w.ownsRow base 22 1 (.slice B n c) n (vS hs)
  len : hs.length = F.length
  row : ∀ k (a : k < hs.length) (b : k < F.length), w.ownsRow base 3 1 (.slice hs[k].1 hs[k].2.1 hs[k].2.2) hs[k].2.1 (vI F[k])
  off : ∀ g, ob B = some g → away hs g
  sep : ∀ i j (a : i < hs.length) (b : j < hs.length), i ≠ j → ∀ g, ob hs[i].1 = some g → ob hs[j].1 ≠ some g
/-- A result that is a slice of slices of the call's own. -/
def RetO2 (w : World) (F : List (List Int)) (e : Ending) (w' : World) : Prop :=
  ∃ A n c hs, e = .returned (.slice A n c) ∧ Own2 w.heap.size w' A n c hs F ∧ Below w.heap.size w w'
section
variable {base : Nat} {w w' : World} {B : Option Addr} {n c : Nat} {hs : List H} {F : List (List Int)}
theorem Own2.nil (base : Nat) (w : World) : Own2 base w none 0 0 [] [] :=
  ⟨own_nil _ _ _ _, rfl, fun k a => by simp at a, fun g h => by simp [ob] at h, fun i j a => by simp at a⟩
theorem Own2.none_ (h : w.ownsRow base 22 1 (.slice B 0 c) 0 []) : Own2 base w B 0 c [] [] :=
  ⟨h, rfl, fun k a => by simp at a, fun g _ x hx => by simp at hx, fun i j a => by simp at a⟩
theorem Own2.hlen (h : Own2 base w B n c hs F) : hs.length = n := by have := own_len h.own; rw [vS_length] at this; omega
theorem Own2.flen (h : Own2 base w B n c hs F) : F.length = n := h.len ▸ h.hlen
theorem Own2.rlen (h : Own2 base w B n c hs F) {k : Nat} (a : k < hs.length) (b : k < F.length) : F[k].length = hs[k].2.1 := by have := own_len (h.row k a b); rw [vI_length] at this; omega
theorem Own2.below (h : Own2 base w B n c hs F) (hb : Below w.heap.size w w') : Own2 base w' B n c hs F :=
  ⟨own_keep h.own hb, h.len, fun k a b => own_keep (h.row k a b) hb, h.off, h.sep⟩
theorem own_mono2 {base' e size : Nat} {A : Option Addr} {xs : List Value} (h : w.ownsRow base e size (.slice A n c) n xs) (hb : base' ≤ base) : w.ownsRow base' e size (.slice A n c) n xs := by
  refine ⟨h.1, ?_⟩
  rcases h.2 with hn | ⟨g, cap, cur, hv, hg, hgg, rest⟩
  · exact .inl hn
  · exact .inr ⟨g, cap, cur, hv, Nat.le_trans hb hg, hgg, rest⟩
theorem Own2.mono {base' : Nat} (h : Own2 base w B n c hs F) (hb : base' ≤ base) : Own2 base' w B n c hs F :=
  ⟨own_mono2 h.own hb, h.len, fun k a b => own_mono2 (h.row k a b) hb, h.off, h.sep⟩
theorem own_kept {e size : Nat} {A : Option Addr} {xs : List Value} {row : Option Nat} (h : w.ownsRow base e size (.slice A n c) n xs) (hg : w.grownBy w' row) (hn : ∀ g, ob A = some g → row ≠ some g) : w'.ownsRow base e size (.slice A n c) n xs :=
  h.kept hg (by
    rw [ownBlock_slice]
    cases hA : ob A with
    | none => exact .inl rfl
    | some g => right; intro e; exact hn g hA e.symm)
theorem Own2.grown {row : Option Nat} (h : Own2 base w B n c hs F) (hg : w.grownBy w' row) (hn : ∀ g, row = some g → g < base) : Own2 base w' B n c hs F :=
  ⟨own_kept h.own hg fun g e r => by have := (own_lt h.own g e).1; have := hn g r; omega, h.len,
   fun k a b => own_kept (h.row k a b) hg fun g e r => by have := (own_lt (h.row k a b) g e).1; have := hn g r; omega, h.off, h.sep⟩
theorem Own2.at_ (h : Own2 base w B n c hs F) {k : Nat} (a : k < hs.length) : ∃ g off, B = some ⟨g, off, none⟩ ∧ g < w.heap.size ∧ w.cell? ⟨g, off + k, none⟩ = some (.slice hs[k].1 hs[k].2.1 hs[k].2.2) :=
  RdS.at_ (Rd.of_own h.own) a
theorem Own2.rd (h : Own2 base w B n c hs F) {k : Nat} (a : k < hs.length) (b : k < F.length) : Rd w hs[k].1 (vI F[k]) := Rd.of_own (h.row k a b)
/-- One row is written anew. -/
theorem Own2.put (h : Own2 base w B n c hs F) {k : Nat} (a : k < hs.length) (f : List Int) (hr : w'.ownsRow base 3 1 (.slice hs[k].1 hs[k].2.1 hs[k].2.2) hs[k].2.1 (vI f)) (hg : w.grownBy w' (ob hs[k].1)) :
    Own2 base w' B n c hs (F.set k f) := by
  refine ⟨own_kept h.own hg fun g e r => h.off g e _ (List.getElem_mem a) r, by simpa using h.len, fun j a' b' => ?_, h.off, h.sep⟩
  by_cases e : k = j
  · subst e
    rw [List.getElem_set_self]
    exact hr
  · rw [List.getElem_set_ne e]
    exact own_kept (h.row j a' (by simpa using b')) hg fun g e1 r => h.sep k j a a' e g r e1
/-- One row more. -/
theorem Own2.push {w3 : World} {g1 nf cf : Nat} {f : List Int} {B' : Option Addr} {c' : Nat}
    (h : Own2 base w B n c hs F) (hf : w'.ownsRow base 3 1 (.slice (some ⟨g1, 0, none⟩) nf cf) nf (vI f)) (hg1 : w.heap.size ≤ g1) (hb : Below w.heap.size w w')
    (ho : w3.ownsRow base 22 1 (.slice B' (n + 1) c') (n + 1) (vS (hs ++ [(some ⟨g1, 0, none⟩, nf, cf)]))) (hg : w'.grownBy w3 (ob B)) (ha : ob B' = ob B ∨ ob B' = some w'.heap.size) :
    Own2 base w3 B' (n + 1) c' (hs ++ [(some ⟨g1, 0, none⟩, nf, cf)]) (F ++ [f]) := by
  have hB := own_lt h.own
  have hf1 := (own_lt hf g1 rfl).2
  have hsz := hb.size
  have hold : ∀ k (a : k < hs.length) (b : k < F.length) g, ob hs[k].1 = some g → g < w.heap.size := fun k a b g e => (own_lt (h.row k a b) g e).2
  refine ⟨ho, by simp [h.len], fun k a b => ?_, fun g e => ?_, ?_⟩
  · by_cases hk : k < hs.length
    · have hk2 : k < F.length := h.len ▸ hk
      simp only [List.getElem_append_left hk, List.getElem_append_left hk2]
      exact own_kept (own_keep (h.row k hk hk2) hb) hg fun g e r => h.off g r _ (List.getElem_mem hk) e
    · have e : k = hs.length := by simp at a; omega
      subst e
      have e3 : (hs ++ [((some ⟨g1, 0, none⟩, nf, cf) : H)])[hs.length]'a = (some ⟨g1, 0, none⟩, nf, cf) := by simp
      have e4 : (F ++ [f])[hs.length]'b = f := by rw [List.getElem_append_right (Nat.le_of_eq h.len.symm)]; simp
      rw [e3, e4]
      exact own_kept hf hg fun g e r => by simp only [ob, Option.map_some, Option.some.injEq] at e; subst e; have := (hB _ r).2; omega
  · intro x hx
    rcases List.mem_append.1 hx with hx | hx
    · rcases ha with h1 | h1
      · exact h.off g (h1 ▸ e) x hx
      · rw [h1] at e
        injection e with e
        intro r
        obtain ⟨k, hk, rfl⟩ := List.mem_iff_getElem.1 hx
        have := hold k hk (h.len ▸ hk) g r
        omega
    · simp only [List.mem_singleton] at hx
      subst hx
      intro r
      simp only [ob, Option.map_some, Option.some.injEq] at r
      subst r
      rcases ha with h1 | h1
      · rw [h1] at e
        have := (hB _ e).2
        omega
      · rw [h1] at e
        injection e with e
        omega
  · have hn1 : ∀ i (a : i < hs.length) g, ob hs[i].1 = some g → ob (some (⟨g1, 0, none⟩ : Addr)) ≠ some g := fun i a g e r => by
      simp only [ob, Option.map_some, Option.some.injEq] at r
      subst r
      have := hold i a (h.len ▸ a) _ e
      omega
    intro i j a b hij g e
    by_cases hi : i < hs.length
    · by_cases hj : j < hs.length
      · simp only [List.getElem_append_left hi] at e
        simp only [List.getElem_append_left hj]
        exact h.sep i j hi hj hij g e
      · have ej : j = hs.length := by simp at b; omega
        subst ej
        simp only [List.getElem_append_left hi] at e
        simp only [List.getElem_append_right (Nat.le_refl _), Nat.sub_self, List.getElem_cons_zero]
        exact hn1 i hi g e
    · have ei : i = hs.length := by simp at a; omega
      subst ei
      have hj : j < hs.length := by simp at b; omega
      simp only [List.getElem_append_right (Nat.le_refl _), Nat.sub_self, List.getElem_cons_zero] at e
      simp only [List.getElem_append_left hj]
      exact fun r => hn1 j hj g r e
end
def total (F : List (List Int)) : Nat := (F.map List.length).sum
def markF : Int → List (List Int) → List (List Int)
  | _, [] => []
  | k, f :: t => io k f.length :: markF (k + f.length) t
theorem total_snoc (F : List (List Int)) (f : List Int) : total (F ++ [f]) = total F + f.length := by simp [total]
theorem total_append (F F2 : List (List Int)) : total (F ++ F2) = total F + total F2 := by simp [total]
theorem total_take (F : List (List Int)) (j : Nat) (h : j < F.length) : total (F.take (j + 1)) = total (F.take j) + F[j].length := by rw [List.take_succ_eq_append_getElem h, total_snoc]
theorem total_le (F : List (List Int)) (j : Nat) : total (F.take j) ≤ total F := by
  have := total_append (F.take j) (F.drop j)
  rw [List.take_append_drop] at this
  omega
theorem markF_len : ∀ (k : Int) (F : List (List Int)), (markF k F).length = F.length
  | _, [] => rfl
  | k, f :: t => by simp [markF, markF_len]
theorem markF_snoc : ∀ (k : Int) (F : List (List Int)) (f : List Int), markF k (F ++ [f]) = markF k F ++ [io (k + total F) f.length]
  | k, [], f => by simp [markF, total]
  | k, g :: t, f => by
    simp only [List.cons_append, markF, markF_snoc, total, List.map_cons, List.sum_cons, Int.natCast_add]
    rw [show k + (g.length : Int) + ((t.map List.length).sum : Nat) = k + ((g.length : Int) + ((t.map List.length).sum : Nat)) from by omega]
theorem markF_step (k : Int) (F : List (List Int)) (j : Nat) (h : j < F.length) :
    (markF k (F.take j) ++ F.drop j).set j (io (k + total (F.take j)) F[j].length) = markF k (F.take (j + 1)) ++ F.drop (j + 1) := by
  have hl : (markF k (F.take j)).length = j := by rw [markF_len, List.length_take]; omega
  rw [List.set_append_right _ _ (by omega), hl, Nat.sub_self, List.take_succ_eq_append_getElem h, markF_snoc, List.append_assoc, List.drop_eq_getElem_cons h]
  rfl
theorem markF_get (k : Int) (F : List (List Int)) (j : Nat) (h : j < F.length) : (markF k F)[j]'(by rw [markF_len]; exact h) = io (k + total (F.take j)) F[j].length := by
  have h1 := markF_snoc k (F.take j) F[j]
  rw [← List.take_succ_eq_append_getElem h] at h1
  have h2 : markF k F = markF k (F.take (j + 1)) ++ markF (k + total (F.take (j + 1))) (F.drop (j + 1)) := by
    have : ∀ (F1 : List (List Int)) (k : Int) (F2 : List (List Int)), markF k (F1 ++ F2) = markF k F1 ++ markF (k + total F1) F2 := by
      intro F1
      induction F1 with
      | nil => intro k F2; simp [markF, total]
      | cons g t ih =>
        intro k F2
        simp only [List.cons_append, markF, ih, total, List.map_cons, List.sum_cons, Int.natCast_add]
        rw [show k + (g.length : Int) + ((t.map List.length).sum : Nat) = k + ((g.length : Int) + ((t.map List.length).sum : Nat)) from by omega]
    rw [← this, List.take_append_drop]
  have hl : (markF k (F.take j)).length = j := by rw [markF_len, List.length_take]; omega
  have h3 : (markF k F)[j]? = some (io (k + total (F.take j)) F[j].length) := by
    rw [h2, h1, List.append_assoc, List.getElem?_append_right (by omega), hl, Nat.sub_self]
    rfl
  rw [List.getElem?_eq_getElem (by rw [markF_len]; exact h)] at h3
  injection h3
end Go.Proofs.YtcgjnonlndaoeaaGreatDoor

/- The lists of a search, one for each bit: 64 slices in one block, grown one by one. -/
namespace Go.Proofs.YtcgjnonlndaoeaaGreatDoor
open Go.RowKit
set_option linter.unusedVariables false
/-- For each bit the masks that have it. -/
def fB (L : List Int) : List (List Int) := (List.range 64).map fun k => bitL k L
/-- On the way through one mask's bits. -/
def fB2 (L : List Int) (m : Int) (k : Nat) : List (List Int) := (List.range 64).map fun j => bitL j L ++ (if j < k ∧ m.toNat.testBit j = true then [m] else [])
theorem fB_len (L : List Int) : (fB L).length = 64 := by simp [fB]
theorem fB2_len (L : List Int) (m : Int) (k : Nat) : (fB2 L m k).length = 64 := by simp [fB2]
theorem fB_at (L : List Int) {k : Nat} (h : k < (fB L).length) : (fB L)[k] = bitL k L := by simp [fB]
theorem fB2_at (L : List Int) (m : Int) {k j : Nat} (h : j < (fB2 L m k).length) : (fB2 L m k)[j] = bitL j L ++ (if j < k ∧ m.toNat.testBit j = true then [m] else []) := by simp [fB2]
theorem fB2_zero (L : List Int) (m : Int) : fB2 L m 0 = fB L := by
  unfold fB2 fB
  congr 1
  funext j
  rw [if_neg (by omega), List.append_nil]
theorem fB2_no (L : List Int) (m : Int) {k : Nat} (h : m.toNat.testBit k = false) : fB2 L m (k + 1) = fB2 L m k := by
  unfold fB2
  congr 1
  funext j
  by_cases hj : j < k
  · simp [hj, show j < k + 1 by omega]
  · by_cases he : j = k
    · subst he; simp [h]
    · rw [if_neg (by omega), if_neg (by omega)]
theorem fB2_yes (L : List Int) (m : Int) {k : Nat} (hk : k < 64) (h : m.toNat.testBit k = true) : fB2 L m (k + 1) = (fB2 L m k).set k (bitL k L ++ [m]) := by
  apply List.ext_getElem
  · rw [List.length_set, fB2_len, fB2_len]
  · intro j h1 h2
    rw [List.getElem_set, fB2_at]
    by_cases he : k = j
    · subst he
      rw [if_pos rfl, if_pos ⟨by omega, h⟩]
    · rw [if_neg he, fB2_at]
      by_cases hj : j < k
      · simp [hj, show j < k + 1 by omega]
      · rw [if_neg (by omega), if_neg (by omega)]
theorem fB2_now (L : List Int) (m : Int) {k : Nat} (h : k < (fB2 L m k).length) : (fB2 L m k)[k] = bitL k L := by
  rw [fB2_at, if_neg (by omega), List.append_nil]
theorem fB2_end (L : List Int) (m : Int) {k : Nat} (h : m.toNat < 2 ^ k) : fB2 L m k = fB (L ++ [m]) := by
  unfold fB2 fB
  congr 1
  funext j
  rw [bitL_snoc]
  by_cases hb : m.toNat.testBit j = true
  · have hj : j < k := by
      rcases Nat.lt_or_ge j k with h2 | h2
      · exact h2
      · rw [Nat.testBit_lt_two_pow (Nat.lt_of_lt_of_le h (Nat.pow_le_pow_right (by decide) h2))] at hb
        cases hb
    rw [if_pos ⟨hj, hb⟩, if_pos hb]
  · rw [if_neg (fun h2 => hb h2.2), if_neg hb, List.append_nil]
/-- A search's cells: 64 slices, two functions. -/
def srC (hs : List H) (v t : Value) : List Value := vS hs ++ [v, t]
structure Srch (base gs : Nat) (w : World) (hs : List H) (F : List (List Int)) (v t : Value) : Prop where
  blk : Blk w gs 90 (srC hs v t).toArray
  hlen : hs.length = 64
  flen : F.length = 64
  row : ∀ k (a : k < hs.length) (b : k < F.length), w.ownsRow base 3 1 (.slice hs[k].1 hs[k].2.1 hs[k].2.2) hs[k].2.1 (vI F[k])
  low : gs < base
  sep : ∀ i j (a : i < hs.length) (b : j < hs.length), i ≠ j → ∀ g, ob hs[i].1 = some g → ob hs[j].1 ≠ some g
section
variable {base gs : Nat} {w w' : World} {hs : List H} {F : List (List Int)} {v t : Value}
theorem Srch.below (h : Srch base gs w hs F v t) (hb : Below w.heap.size w w') : Srch base gs w' hs F v t :=
  ⟨h.blk.below hb, h.hlen, h.flen, fun k a b => own_keep (h.row k a b) hb, h.low, h.sep⟩
theorem Srch.cell (h : Srch base gs w hs F v t) {k : Nat} (hk : k < hs.length) : w.cell? ⟨gs, k, none⟩ = some (.slice hs[k].1 hs[k].2.1 hs[k].2.2) := by
  rw [h.blk.cell k]
  unfold srC
  rw [List.getElem?_toArray, List.getElem?_append_left (by rw [vS_length]; exact hk)]
  simp [vS, hd, hk]
theorem Srch.cellV (h : Srch base gs w hs F v t) : w.cell? ⟨gs, 64, none⟩ = some v ∧ w.cell? ⟨gs, 65, none⟩ = some t := by
  rw [h.blk.cell 64, h.blk.cell 65]
  unfold srC
  rw [List.getElem?_toArray, List.getElem?_toArray, List.getElem?_append_right (by rw [vS_length, h.hlen]; omega), List.getElem?_append_right (by rw [vS_length, h.hlen]; omega), vS_length, h.hlen]
  exact ⟨rfl, rfl⟩
theorem Srch.rlen (h : Srch base gs w hs F v t) {k : Nat} (a : k < hs.length) (b : k < F.length) : F[k].length = hs[k].2.1 := by have := own_len (h.row k a b); rw [vI_length] at this; omega
theorem srC_set (hs : List H) (v t : Value) {k : Nat} (hk : k < hs.length) (h : H) : (srC hs v t).toArray.setIfInBounds k (hd h) = (srC (hs.set k h) v t).toArray := by
  unfold srC
  rw [List.setIfInBounds_toArray, List.set_append_left _ _ (by rw [vS_length]; exact hk)]
  congr 2
  simp [vS, List.map_set]
/-- One list more by one mask. -/
theorem Srch.put (h : Srch base gs w hs F v t) {k : Nat} (a : k < hs.length) (b : k < F.length) {w2 : World} {A : Option Addr} {n c : Nat} {f : List Int}
    (ho : w2.ownsRow base 3 1 (.slice A n c) n (vI f)) (hg : w.grownBy w2 (ob hs[k].1)) (ha : ob A = ob hs[k].1 ∨ ∀ g, ob A = some g → w.heap.size ≤ g) :
    Srch base gs (w2.setCell ⟨gs, k, none⟩ (.slice A n c)) (hs.set k (A, n, c)) (F.set k f) v t := by
  have hlt : ∀ j (a : j < hs.length) g, ob hs[j].1 = some g → base ≤ g ∧ g < w.heap.size := fun j a g e => own_lt (h.row j a (by rw [h.flen, ← h.hlen]; exact a)) g e
  have hfar : ∀ {n c : Nat} {A : Option Addr} {xs : List Value}, w2.ownsRow base 3 1 (.slice A n c) n xs → ∀ u, (w2.setCell ⟨gs, k, none⟩ u).ownsRow base 3 1 (.slice A n c) n xs := fun ho u => own_set ho (fun g e => by have := (own_lt ho g e).1; have := h.low; show g ≠ gs; omega) u
  refine ⟨?_, by rw [List.length_set]; exact h.hlen, by rw [List.length_set]; exact h.flen, fun j aj bj => ?_, h.low, fun i j ai bj hij g e => ?_⟩
  · rw [← srC_set hs v t a (A, n, c)]
    exact (h.blk.grown hg (fun e => by have := (hlt k a gs e.symm).1; have := h.low; omega)).set_ k _
  · by_cases he : k = j
    · subst he
      simp only [List.getElem_set_self]
      exact hfar ho _
    · simp only [List.getElem_set_ne he]
      rw [List.length_set] at aj bj
      exact hfar (own_kept (h.row j aj bj) hg (fun g e r => h.sep j k aj a (Ne.symm he) g e r)) _
  · rw [List.length_set] at ai bj
    by_cases hi : k = i
    · subst hi
      simp only [List.getElem_set_self] at e
      simp only [List.getElem_set_ne hij]
      intro r
      rcases ha with ha | ha
      · rw [ha] at e
        exact h.sep k j ai bj hij g e r
      · have h1 := ha g e
        have h2 := (hlt j bj g r).2
        omega
    · simp only [List.getElem_set_ne hi] at e
      by_cases hj : k = j
      · subst hj
        simp only [List.getElem_set_self]
        intro r
        rcases ha with ha | ha
        · rw [ha] at r
          exact h.sep i k ai bj hij g e r
        · have h1 := ha g r
          have h2 := (hlt i ai g e).2
          omega
      · simp only [List.getElem_set_ne hj]
        exact h.sep i j ai bj hij g e
end
end Go.Proofs.YtcgjnonlndaoeaaGreatDoor
