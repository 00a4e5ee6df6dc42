/- Texts of this claim, one behind the other: part 5. -/
import Derived.Test.YtcgjnonlndaoeaaGreatU4FnPuzzles
import Derived.Outline
import Derived.WalkLawsBesides
import Derived.WalkSpells
import Derived.BigQuiet
import Derived.Deep.QuietTactic
import Derived.Deep.RegionHeld3
import Derived.Deep.RegionWith
import Derived.Deep.DeepCutAuto
import Derived.Deep.CutBlock
import Derived.Deep.DrawnRows
import Derived.Laws.BytesArg
/- Cells and shapes turned, the orientations of a shape: the reference. -/
namespace Go.Proofs.YtcgjnonlndaoeaaGreat
open Go.RowKit
set_option linter.unusedVariables false
attribute [local go_sem ↓] Go.wp_at_zero Go.wp_at_succ

set_option maxHeartbeats 1600000 in
theorem l3Apply_s (x y : Int) (m : Nat) (w : World) (hq : in7 1000 (x, y)) (hm : m < 8) :
    Calls Tryz.prog 104 #[.agg #[.int .i64 x, .int .i64 y], .int .i64 (m : Int)] w (Ret w (.agg #[.int .i64 (motC m (x, y)).1, .int .i64 (motC m (x, y)).2])) := by
  obtain ⟨r, hr⟩ : ∃ r, m % 4 = r := ⟨_, rfl⟩
  have hr4 : r < 4 := by omega
  have hmr : (m : Int) % 4 = (r : Int) := by omega
  have hm0 : (0 : Int) ≤ (m : Int) := by omega
  have hm7 : (m : Int) ≤ 7 := by omega
  obtain ⟨⟨h1, h2⟩, h3, h4⟩ := id hq
  simp only at h1 h2 h3 h4
  have HOK := Lib.hid (in7_flip hq m)
  have HC : Hid (motC m (x, y) = rotC r (flipC m (x, y))) := by show motC m (x, y) = _; unfold motC; rw [hr]
  have ex : IntKind.i64.wrap (-x) = -x := Go.IntWalk.i64_in _ (by omega)
  clear hr hq
  by_cases h4m : 4 ≤ m
  · have HST : Hid (rotC 0 (flipC m (x, y)) = (-x, y)) := by show flipC m (x, y) = _; unfold flipC; rw [if_pos h4m]
    have h4i : (m : Int) ≥ 4 := by omega
    go_enter Tryz.func104, Tryz.ntmps104
    go_wp2
    go_loopw [5] (fun e13 wr => ∃ (j : Nat) (x' y' : Int), j ≤ r ∧ e13 = .int .i64 j ∧ rotC j (flipC m (x, y)) = (x', y') ∧ Blk wr w.heap.size 80 #[.int .i64 x', .int .i64 y'] ∧ Blk wr (w.heap.size + 1) 80 #[.int .i64 0, .int .i64 0] ∧ Below w.heap.size w wr) (fun e13 _ => r - (intOf e13).toNat)
    case atStart =>
      have hb1 : Blk ((w.alloc (.cells #[.int .i64 (-x), .int .i64 y] 80)).alloc (.cells #[.int .i64 0, .int .i64 0] 80)) w.heap.size 80 #[.int .i64 (-x), .int .i64 y] := (Blk.new w 80 #[.int .i64 (-x), .int .i64 y]).alloc _
      have hb2 : Blk ((w.alloc (.cells #[.int .i64 (-x), .int .i64 y] 80)).alloc (.cells #[.int .i64 0, .int .i64 0] 80)) (w.heap.size + 1) 80 #[.int .i64 0, .int .i64 0] := by
        have h := Blk.new (w.alloc (.cells #[.int .i64 (-x), .int .i64 y] 80)) 80 #[.int .i64 0, .int .i64 0]
        rw [show (w.alloc (.cells #[.int .i64 (-x), .int .i64 y] 80)).heap.size = w.heap.size + 1 from by simp] at h
        exact h
      exact ⟨0, (-x), y, Nat.zero_le _, rfl, HST.out, hb1, hb2, (by (repeat (first | with_reducible exact Below.refl _ _ | with_reducible assumption | with_reducible apply bel_alloc | with_reducible apply bel_drew | with_reducible apply bel_drewN | ((with_reducible refine bel_set ?_ ?_); rotate_left; (simp <;> omega)) | (with_reducible refine bel_trans ?_ (by with_reducible assumption)))))⟩
    case round =>
      obtain ⟨j, x', y', hj, rfl, hrot, hB, hB2, hb⟩ := hrel
      have ho : in7 1000 (x', y') := by rw [← hrot]; exact in7_rot HOK.out j
      obtain ⟨⟨k1, k2⟩, k3, k4⟩ := ho
      simp only at k1 k2 k3 k4
      have en : IntKind.i64.wrap (-y') = -y' := Go.IntWalk.i64_in _ (by omega)
      have c0 : wr.cell? ⟨w.heap.size, 0, none⟩ = some (.int .i64 x') := by simpa using hB.cell 0
      have c1 : wr.cell? ⟨w.heap.size, 1, none⟩ = some (.int .i64 y') := by simpa using hB.cell 1
      have f0 := hB.frozen 0
      have f1 := hB.frozen 1
      have d0 : wr.cell? ⟨w.heap.size + 1, 0, none⟩ = some (.int .i64 0) := by simpa using hB2.cell 0
      have d1 : wr.cell? ⟨w.heap.size + 1, 1, none⟩ = some (.int .i64 0) := by simpa using hB2.cell 1
      have fd0 := hB2.frozen 0
      have fd1 := hB2.frozen 1
      by_cases hlt : j < r
      · have hj1 : (j : Int) < (r : Int) := by omega
        have HR : Hid (rotC (j + 1) (flipC m (x, y)) = (-y', x')) := by show (-(rotC j _).2, (rotC j _).1) = _; rw [hrot]
        have hS : Blk ((wr.setCell ⟨w.heap.size, 0, none⟩ (.int .i64 (-y'))).setCell ⟨w.heap.size, 1, none⟩ (.int .i64 x')) w.heap.size 80 #[.int .i64 (-y'), .int .i64 x'] := by simpa using (hB.set_ 0 (.int .i64 (-y'))).set_ 1 (.int .i64 x')
        have hS2 : Blk ((wr.setCell ⟨w.heap.size, 0, none⟩ (.int .i64 (-y'))).setCell ⟨w.heap.size, 1, none⟩ (.int .i64 x')) (w.heap.size + 1) 80 #[.int .i64 0, .int .i64 0] := (hB2.far (by simp) _).far (by simp) _
        have HS := Lib.hid hS
        have HS2 := Lib.hid hS2
        clear hrot hB hB2 hS hS2
        go_wp2
        exact ⟨⟨j + 1, -y', x', by omega, by go_num, HR.out, HS.out, HS2.out, (by (repeat (first | with_reducible exact Below.refl _ _ | with_reducible assumption | with_reducible apply bel_alloc | with_reducible apply bel_drew | with_reducible apply bel_drewN | ((with_reducible refine bel_set ?_ ?_); rotate_left; (simp <;> omega)) | (with_reducible refine bel_trans ?_ (by with_reducible assumption)))))⟩, by simp [intOf]; omega⟩
      · have hjr : j = r := by omega
        subst hjr
        have HV : Hid (motC m (x, y) = (x', y')) := by show motC m (x, y) = _; rw [HC.out, hrot]
        have hj1 : ¬ (j : Int) < (j : Int) := by omega
        clear hrot hB hB2
        go_wp2
        exact bodyPost_ret (v := .agg #[.int .i64 x', .int .i64 y']) (by simp [results, Tryz.results104, go_sem, d0, d1]) rfl ⟨by rw [HV.out], (by (repeat (first | with_reducible exact Below.refl _ _ | with_reducible assumption | with_reducible apply bel_alloc | with_reducible apply bel_drew | with_reducible apply bel_drewN | ((with_reducible refine bel_set ?_ ?_); rotate_left; (simp <;> omega)) | (with_reducible refine bel_trans ?_ (by with_reducible assumption)))))⟩
  · have HST : Hid (rotC 0 (flipC m (x, y)) = (x, y)) := by show flipC m (x, y) = _; unfold flipC; rw [if_neg h4m]
    have h4i : ¬ (m : Int) ≥ 4 := by omega
    go_enter Tryz.func104, Tryz.ntmps104
    go_wp2
    go_loopw [5] (fun e13 wr => ∃ (j : Nat) (x' y' : Int), j ≤ r ∧ e13 = .int .i64 j ∧ rotC j (flipC m (x, y)) = (x', y') ∧ Blk wr w.heap.size 80 #[.int .i64 x', .int .i64 y'] ∧ Blk wr (w.heap.size + 1) 80 #[.int .i64 0, .int .i64 0] ∧ Below w.heap.size w wr) (fun e13 _ => r - (intOf e13).toNat)
    case atStart =>
      have hb1 : Blk ((w.alloc (.cells #[.int .i64 x, .int .i64 y] 80)).alloc (.cells #[.int .i64 0, .int .i64 0] 80)) w.heap.size 80 #[.int .i64 x, .int .i64 y] := (Blk.new w 80 #[.int .i64 x, .int .i64 y]).alloc _
      have hb2 : Blk ((w.alloc (.cells #[.int .i64 x, .int .i64 y] 80)).alloc (.cells #[.int .i64 0, .int .i64 0] 80)) (w.heap.size + 1) 80 #[.int .i64 0, .int .i64 0] := by
        have h := Blk.new (w.alloc (.cells #[.int .i64 x, .int .i64 y] 80)) 80 #[.int .i64 0, .int .i64 0]
        rw [show (w.alloc (.cells #[.int .i64 x, .int .i64 y] 80)).heap.size = w.heap.size + 1 from by simp] at h
        exact h
      exact ⟨0, x, y, Nat.zero_le _, rfl, HST.out, hb1, hb2, (by (repeat (first | with_reducible exact Below.refl _ _ | with_reducible assumption | with_reducible apply bel_alloc | with_reducible apply bel_drew | with_reducible apply bel_drewN | ((with_reducible refine bel_set ?_ ?_); rotate_left; (simp <;> omega)) | (with_reducible refine bel_trans ?_ (by with_reducible assumption)))))⟩
    case round =>
      obtain ⟨j, x', y', hj, rfl, hrot, hB, hB2, hb⟩ := hrel
      have ho : in7 1000 (x', y') := by rw [← hrot]; exact in7_rot HOK.out j
      obtain ⟨⟨k1, k2⟩, k3, k4⟩ := ho
      simp only at k1 k2 k3 k4
      have en : IntKind.i64.wrap (-y') = -y' := Go.IntWalk.i64_in _ (by omega)
      have c0 : wr.cell? ⟨w.heap.size, 0, none⟩ = some (.int .i64 x') := by simpa using hB.cell 0
      have c1 : wr.cell? ⟨w.heap.size, 1, none⟩ = some (.int .i64 y') := by simpa using hB.cell 1
      have f0 := hB.frozen 0
      have f1 := hB.frozen 1
      have d0 : wr.cell? ⟨w.heap.size + 1, 0, none⟩ = some (.int .i64 0) := by simpa using hB2.cell 0
      have d1 : wr.cell? ⟨w.heap.size + 1, 1, none⟩ = some (.int .i64 0) := by simpa using hB2.cell 1
      have fd0 := hB2.frozen 0
      have fd1 := hB2.frozen 1
      by_cases hlt : j < r
      · have hj1 : (j : Int) < (r : Int) := by omega
        have HR : Hid (rotC (j + 1) (flipC m (x, y)) = (-y', x')) := by show (-(rotC j _).2, (rotC j _).1) = _; rw [hrot]
        have hS : Blk ((wr.setCell ⟨w.heap.size, 0, none⟩ (.int .i64 (-y'))).setCell ⟨w.heap.size, 1, none⟩ (.int .i64 x')) w.heap.size 80 #[.int .i64 (-y'), .int .i64 x'] := by simpa using (hB.set_ 0 (.int .i64 (-y'))).set_ 1 (.int .i64 x')
        have hS2 : Blk ((wr.setCell ⟨w.heap.size, 0, none⟩ (.int .i64 (-y'))).setCell ⟨w.heap.size, 1, none⟩ (.int .i64 x')) (w.heap.size + 1) 80 #[.int .i64 0, .int .i64 0] := (hB2.far (by simp) _).far (by simp) _
        have HS := Lib.hid hS
        have HS2 := Lib.hid hS2
        clear hrot hB hB2 hS hS2
        go_wp2
        exact ⟨⟨j + 1, -y', x', by omega, by go_num, HR.out, HS.out, HS2.out, (by (repeat (first | with_reducible exact Below.refl _ _ | with_reducible assumption | with_reducible apply bel_alloc | with_reducible apply bel_drew | with_reducible apply bel_drewN | ((with_reducible refine bel_set ?_ ?_); rotate_left; (simp <;> omega)) | (with_reducible refine bel_trans ?_ (by with_reducible assumption)))))⟩, by simp [intOf]; omega⟩
      · have hjr : j = r := by omega
        subst hjr
        have HV : Hid (motC m (x, y) = (x', y')) := by show motC m (x, y) = _; rw [HC.out, hrot]
        have hj1 : ¬ (j : Int) < (j : Int) := by omega
        clear hrot hB hB2
        go_wp2
        exact bodyPost_ret (v := .agg #[.int .i64 x', .int .i64 y']) (by simp [results, Tryz.results104, go_sem, d0, d1]) rfl ⟨by rw [HV.out], (by (repeat (first | with_reducible exact Below.refl _ _ | with_reducible assumption | with_reducible apply bel_alloc | with_reducible apply bel_drew | with_reducible apply bel_drewN | ((with_reducible refine bel_set ?_ ?_); rotate_left; (simp <;> omega)) | (with_reducible refine bel_trans ?_ (by with_reducible assumption)))))⟩
theorem map_takeS {α β : Type} (f : α → β) (xs : List α) (k : Nat) (hk : k < xs.length) : (xs.take (k + 1)).map f = (xs.take k).map f ++ [f xs[k]] := by
  rw [List.take_succ_eq_append_getElem hk, List.map_append]; rfl
set_option maxHeartbeats 1600000 in
theorem l3Turn_s (A : Option Addr) (n c : Nat) (xs : List C) (m : Nat) (w : World) (hr : Rd w A (vC xs)) (hl : xs.length = n) (hs : isShape xs = true) (hm : m < 8) :
    Calls Tryz.prog 81 #[.slice A n c, .int .i64 (m : Int)] w (RetS w 80 2 (vC (turnV xs m))) := by
  have hn8 := shape_len hs
  have hti := turn_in hs m
  have hob := shape_onB hs
  rw [hl] at hn8
  obtain ⟨hn1, hn8⟩ := hn8
  have HL := Lib.hid hl
  have HR := Lib.hid hr
  have HTI := Lib.hid hti
  have HOB := Lib.hid hob
  clear hl hr hs hti hob
  go_enter Tryz.func81, Tryz.ntmps81
  have HI0 := Lib.hid (own_new w 80 2 0 #[] rfl (by simp [maxLen]) (Nat.le_refl _))
  go_wp2
  go_loopw [6, 5] (fun e10 e5 wr => ∃ (k cq : Nat) (D : Option Addr), k ≤ n ∧ e10 = .int .i64 k ∧ e5 = .slice D k cq ∧ wr.ownsRow w.heap.size 80 2 (.slice D k cq) k (vC ((xs.take k).map (motC m))) ∧ Below w.heap.size w wr) (fun e10 _ _ => n - (intOf e10).toNat)
  case atStart => exact ⟨0, 0, _, Nat.zero_le _, rfl, rfl, HI0.out, bel_alloc (Below.refl _ _) _⟩
  case round =>
    clear HI0
    obtain ⟨k, cq, D, hk, rfl, rfl, hown, hb⟩ := hrel
    by_cases hlt : k < n
    · have hkl : k < xs.length := by rw [HL.out]; exact hlt
      have hk0 : (0 : Int) ≤ (k : Int) := by omega
      have hk1 : (k : Int) < (n : Int) := by omega
      obtain ⟨g, off, hA, hg, d1, d2⟩ := RdC.at_ (HR.out.below hb) hkl
      subst hA
      have hst := map_takeS (motC m) xs k hkl
      have h7 := in7_onB (HOB.out _ (List.getElem_mem hkl))
      obtain ⟨p, hp⟩ : ∃ p, xs[k].1 = p := ⟨_, rfl⟩
      obtain ⟨q, hq⟩ : ∃ q, xs[k].2 = q := ⟨_, rfl⟩
      rw [show xs[k] = (p, q) from Prod.ext hp hq] at hst h7
      rw [hp] at d1
      rw [hq] at d2
      have hK : in7 1000 (p, q) := by unfold in7 at h7 ⊢; simp only at h7 ⊢; omega
      obtain ⟨⟨x', y'⟩, hxy⟩ : ∃ z, motC m (p, q) = z := ⟨_, rfl⟩
      rw [hxy] at hst
      have HCA : Hid (∀ w0, Calls Tryz.prog 104 #[.agg #[.int .i64 p, .int .i64 q], .int .i64 (m : Int)] w0 (Ret w0 (.agg #[.int .i64 x', .int .i64 y']))) := fun w0 => by
        have h := l3Apply_s p q m w0 hK hm
        rw [hxy] at h
        exact h
      have HST := Lib.hid hst
      have HO := Lib.hid hown
      clear hst hown hp hq h7 hxy hK
      go_wp2_with fail
      refine (HCA.out _).mono ?_
      rintro e w2 ⟨rfl, hb2⟩
      have hb02 := bel_trans hb hb2
      have HO2 := Lib.hid (own_keep HO.out hb2)
      have hbz := hb02.size
      clear d1 d2
      go_wp2_with (at_builtin; go_must (refine app_C _ rfl _ _ rfl w.heap.size _ _ _ _ rfl (HO2.out.alloc _) _ _ _ [(x', y')] rfl (rd_newC _ _ _ _) rfl (by omega) (by simp; omega) ?_); intro D2 cp2 w8 ho8 hg8 hat8; have HO8 := Lib.hid ho8; have HG8 := Lib.hid hg8; clear ho8 hg8 hat8)
      exact ⟨⟨k + 1, cp2, D2, by omega, by go_num, rfl, by rw [HST.out]; exact HO8.out, bel_app (bel_alloc hb02 _) HG8.out (fun g' hg1 => ((own_lt HO2.out) g' hg1).1)⟩, by simp [intOf]; omega⟩
    · obtain rfl : k = n := by omega
      rw [List.take_of_length_le (by rw [HL.out]; omega)] at hown
      have HO := Lib.hid hown
      have hk1 : ¬ (k : Int) < (k : Int) := by omega
      clear hown
      go_wp2_with fail
      refine (SortCells_s D k cq (xs.map (motC m)) _ (Rd.of_own HO.out) (by rw [List.length_map]; exact HL.out) (by omega)).mono ?_
      rintro e w2 ⟨E, q, ce, rfl, hO2, hb2⟩
      have hql : (sortC (xs.map (motC m))).length = q := by have := own_len hO2; rw [vC_length] at this; omega
      have hq8 : q ≤ 8 := by have := sortC_len (xs.map (motC m)); rw [List.length_map, HL.out] at this; omega
      have HO2 := Lib.hid hO2
      have HQL := Lib.hid hql
      clear hO2 hql
      go_wp2_with fail
      refine (l2Corner_s E q ce (sortC (xs.map (motC m))) _ (Rd.of_own HO2.out) HQL.out (by omega) (fun d hd => by have := HTI.out d ((sortC_mem _ _).1 hd); unfold in7 at this; unfold small; omega)).mono ?_
      rintro e w3 ⟨G, q3, cg, rfl, hO3, hb3⟩
      have HV : Hid (turnV xs m = cornS (sortC (xs.map (motC m)))) := by show cornI _ = _; exact corn_eq (by rw [List.length_map, HL.out]; omega)
      have HO3 := Lib.hid hO3
      have hbz := (bel_trans hb hb2).size
      clear hO3
      go_wp2_with fail
      go_ret
      exact ⟨G, q3, cg, rfl, by rw [HV.out]; exact own_base HO3.out hbz, bel_trans (bel_trans hb hb2) hb3⟩
set_option maxHeartbeats 1600000 in
theorem OrientationsOf_s (A : Option Addr) (n c : Nat) (xs : List C) (w : World) (hr : Rd w A (vC xs)) (hl : xs.length = n) (hs : isShape xs = true) :
    Calls Tryz.prog 60 #[.slice A n c] w (PutS w.heap.size w (orV xs)) := by
  have hn8 := (shape_len hs).2
  rw [hl] at hn8
  have hV : orV xs = orTo xs 8 := by unfold orV; rw [if_pos hs]
  have HTL : Hid (∀ m, 1 ≤ (turnV xs m).length ∧ (turnV xs m).length ≤ 8) := fun m => turn_len hs m
  have hmem := orTo_mem xs
  have HME : Hid (∀ k, ∀ x ∈ orTo xs k, x.length ≤ 1048576) := fun k x hx => by
    obtain ⟨m, _, rfl⟩ := hmem k x hx
    have := (turn_len hs m).2
    omega
  have HV := Lib.hid hV
  have HL := Lib.hid hl
  have HR := Lib.hid hr
  have HS := Lib.hid hs
  have HI0 : Hid (OwnF w.heap.size (w.alloc (.cells #[] 51)) (some ⟨w.heap.size, 0, none⟩) 0 0 [] []) := OwnF.none_ (own_new w 51 1 0 #[] rfl (by simp [maxLen]) (Nat.le_refl _))
  clear hl hr hs hV hmem
  go_enter Tryz.func60, Tryz.ntmps60
  go_wp2_with fail
  go_loopw [4, 3] (fun e8 e3 wr => ∃ (m q cq g : Nat) (hs : List H), m ≤ 8 ∧ e8 = .int .i64 m ∧ e3 = .slice (some ⟨g, 0, none⟩) q cq ∧ OwnF w.heap.size wr (some ⟨g, 0, none⟩) q cq hs (orTo xs m) ∧ Below w.heap.size w wr) (fun e8 _ _ => 8 - (intOf e8).toNat)
  case atStart => exact ⟨0, 0, 0, _, [], Nat.zero_le _, rfl, rfl, HI0.out, bel_alloc (Below.refl _ _) _⟩
  case round =>
    clear HI0
    obtain ⟨m, q, cq, g, hs, hm, rfl, rfl, hO, hb⟩ := hrel
    have hql : (orTo xs m).length = q := hO.flen
    have hol := orTo_len xs m
    have HO := Lib.hid hO
    clear hO
    by_cases hlt : m < 8
    · have hm0 : (0 : Int) ≤ (m : Int) := by omega
      have hm1 : (m : Int) < 8 := by omega
      have hst : orTo xs (m + 1) = putG ltS (orTo xs m) (turnV xs m) := rfl
      have hme := HME.out m
      have htl := HTL.out m
      obtain ⟨F, hF⟩ : ∃ F, orTo xs m = F := ⟨_, rfl⟩
      obtain ⟨t, ht⟩ : ∃ t, turnV xs m = t := ⟨_, rfl⟩
      have HTU : Hid (∀ w0, Rd w0 A (vC xs) → Calls Tryz.prog 81 #[.slice A n c, .int .i64 (m : Int)] w0 (RetS w0 80 2 (vC t))) := fun w0 h => by
        have h2 := l3Turn_s A n c xs m w0 h HL.out HS.out hlt
        rw [ht] at h2
        exact h2
      rw [hF, ht] at hst
      rw [hF] at hme hql HO hol
      rw [ht] at htl
      have HST := Lib.hid hst
      have HMF := Lib.hid hme
      clear hst hF ht hme
      go_wp2_with fail
      refine (IsShape_s A n c xs _ (HR.out.below hb) HL.out (by omega)).mono ?_
      rw [HS.out]
      rintro e w1 ⟨rfl, hb1⟩
      have hb01 := bel_trans hb hb1
      go_wp2_with fail
      refine (HTU.out _ (HR.out.below hb01)).mono ?_
      rintro e w2 ⟨E, q2, c2, rfl, hT, hb2⟩
      have hq2 : t.length = q2 := by have := own_len hT; rw [vC_length] at this; omega
      have hO2 := (HO.out.below hb1).below hb2
      have hb12 := bel_trans hb01 hb2
      have HO2 := Lib.hid hO2
      have HCR := Lib.hid (CRow.of_own hT)
      have hz2 := hb12.size
      clear hO2 hT HO
      go_wp2_with fail
      refine (l3Put_s g q cq hs F E q2 c2 t w.heap.size _ HO2.out HCR.out HMF.out (by omega) (by omega) hz2).mono ?_
      rintro e w3 ⟨g3, n3, c3, hs3, rfl, hO3, hb3⟩
      have HO3 := Lib.hid hO3
      clear hO3
      go_wp2_with fail
      exact ⟨⟨m + 1, n3, c3, g3, hs3, by omega, by go_num, rfl, by rw [HST.out]; exact HO3.out, bel_trans hb12 hb3⟩, by simp [intOf]; omega⟩
    · obtain rfl : m = 8 := by omega
      rw [← HV.out] at HO
      have hm1 : ¬ ((8 : Nat) : Int) < 8 := by omega
      go_wp2_with fail
      go_ret
      exact ⟨g, q, cq, hs, rfl, HO.out, hb⟩
end Go.Proofs.YtcgjnonlndaoeaaGreat

/- The placements of a shape, of all pieces, in a region: the reference. -/
namespace Go.Proofs.YtcgjnonlndaoeaaGreat
open Go.RowKit
set_option linter.unusedVariables false
attribute [local go_sem ↓] Go.wp_at_zero Go.wp_at_succ

theorem mv_smallS {t : List C} (h : ∀ c ∈ t, (0 ≤ c.1 ∧ c.1 ≤ 14) ∧ (0 ≤ c.2 ∧ c.2 ≤ 14)) {x y : Nat} (hx : x ≤ 6) (hy : y ≤ 6) : ∀ d ∈ mv t (x : Int) (y : Int), small d := by
  intro d hd
  rw [mv_mem] at hd
  have := h _ hd
  simp only at this
  unfold small
  omega
set_option maxRecDepth 100000 in
set_option maxHeartbeats 6400000 in
theorem PlacementsOf_s (W : Int) (A B : Option Addr) (n c k cb : Nat) (rows : List Int) (xs : List C) (w : World) (hr : Rd w A (vI rows)) (hl : rows.length = n) (hv : isReg W rows = true) (hrx : Rd w B (vC xs)) (hlx : xs.length = k) (hs : isShape xs = true) :
    Calls Tryz.prog 37 #[.agg #[.int .i64 W, .slice A n c], .slice B k cb] w (RetO w w.heap.size 3 1 (vI (plV W rows xs))) := by
  have hv0 := hv
  have hPV : plV W rows xs = putAll (rawTo W rows (orV xs) (orV xs).length) := by unfold plV; rw [if_pos hv]; rfl
  obtain ⟨m, rfl, hm1, hm6, hn1, hn6, hrow⟩ := isReg_yes hv
  have h36 : m * rows.length ≤ 6 * 6 := Nat.mul_le_mul hm6 hn6
  have hmt : ((m : Int)).toNat = m := Int.toNat_natCast _
  have hfine := orV_fine (s := xs)
  have hol := orV_len xs
  have HLX := Lib.hid hlx
  have HSX := Lib.hid hs
  obtain ⟨F, hF⟩ : ∃ F, orV xs = F := ⟨_, rfl⟩
  rw [hF] at hPV hfine hol
  have HF := Lib.hid hF
  have HPV := Lib.hid hPV
  have HFI := Lib.hid hfine
  have HL := Lib.hid hl
  have HV := Lib.hid hv0
  have HR := Lib.hid ((hr.alloc (.cells #[.int .i64 (m : Int), .slice A n c] 26)).alloc (.cells #[] 3))
  have HRX := Lib.hid ((hrx.alloc (.cells #[.int .i64 (m : Int), .slice A n c] 26)).alloc (.cells #[] 3))
  have H36 : Hid (m * rows.length ≤ 36) := h36
  have HMT := Lib.hid hmt
  have HI0 : Hid (((w.alloc (.cells #[.int .i64 (m : Int), .slice A n c] 26)).alloc (.cells #[] 3)).ownsRow w.heap.size 3 1 (.slice (some ⟨w.heap.size + 1, 0, none⟩) 0 0) 0 (vI [])) := by
    have h := own_new (w.alloc (.cells #[.int .i64 (m : Int), .slice A n c] 26)) 3 1 0 #[] rfl (by simp [maxLen]) (base := w.heap.size) (by simp)
    exact Lib.hid (by simpa [vI] using h)
  rw [hl] at hn1 hn6
  clear hl hr hrow hv hv0 hrx hlx hs h36 hmt hPV hfine hF
  go_enter Tryz.func37, Tryz.ntmps37
  go_wp2_with fail
  refine (OrientationsOf_s B k cb xs _ HRX.out HLX.out HSX.out).mono ?_
  rw [HF.out]
  rintro e w1 ⟨gA, q0, c0, hs, rfl, hO0, hb1⟩
  have HB1 := Lib.hid (((Blk.new w 26 #[.int .i64 (m : Int), .slice A n c]).alloc (.cells #[] 3)).below hb1)
  have HR1 := Lib.hid (HR.out.below hb1)
  have hbw1 : Below w.heap.size w w1 := bel_trans (bel_alloc (bel_alloc (Below.refl _ _) _) _) hb1
  have HI1 := Lib.hid (own_keep HI0.out hb1)
  have HRF := Lib.hid hO0.rd
  have HFL := Lib.hid hO0.flen
  have hq8 : q0 ≤ 8 := by have := hO0.flen; omega
  have hgA := (own_lt hO0.own gA rfl).2
  have HGR : Hid (∀ (i : Nat) x f, hs[i]? = some x → F[i]? = some f → ∀ g, ob x.1 = some g → g < w1.heap.size) := fun i x f h1 h2 g e => (hO0.row i x f h1 h2).lt g e
  clear hb1 hO0 HI0
  go_wp2_with fail
  go_loopw [7, 5] (fun e15 e5 wr => ∃ (i q cq g : Nat), i ≤ q0 ∧ e15 = .int .i64 i ∧ e5 = .slice (some ⟨g, 0, none⟩) q cq ∧ wr.ownsRow w.heap.size 3 1 (.slice (some ⟨g, 0, none⟩) q cq) q (vI (putAll (rawTo (m : Int) rows F i))) ∧ Below w1.heap.size w1 wr) (fun e15 _ _ => q0 - (intOf e15).toNat)
  case atStart => exact ⟨0, 0, 0, _, Nat.zero_le _, rfl, rfl, by simpa [rawTo, putAll] using HI1.out, Below.refl _ _⟩
  case round =>
    clear HI1
    obtain ⟨i, q, cq, gD, hi, rfl, rfl, hO, hb⟩ := hrel
    have hB := HB1.out.below hb
    have b0 : wr.cell? ⟨w.heap.size, 0, none⟩ = some (.int .i64 (m : Int)) := by simpa using hB.cell 0
    have b1 : wr.cell? ⟨w.heap.size, 1, none⟩ = some (.slice A n c) := by simpa using hB.cell 1
    have hgw := hB.lt
    clear hB
    by_cases hlt : i < q0
    · have hi0 : (0 : Int) ≤ (i : Int) := by omega
      have hi1 : (i : Int) < (q0 : Int) := by omega
      obtain ⟨x, t, gA', off, hsx, hfx, hAe, hg, d1, hrow⟩ := HRF.out.at_ hlt
      simp only [Option.some.injEq, Addr.mk.injEq, and_true] at hAe
      obtain ⟨rfl, rfl⟩ := hAe
      rw [Nat.zero_add] at d1
      have hft := HFI.out t (List.mem_of_getElem? hfx)
      have hgrt := HGR.out i x t hsx hfx
      have hstep : rawTo (m : Int) rows F (i + 1) = rawTo (m : Int) rows F i ++ rowY (m : Int) rows t n := by
        show _ ++ rowY _ _ (F.getD i []) rows.length = _
        rw [List.getD_eq_getElem?_getD, hfx, Option.getD_some, HL.out]
      have hol2 := (rawTo_msk H36.out F i).2
      obtain ⟨C1, m1, k1⟩ := x
      have hl1 : t.length = m1 := hrow.1
      obtain ⟨O, hOe⟩ : ∃ O, rawTo (m : Int) rows F i = O := ⟨_, rfl⟩
      rw [hOe] at hstep hO hol2
      have hrt : Rd w1 C1 (vC t) := hrow.2.1
      have HRT := Lib.hid hrt
      have HL1 := Lib.hid hl1
      have HFT := Lib.hid hft
      have HST := Lib.hid hstep
      have HO := Lib.hid hO
      have HGT := Lib.hid hgrt
      have hOl : O.length ≤ 288 := by omega
      dsimp only at d1
      have HD1 := Lib.hid d1
      have hm8 : m1 ≤ 8 := by have := hft.1.2; omega
      clear hsx hfx hrow hstep hO hl1 hft hOe hrt hol2 hgrt d1
      go_wp2_with fail
      refine (IsRegion_s _ _ _ _ rows _ (HR1.out.below hb) HL.out).mono ?_
      rw [HV.out]
      rintro e w2 ⟨rfl, hb2⟩
      have hb12 := bel_trans hb hb2
      have HO2 := Lib.hid (own_keep HO.out hb2)
      clear HO b0 b1 hgw
      go_wp2_with fail
      go_loopw [8, 5] (fun e22 e5 wr => ∃ (y q cq gD : Nat), y ≤ n ∧ e22 = .int .i64 y ∧ e5 = .slice (some ⟨gD, 0, none⟩) q cq ∧ wr.ownsRow w.heap.size 3 1 (.slice (some ⟨gD, 0, none⟩) q cq) q (vI (putAll (O ++ rowY (m : Int) rows t y))) ∧ Below w1.heap.size w1 wr) (fun e22 _ _ => n - (intOf e22).toNat)
      case atStart => exact ⟨0, q, cq, gD, Nat.zero_le _, rfl, rfl, by simpa [rowY] using HO2.out, hb12⟩
      case round =>
        clear HO2 hb hb2 hb12
        obtain ⟨y, q, cq, gD, hy, rfl, rfl, hO, hb⟩ := hrel
        have hB := HB1.out.below hb
        have b0 : wr.cell? ⟨w.heap.size, 0, none⟩ = some (.int .i64 (m : Int)) := by simpa using hB.cell 0
        have b1 : wr.cell? ⟨w.heap.size, 1, none⟩ = some (.slice A n c) := by simpa using hB.cell 1
        have hgw := hB.lt
        clear hB
        by_cases hly : y < n
        · have hy0 : (0 : Int) ≤ (y : Int) := by omega
          have hy1 : (y : Int) < (n : Int) := by omega
          have hstY : rowY (m : Int) rows t (y + 1) = rowY (m : Int) rows t y ++ rowX (m : Int) rows t y m := by show _ ++ rowX _ _ _ _ _ = _; rw [HMT.out]
          have hyl := (rowY_msk H36.out t y).2
          obtain ⟨O2, hO2⟩ : ∃ O2, O ++ rowY (m : Int) rows t y = O2 := ⟨_, rfl⟩
          have hstY2 : O ++ rowY (m : Int) rows t (y + 1) = O2 ++ rowX (m : Int) rows t y m := by rw [hstY, ← List.append_assoc, hO2]
          have hO2l : O2.length ≤ 400 := by
            rw [← hO2, List.length_append]
            have : y * m ≤ 6 * 6 := Nat.mul_le_mul (by omega) hm6
            omega
          rw [hO2] at hO
          have HST2 := Lib.hid hstY2
          have HO := Lib.hid hO
          clear hstY hyl hO2 hstY2 hO
          go_wp2_with fail
          go_loopw [9, 5] (fun e27 e5 wr => ∃ (x q cq gD : Nat), x ≤ m ∧ e27 = .int .i64 x ∧ e5 = .slice (some ⟨gD, 0, none⟩) q cq ∧ wr.ownsRow w.heap.size 3 1 (.slice (some ⟨gD, 0, none⟩) q cq) q (vI (putAll (O2 ++ rowX (m : Int) rows t y x))) ∧ Below w1.heap.size w1 wr) (fun e27 _ _ => m - (intOf e27).toNat)
          case atStart => exact ⟨0, q, cq, gD, Nat.zero_le _, rfl, rfl, by simpa [rowX] using HO.out, hb⟩
          case round =>
            clear HO hb b0 b1 hgw
            obtain ⟨x, q, cq, gD, hx, rfl, rfl, hO, hb⟩ := hrel
            have hB := HB1.out.below hb
            have b0 : wr.cell? ⟨w.heap.size, 0, none⟩ = some (.int .i64 (m : Int)) := by simpa using hB.cell 0
            have b1 : wr.cell? ⟨w.heap.size, 1, none⟩ = some (.slice A n c) := by simpa using hB.cell 1
            have hgw := hB.lt
            clear hB
            have hql : (putAll (O2 ++ rowX (m : Int) rows t y x)).length = q := by have := own_len hO; rw [vI_length] at this; omega
            have hpl := putAll_len (O2 ++ rowX (m : Int) rows t y x)
            have hxl := (rowX_msk H36.out t y x).2
            rw [List.length_append] at hpl
            have hq500 : q ≤ 500 := by omega
            by_cases hlx : x < m
            · have hx0 : (0 : Int) ≤ (x : Int) := by omega
              have hx1 : (x : Int) < (m : Int) := by omega
              obtain ⟨r, hmc⟩ : ∃ r, mcV (m : Int) rows (mv t (x : Int) (y : Int)) 0 = r := ⟨_, rfl⟩
              have hstX : O2 ++ rowX (m : Int) rows t y (x + 1) = (O2 ++ rowX (m : Int) rows t y x) ++ optL r := by
                show O2 ++ (_ ++ plAt _ _ _ _ _) = _
                unfold plAt
                rw [hmc, List.append_assoc]
              obtain ⟨O3, hO3⟩ : ∃ O3, O2 ++ rowX (m : Int) rows t y x = O3 := ⟨_, rfl⟩
              rw [hO3] at hstX hO
              have HST3 := Lib.hid hstX
              have HO := Lib.hid hO
              have HMC := Lib.hid hmc
              have HSV : Hid (∀ d ∈ mv t (x : Int) (y : Int), small d) := mv_smallS HFT.out.2 (by omega) (by omega)
              have HDI : Hid ((wr.alloc (.cells #[] 80)).ownsRow wr.heap.size 80 2 (.slice (some ⟨wr.heap.size, 0, none⟩) 0 0) 0 (vC ((mv t (x : Int) (y : Int)).take 0))) := by
                have h := own_new wr 80 2 0 #[] rfl (by simp [maxLen]) (Nat.le_refl wr.heap.size)
                exact Lib.hid (by simpa [vC] using h)
              have HWB : Hid (Below wr.heap.size wr (wr.alloc (.cells #[] 80))) := bel_alloc (Below.refl _ _) _
              clear hstX hO hmc hO3 hql hxl hpl
              go_wp2_with fail
              go_loopw [11, 10] (fun e11 e10 wq => ∃ (j cj : Nat) (E : Option Addr), j ≤ m1 ∧ e11 = .int .i64 j ∧ e10 = .slice E j cj ∧ wq.ownsRow wr.heap.size 80 2 (.slice E j cj) j (vC ((mv t (x : Int) (y : Int)).take j)) ∧ Below wr.heap.size wr wq) (fun e11 _ _ => m1 - (intOf e11).toNat)
              case atStart => exact ⟨0, 0, _, Nat.zero_le _, rfl, rfl, HDI.out, HWB.out⟩
              case round =>
                clear HDI HWB
                obtain ⟨j, cj, E, hj, rfl, rfl, hM, hbj⟩ := hrel
                have hb1j := bel_trans hb hbj
                have d1 := keep_below hb1j HD1.out
                have hgAj : gA < wr.heap.size := Nat.lt_of_lt_of_le hgA hb1j.size
                by_cases hlj : j < m1
                · have hjl : j < t.length := by rw [HL1.out]; exact hlj
                  have hj0 : (0 : Int) ≤ (j : Int) := by omega
                  have hj1 : (j : Int) < (m1 : Int) := by omega
                  obtain ⟨g, off, hA, hg0, d2, d3⟩ := RdC.at_ HRT.out hjl
                  have hg1 := HGT.out g (by rw [hA]; rfl)
                  have d2 := keep_below hb1j d2
                  have d3 := keep_below hb1j d3
                  have hgj : g < wr.heap.size := Nat.lt_of_lt_of_le hg1 hb1j.size
                  have hbsz := hb.size
                  have hgE : ¬ (some g = ob E) := fun e => by have := (own_lt hM g e.symm).1; omega
                  have hgAE : ¬ (some gA = ob E) := fun e => by have := (own_lt hM gA e.symm).1; omega
                  have hml : j < (mv t (x : Int) (y : Int)).length := by rw [mv_len]; exact hjl
                  have hst : (mv t (x : Int) (y : Int)).take (j + 1) = (mv t (x : Int) (y : Int)).take j ++ [(t[j].1 + (x : Int), t[j].2 + (y : Int))] := by
                    rw [List.take_succ_eq_append_getElem hml]
                    simp [mv]
                  have hsm := HFT.out.2 _ (List.getElem_mem hjl)
                  obtain ⟨p, hp⟩ : ∃ p, t[j].1 = p := ⟨_, rfl⟩
                  obtain ⟨r', hr'⟩ : ∃ r', t[j].2 = r' := ⟨_, rfl⟩
                  rw [hp, hr'] at hst hsm
                  rw [hp] at d2
                  rw [hr'] at d3
                  have e1 : IntKind.i64.wrap (p + (x : Int)) = p + (x : Int) := Go.IntWalk.i64_in _ (by omega)
                  have e2 : IntKind.i64.wrap (r' + (y : Int)) = r' + (y : Int) := Go.IntWalk.i64_in _ (by omega)
                  have HSTJ := Lib.hid hst
                  have HM := Lib.hid hM
                  have hbs := hbj.size
                  subst hA
                  clear hst hM hp hr' hsm hml hg0 b0 b1 hgw
                  go_wp2_with fail
                  (refine wp_region_tailN (C := Gr wr E) 22 (by kernel_rfl) (by kernel_rfl) (Gr.drawn _ _) (fun _ _ h k => h.ext k) ?_; simp only [List.take_succ_cons, List.take_zero, List.drop_succ_cons, List.drop_zero]; (repeat (first | (refine headSkip (by rfl) rfl ?_; simp only [List.setIfInBounds_toArray, List.set_cons_zero, List.set_cons_succ]) | (refine headV (v := ?_) (by rfl) rfl (fun w' hcw => ?_) ?_; rotate_left; ((try dsimp only at hcw); have hbc := hcw.cells; go_simp; first | done | with_reducible rfl | fail); simp only [List.setIfInBounds_toArray, List.set_cons_zero, List.set_cons_succ]))); unfold wpHead)
                  (refine tailK (by rfl) (fun w3 hc3 he3 K hK => ?_); go_simp; refine hK _ _ (hc3.ext (by (repeat (first | with_reducible exact Below.refl _ _ | with_reducible assumption | with_reducible apply bel_alloc | with_reducible apply bel_drew | with_reducible apply bel_drewN | ((with_reducible refine bel_set ?_ ?_); rotate_left; (simp <;> omega)) | (with_reducible refine bel_trans ?_ (by with_reducible assumption)))))) ?_; clear hK K)
                  (refine tailK (by rfl) (fun w4 hc4 he4 K hK => ?_); refine wpC _ _ _ rfl _ E j cj ((mv t (x : Int) (y : Int)).take j) rfl (own_keep ((own_keep HM.out he3).alloc _) he4) _ 1 1 [(p + (x : Int), r' + (y : Int))] rfl (Rd.below (rd_newC _ _ _ _) he4) rfl (by omega) (by have h2 := he3.size; have h3 := he4.size; simp at h3; omega) ?_; intro A2 c2 w5 hown5 hg5 _; refine hK _ _ (Gr.trans hc4 hg5) ?_; clear hK K; simp only [Act.put, List.setIfInBounds_toArray, List.set_cons_zero, List.set_cons_succ])
                  (refine tailK (by rfl) (fun w6 hc6 he6 K hK => ?_); go_simp; refine hK _ _ (hc6) ?_; clear hK K)
                  (refine fun w7 hc7 he7 => NoPanic.normal ?_)
                  have hb4 := bel_trans (bel_alloc (bel_trans hbj he3) _) he4
                  have hb5 := bel_app hb4 hg5 (fun g' hg' => ((own_lt HM.out) g' hg').1)
                  have HO3 := Lib.hid (own_keep (own_keep hown5 he6) he7)
                  clear hown5
                  go_wp2
                  exact ⟨⟨j + 1, c2, A2, by omega, by go_num, rfl, by rw [HSTJ.out]; exact HO3.out, bel_trans (bel_trans hb5 he6) he7⟩, by simp [intOf]; omega⟩
                · obtain rfl : j = m1 := by omega
                  have hmt2 : (mv t (x : Int) (y : Int)).take j = mv t (x : Int) (y : Int) := List.take_of_length_le (by rw [mv_len, HL1.out]; omega)
                  rw [hmt2] at hM
                  have hmvl : (mv t (x : Int) (y : Int)).length = j := by rw [mv_len]; exact HL1.out
                  have HMVL := Lib.hid hmvl
                  have HRM := Lib.hid (Rd.of_own hM)
                  have hj1 : ¬ (j : Int) < (j : Int) := by omega
                  have c0 := keep_below hbj b0
                  have c1 := keep_below hbj b1
                  have hgwj : w.heap.size < wr.heap.size := Nat.lt_of_lt_of_le hgw hbj.size
                  have HOJ := Lib.hid (own_keep HO.out hbj)
                  clear hM hmt2 hmvl b0 b1 hgw
                  go_wp2_with fail
                  refine (MaskOfCells_s (m : Int) A E n c j cj rows (mv t (x : Int) (y : Int)) _ (HR1.out.below hb1j) HL.out HV.out HRM.out HMVL.out (by omega) HSV.out).mono ?_
                  rw [HMC.out]
                  rintro e w4 ⟨rfl, hb4⟩
                  have HOK := Lib.hid (own_keep HOJ.out hb4)
                  have hb14 := bel_trans hb1j hb4
                  clear c0 c1 hgwj d1 HRM
                  cases r with
                  | none =>
                    simp only [mcR]
                    go_wp2_with fail
                    exact ⟨⟨x + 1, q, cq, gD, by omega, by go_num, rfl, by rw [HST3.out]; simpa [optL] using HOK.out, hb14⟩, by simp [intOf]; omega⟩
                  | some v =>
                    simp only [mcR]
                    have hbzz : w.heap.size ≤ w4.heap.size := (bel_trans hbw1 hb14).size
                    go_wp2_with fail
                    refine (l7Put_s gD q cq (putAll O3) (v : Int) w.heap.size _ HOK.out hbzz (by omega)).mono ?_
                    rintro e w5 ⟨g5, n5, c5, rfl, hO5, hb5⟩
                    have HO5 := Lib.hid hO5
                    have HP5 : Hid (putAll (O3 ++ [(v : Int)]) = putI (putAll O3) (v : Int)) := putAll_snoc _ _
                    clear hO5
                    go_wp2_with fail
                    exact ⟨⟨x + 1, n5, c5, g5, by omega, by go_num, rfl, by rw [HST3.out]; show World.ownsRow _ _ _ _ _ _ (vI (putAll (O3 ++ [(v : Int)]))); rw [HP5.out]; exact HO5.out, bel_trans hb14 hb5⟩, by simp [intOf]; omega⟩
            · obtain rfl : x = m := by omega
              rw [← HST2.out] at hO
              have HO := Lib.hid hO
              have hx1 : ¬ (x : Int) < (x : Int) := by omega
              clear hO hql hxl hpl
              go_wp2_with fail
              exact ⟨⟨y + 1, q, cq, gD, by omega, by go_num, rfl, HO.out, hb⟩, by simp [intOf]; omega⟩
        · obtain rfl : y = n := by omega
          rw [← HST.out] at hO
          have HO := Lib.hid hO
          have hy1 : ¬ (y : Int) < (y : Int) := by omega
          clear hO
          go_wp2_with fail
          exact ⟨⟨i + 1, q, cq, gD, by omega, by go_num, rfl, HO.out, hb⟩, by simp [intOf]; omega⟩
    · obtain rfl : i = q0 := by omega
      have HN : Hid (plV (m : Int) rows xs = putAll (rawTo (m : Int) rows F i)) := by show _ = _; rw [HPV.out, HFL.out]
      rw [← HN.out] at hO
      have HO := Lib.hid hO
      have hi1 : ¬ (i : Int) < (i : Int) := by omega
      clear hO
      go_wp2_with fail
      go_ret
      exact ⟨gD, q, cq, rfl, HO.out, bel_trans hbw1 hb⟩
theorem world_ltS {w : World} {a : Addr} {v : Value} (h : w.cell? a = some v) : a.block < w.heap.size := World.block_lt_of_cell? w a h
theorem putI_len (l : List Int) (n : Int) : (putI l n).length ≤ l.length + 1 := by
  unfold putI
  have := cutTo_le l n l.length
  split
  · omega
  · simp; omega
theorem pcs_atS {P : List (List C)} (h : pcs P = true) : P.length ≤ 5 ∧ ∀ f ∈ P, isShape f = true := by
  refine ⟨(pcs_small h).1, ?_⟩
  unfold pcs at h
  simp only [Bool.and_eq_true, List.all_eq_true] at h
  exact h.1
theorem foldl_take {β : Type} (f : β → Int → β) (b : β) (xs : List Int) (k : Nat) (hk : k < xs.length) : (xs.take (k + 1)).foldl f b = f ((xs.take k).foldl f b) xs[k] := by
  rw [List.take_succ_eq_append_getElem hk, List.foldl_append]; rfl
set_option maxHeartbeats 3200000 in
theorem AllPlacements_s (W : Int) (A B : Option Addr) (n c q cb : Nat) (rows : List Int) (hs : List H) (P : List (List C)) (w : World) (hr : Rd w A (vI rows)) (hl : rows.length = n) (hv : isReg W rows = true) (hp : RdP w B q hs P) (hpc : pcs P = true) :
    Calls Tryz.prog 93 #[.agg #[.int .i64 W, .slice A n c], .slice B q cb] w (RetO w w.heap.size 3 1 (vI (allV W rows P))) := by
  obtain ⟨hq5, hsh⟩ := pcs_atS hpc
  rw [hp.flen] at hq5
  have htc : totC P ≤ 1048576 := by have := (pcs_small hpc).2; omega
  have hN : allV W rows P = putAll (catTo W rows P q) := by unfold allV; rw [hp.flen]
  have HN := Lib.hid hN
  have HSH := Lib.hid hsh
  have HTC := Lib.hid htc
  have HPC := Lib.hid hpc
  have HL := Lib.hid hl
  have HV := Lib.hid hv
  have HR := Lib.hid ((hr.alloc (.cells #[.int .i64 W, .slice A n c] 26)).alloc (.cells #[] 3))
  have HP := Lib.hid ((hp.alloc (.cells #[.int .i64 W, .slice A n c] 26)).alloc (.cells #[] 3))
  have HB1 := Lib.hid ((Blk.new w 26 #[.int .i64 W, .slice A n c]).alloc (.cells #[] 3))
  have HI0 : Hid (((w.alloc (.cells #[.int .i64 W, .slice A n c] 26)).alloc (.cells #[] 3)).ownsRow w.heap.size 3 1 (.slice (some ⟨w.heap.size + 1, 0, none⟩) 0 0) 0 (vI [])) := by
    have h := own_new (w.alloc (.cells #[.int .i64 W, .slice A n c] 26)) 3 1 0 #[] rfl (by simp [maxLen]) (base := w.heap.size) (by simp)
    exact Lib.hid (by simpa [vI] using h)
  have hbw1 : Below w.heap.size w ((w.alloc (.cells #[.int .i64 W, .slice A n c] 26)).alloc (.cells #[] 3)) := bel_alloc (bel_alloc (Below.refl _ _) _) _
  clear hl hr hv hp hN hsh hpc htc
  go_enter Tryz.func93, Tryz.ntmps93
  go_wp2_with fail
  obtain ⟨w1, hw1⟩ : ∃ w1, (w.alloc (.cells #[.int .i64 W, .slice A n c] 26)).alloc (.cells #[] 3) = w1 := ⟨_, rfl⟩
  rw [hw1] at HR HP HB1 hbw1 HI0 ⊢
  clear hw1
  go_loopw [6, 5] (fun e6 e5 wr => ∃ (i k cq g : Nat), i ≤ q ∧ e6 = .int .i64 i ∧ e5 = .slice (some ⟨g, 0, none⟩) k cq ∧ wr.ownsRow w.heap.size 3 1 (.slice (some ⟨g, 0, none⟩) k cq) k (vI (putAll (catTo W rows P i))) ∧ Below w1.heap.size w1 wr) (fun e6 _ _ => q - (intOf e6).toNat)
  case atStart => exact ⟨0, 0, 0, _, Nat.zero_le _, rfl, rfl, by simpa [catTo, putAll] using HI0.out, Below.refl _ _⟩
  case round =>
    clear HI0
    obtain ⟨i, k, cq, g0, hi, rfl, rfl, hO, hb⟩ := hrel
    have hkl : (putAll (catTo W rows P i)).length = k := by have := own_len hO; rw [vI_length] at this; omega
    have hcl := (catTo_msk W rows P i).2
    have hpl := putAll_len (catTo W rows P i)
    have hk : k ≤ 1440 := by omega
    clear hkl hpl
    by_cases hlt : i < q
    · have hi0 : (0 : Int) ≤ (i : Int) := by omega
      have hi1 : (i : Int) < (q : Int) := by omega
      have HO := Lib.hid hO
      obtain ⟨x, f, g, off, _, hfx, hBe, hg0, d0, l1, r1⟩ := HP.out.at_ hlt
      have hfs := HSH.out f (List.mem_of_getElem? hfx)
      have hst : catTo W rows P (i + 1) = catTo W rows P i ++ plV W rows f := by
        show _ ++ plV W rows (P.getD i []) = _
        rw [List.getD_eq_getElem?_getD, hfx, Option.getD_some]
      obtain ⟨C1, m1, k1⟩ := x
      have HFS := Lib.hid hfs
      have HR1 := Lib.hid r1
      have HL1 := Lib.hid l1
      have HST := Lib.hid hst
      have hpl := plV_len W rows f
      dsimp only at d0
      have HD0 := Lib.hid d0
      subst hBe
      clear hfx hst hO r1 l1 hfs d0
      go_wp2_with fail
      refine (ArePieces_s _ q cb hs P _ (HP.out.below hb) (by omega) HTC.out).mono ?_
      rw [HPC.out]
      rintro e w2 ⟨rfl, hb2⟩
      have hb12 := bel_trans hb hb2
      have hB := HB1.out.below hb12
      have b0 : w2.cell? ⟨w.heap.size, 0, none⟩ = some (.int .i64 W) := by simpa using hB.cell 0
      have b1 : w2.cell? ⟨w.heap.size, 1, none⟩ = some (.slice A n c) := by simpa using hB.cell 1
      have hgw := hB.lt
      have d1 := keep_below hb12 HD0.out
      have hg2 : g < w2.heap.size := world_ltS d1
      have HO2 := Lib.hid (own_keep HO.out hb2)
      clear hB HO
      go_wp2_with fail
      (refine wp_region_tailN (C := ExC w2) 5 (by kernel_rfl) (by kernel_rfl) (ExC.drawn _) (fun _ _ h k => ExC.ext h k) ?_; simp only [List.take_succ_cons, List.take_zero, List.drop_succ_cons, List.drop_zero]; (repeat (first | (refine headSkip (by rfl) rfl ?_; simp only [List.setIfInBounds_toArray, List.set_cons_zero, List.set_cons_succ]) | (refine headV (v := ?_) (by rfl) rfl (fun w' hcw => ?_) ?_; rotate_left; ((try dsimp only at hcw); have hbc := hcw.cells; go_simp; first | done | with_reducible rfl | fail); simp only [List.setIfInBounds_toArray, List.set_cons_zero, List.set_cons_succ]))); unfold wpHead)
      refine tailK (by rfl) (fun u1 hc1 he1 K hK => ?_)
      go_simp
      refine (PlacementsOf_s W A C1 n c m1 k1 rows f _ (HR.out.below (bel_trans hb12 hc1)) HL.out HV.out (HR1.out.below (bel_trans hb12 hc1)) HL1.out HFS.out).mono ?_
      rintro e u2 ⟨gE, q2, c2, rfl, hOE, hbE⟩
      have hc2 := bel_trans hc1 hbE
      refine hK _ _ hc2 ?_
      clear hK K
      have hq2 : (plV W rows f).length = q2 := by have := own_len hOE; rw [vI_length] at this; omega
      have HQ2 := Lib.hid hq2
      have HRE := Lib.hid (Rd.of_own hOE)
      (refine tailK (by rfl) (fun u3 hc3 he3 K hK => ?_); go_simp; refine hK _ _ (hc3) ?_; clear hK K)
      (refine fun w4 hc4 he4 => NoPanic.normal ?_)
      have HR4 := Lib.hid ((HRE.out.below he3).below he4)
      have HO4 := Lib.hid (own_keep HO2.out hc4)
      have hb14 := bel_trans hb12 hc4
      have hq3 : q2 ≤ 288 := by omega
      clear hOE hq2 hpl d1 b0 b1 hgw hc3 he3 hc2 hbE hc1 he1 he4 HO2 HRE hg2 hc4
      go_wp2_with fail
      go_loopw [8, 5] (fun e8 e5 wr => ∃ (j k cq g : Nat), j ≤ q2 ∧ e8 = .int .i64 j ∧ e5 = .slice (some ⟨g, 0, none⟩) k cq ∧ wr.ownsRow w.heap.size 3 1 (.slice (some ⟨g, 0, none⟩) k cq) k (vI (((plV W rows f).take j).foldl putI (putAll (catTo W rows P i)))) ∧ k ≤ 1440 + j ∧ Below w4.heap.size w4 wr) (fun e8 _ _ => q2 - (intOf e8).toNat)
      case atStart => exact ⟨0, k, cq, _, Nat.zero_le _, rfl, rfl, by simpa using HO4.out, by omega, Below.refl _ _⟩
      case round =>
        clear HO4
        obtain ⟨j, k, cq, gO, hj, rfl, rfl, hO, hkk, hbj⟩ := hrel
        by_cases hlj : j < q2
        · have hjl : j < (plV W rows f).length := by rw [HQ2.out]; exact hlj
          have hj0 : (0 : Int) ≤ (j : Int) := by omega
          have hj1 : (j : Int) < (q2 : Int) := by omega
          obtain ⟨gR, oR, hA, hgR, d1⟩ := RdI.at_ (HR4.out.below hbj) hjl
          simp only [Option.some.injEq, Addr.mk.injEq, and_true] at hA
          obtain ⟨rfl, rfl⟩ := hA
          rw [Nat.zero_add] at d1
          have hst2 := foldl_take putI (putAll (catTo W rows P i)) (plV W rows f) j hjl
          obtain ⟨v, hv⟩ : ∃ v, (plV W rows f)[j] = v := ⟨_, rfl⟩
          obtain ⟨L, hL⟩ : ∃ L, ((plV W rows f).take j).foldl putI (putAll (catTo W rows P i)) = L := ⟨_, rfl⟩
          rw [hv] at d1 hst2
          rw [hL] at hst2 hO
          have hLk : L.length = k := by have := own_len hO; rw [vI_length] at this; omega
          have hpi := putI_len L v
          have HST2 := Lib.hid hst2
          have HO := Lib.hid hO
          have HPI := Lib.hid hpi
          have HLK := Lib.hid hLk
          have hbz := (bel_trans hbw1 (bel_trans hb14 hbj)).size
          clear hst2 hO hv hL hpi hLk
          go_wp2_with fail
          refine (l7Put_s gO k cq L v w.heap.size _ HO.out hbz (by omega)).mono ?_
          rintro e w5 ⟨g5, n5, c5, rfl, hO5, hb5⟩
          have hn5 : (putI L v).length = n5 := by have := own_len hO5; rw [vI_length] at this; omega
          have hn6 : n5 ≤ 1440 + (j + 1) := by have := HPI.out; have := HLK.out; omega
          have HO5 := Lib.hid hO5
          clear hO5 d1 hn5
          go_wp2_with fail
          exact ⟨⟨j + 1, n5, c5, g5, by omega, by go_num, rfl, by rw [HST2.out]; exact HO5.out, hn6, bel_trans hbj hb5⟩, by simp [intOf]; omega⟩
        · obtain rfl : j = q2 := by omega
          have he : ((plV W rows f).take j).foldl putI (putAll (catTo W rows P i)) = putAll (catTo W rows P (i + 1)) := by
            rw [HST.out, List.take_of_length_le (by rw [HQ2.out]; omega)]
            simp [putAll]
          rw [he] at hO
          have HO := Lib.hid hO
          have hj1 : ¬ (j : Int) < (j : Int) := by omega
          clear he hO
          go_wp2_with fail
          exact ⟨⟨i + 1, k, cq, gO, by omega, by go_num, rfl, HO.out, bel_trans hb14 hbj⟩, by simp [intOf]; omega⟩
    · obtain rfl : i = q := by omega
      rw [← HN.out] at hO
      have HO := Lib.hid hO
      have hi1 : ¬ (i : Int) < (i : Int) := by omega
      clear hO
      go_wp2_with fail
      go_ret
      exact ⟨g0, k, cq, rfl, HO.out, bel_trans hbw1 hb⟩
end Go.Proofs.YtcgjnonlndaoeaaGreat

/- An append onto a row of the call's own: what was there reads as before, at its old place too. -/
namespace Go.Proofs.YtcgjnonlndaoeaaGreat
open Go.RowKit
set_option linter.unusedVariables false
section
variable {w w' : World} {base e size g off n c : Nat} {xs : List Value}
theorem run_append_Q2 {P : Program} (w : World) {base e size g off n c : Nat} {xs : List Value} (t ty : TypeId) (i : TypeInfo) (z : Value) (bytes : Nat) (ht : P.underlying t = some (.slice e)) (hi : P.info? e = some i) (hz : i.zero = some z)
    (hsize : i.size = size) (hby : i.bytes = bytes) (hzs : z.cells.size = size) (hown : World.ownsQ w base e size g off n c xs)
    (a : Addr) (m c2 : Nat) (news : List Value) (hl : news.length = m * size) (hnews : ∀ j u, news[j]? = some u → w.cell? (a.add j) = some u) (h1 : ∀ u ∈ news, u.oneCell' = true)
    (h63 : n + m ≤ maxLen) (hbytes : (n + m) * bytes ≤ 140737488355328) (hbase : base ≤ w.heap.size) :
    ∃ g' off' c' w', (Builtin.append_ #[t, t] ty #[.slice (some ⟨g, off, none⟩) n c, .slice (some a) m c2]).run P w = .ok (.slice (some ⟨g', off', none⟩) (n + m) c') w' ∧ World.ownsQ w' base e size g' off' (n + m) c' (xs ++ news) ∧ w.grownBy w' (some g) ∧ (g' = g ∧ off' = off ∨ g' = w.heap.size) ∧ Rd w' (some ⟨g, off, none⟩) xs := by
  subst hsize hby
  have hrd := Rd.of_ownQ hown
  obtain ⟨hx, hnc, hcm, hbg, cur, hg, hfit, htake⟩ := hown
  have hlen : (xs ++ news).length = (n + m) * i.size := by rw [List.length_append, hx, hl, Nat.add_mul]
  by_cases hroom : n + m ≤ c
  · have hfit2 : off + n * i.size + news.length ≤ cur.size := by
      have : (n + m) * i.size ≤ c * i.size := Nat.mul_le_mul_right _ hroom
      rw [Nat.add_mul] at this
      omega
    have hf := run_firstCells_some (P := P) w i.size m a m c2 news hl hnews
    have hst := run_storeCells_at P g (off + n * i.size) e news 0 cur w hg (by simpa using hfit2) h1
    simp only [Nat.add_zero] at hst
    have hadd : (⟨g, off, none⟩ : Addr).add (n * i.size) = ⟨g, off + n * i.size, none⟩ := by unfold Addr.add; split <;> simp_all
    refine ⟨g, off, c, _, by simp [Builtin.append_, run_underlying ht, sizeOf, typeInfo, hi, Builtin.lenOf, hroom, hf, hadd, hst]; rfl, ⟨hlen, hroom, hcm, hbg, _, setRow_heap w g cur _ e _ hg, ?_, ?_⟩, ⟨rfl, rfl, rfl, by simp, fun k hk hne => setRow_other w g k _ (fun e => hne (by rw [e]))⟩, .inl ⟨rfl, rfl⟩, ?_⟩
    · simp only [List.size_toArray, List.length_append, List.length_take, List.length_drop, Array.length_toList]
      omega
    · have e1 : (cur.toList.take (off + n * i.size)).drop off = xs := by rw [List.drop_take, Nat.add_sub_cancel_left]; exact htake
      have e2 : off ≤ (cur.toList.take (off + n * i.size)).length := by rw [List.length_take, Array.length_toList]; omega
      rw [← hlen]
      simp only []
      rw [List.drop_append_of_le_length e2, e1, ← List.append_assoc]
      exact List.take_left
    · refine .inr ⟨g, off, rfl, fun k u hu => ?_⟩
      have hk : k < n * i.size := by have := (List.getElem?_eq_some_iff.1 hu).1; omega
      rw [cell_of_row _ g (off + k) _ e (0, 0) (setRow_heap w g cur _ e _ hg)]
      have hc : cur.toList[off + k]? = some u := by
        rw [← htake, List.getElem?_take, if_pos hk, List.getElem?_drop] at hu
        exact hu
      have hlt : off + k < off + n * i.size := by omega
      simp only [List.getElem?_toArray]
      have hcl : off + k < cur.toList.length := (List.getElem?_eq_some_iff.1 hc).1
      have htl : off + k < (cur.toList.take (off + n * i.size)).length := by rw [List.length_take]; omega
      rw [List.getElem?_append_left htl, List.getElem?_take, if_pos hlt]
      exact hc
  · have holds : ∀ j u, xs[j]? = some u → w.cell? ((⟨g, off, none⟩ : Addr).add j) = some u := by
      intro j u hu
      have hadd : (⟨g, off, none⟩ : Addr).add j = ⟨g, off + j, none⟩ := by unfold Addr.add; split <;> simp_all
      rw [hadd]
      rcases hrd with h | ⟨g', off', he, h⟩
      · rw [h] at hu; cases hu
      · injection he with he; injection he with h1 h2; subst h1 h2; exact h j u hu
    have hr := run_append_grow (P := P) w t ty e i z ht hi hz ⟨g, off, none⟩ n c xs hx holds a m c2 news hl hnews (by omega) (by simp only [maxLen] at h63; omega) (growslice_fits (by omega) hbytes)
    have hge := grownCap_ge w (n + m) c e
    have hcm2 : grownCap w (n + m) c e ≤ maxLen := grownCap_le_maxLen w (n + m) c e h63
    refine ⟨_, _, _, _, hr, ⟨hlen, hge, hcm2, hbase, _, heap_alloc_new w.drew _, ?_, ?_⟩, ⟨rfl, rfl, rfl, by simp, fun k hk _ => Below.heap_alloc w.drew _ k hk⟩, .inr rfl, hrd.drew.alloc _⟩
    · simp only [Array.size_append, List.size_toArray, size_zeroCells, hzs, hx, hl, ← Nat.add_mul, Nat.zero_add]
      refine Nat.le_of_eq ?_
      congr 1
      omega
    · simp only [Array.toList_append, List.append_assoc, List.drop_zero]
      rw [← List.append_assoc, ← hlen]
      exact List.take_left
end
section
variable (w : World) {ops : Array Oper} {rest : List Oper} {o : Oper} {a : Act} {Q : Exit → Act → World → Prop}
theorem app_QI2 (hgd : o.guard = none) (s x : Operand) (ho : o.op = .call { callee := .builtin .append, args := #[s, x], argTypes := #[24, 24] })
    (base g off n c : Nat) (l : List Int) (hs : a.eval s = .slice (some ⟨g, off, none⟩) n c) (hown : World.ownsQ w base 3 1 g off n c (vI l))
    (g2 m c2 : Nat) (l2 : List Int) (hx : a.eval x = .slice (some ⟨g2, 0, none⟩) m c2) (hr : ∀ j u, (vI l2)[j]? = some u → w.cell? ((⟨g2, 0, none⟩ : Addr).add j) = some u) (hl : l2.length = m) (hb : n + m ≤ 1099511627776) (hbase : base ≤ w.heap.size)
    (h : ∀ g' off' c' w', World.ownsQ w' base 3 1 g' off' (n + m) c' (vI (l ++ l2)) → w.grownBy w' (some g) → (g' = g ∧ off' = off ∨ g' = w.heap.size) → Rd w' (some ⟨g, off, none⟩) (vI l) → wpList Tryz.prog ops Q rest (a.put o.dst (.slice (some ⟨g', off', none⟩) (n + m) c')) w') :
    wpList Tryz.prog ops Q (o :: rest) a w := by
  obtain ⟨i0, hi, hz0, hz1, hz2⟩ := info_parts infoI
  refine wpList_plain hgd fun K hK => ?_
  obtain ⟨g', off', c', w', hrun, h2, h3, h4, h5⟩ := run_append_Q2 (P := Tryz.prog) w 24 o.type i0 _ 8 Tryz.underlying24 hi hz0 hz1 hz2 rfl hown ⟨g2, 0, none⟩ m c2 (vI l2) (by rw [vI_length, hl]; omega) hr (vI_one _) (by unfold maxLen; omega) (by omega) hbase
  rw [← vI_append] at h2
  unfold Oper.wp execOp
  simp only [ho, resolve, invoke, builtin, Sem.run_bind, Sem.run_pure, Result.andThen_ok, List.map_toArray, List.map_cons, List.map_nil, hs, hx, hrun]
  exact hK _ _ (h g' off' c' w' h2 h3 h4 h5)
end
theorem newI_cells (w : World) (t : TypeId) (x : Int) : ∀ j u, (vI [x])[j]? = some u → (w.alloc (.cells #[.int .i64 x] t)).cell? ((⟨w.heap.size, 0, none⟩ : Addr).add j) = some u := by
  intro j u hu
  have h := rd_newI w t x
  rcases h with h | ⟨g, off, he, h⟩
  · simp [vI] at h
  · injection he with he; injection he with h1 h2; subst h1 h2
    have := h j u hu
    have hadd : (⟨w.heap.size, 0, none⟩ : Addr).add j = ⟨w.heap.size, 0 + j, none⟩ := by unfold Addr.add; split <;> simp_all
    rw [hadd]; exact this
end Go.Proofs.YtcgjnonlndaoeaaGreat

/- The area of a region, its cells, all parts of a mask, small problems: walks. -/
namespace Go.Proofs.YtcgjnonlndaoeaaGreat
open Go.RowKit
set_option linter.unusedVariables false
attribute [local go_sem ↓] Go.wp_at_zero Go.wp_at_succ

theorem pop_le (x : Nat) : pop x ≤ 64 := by unfold pop; have h := List.countP_le_length (p := fun i => x.testBit i) (l := List.range 64); simpa using h
theorem area_le (rows : List Int) : ∀ k, areaTo rows k ≤ 64 * k
  | 0 => Nat.le_refl _
  | k + 1 => by
    show areaTo rows k + pop _ ≤ _
    have h1 := area_le rows k
    have h2 := pop_le (rows.getD k 0).toNat
    omega
theorem AreaOf_i (W : Int) (A : Option Addr) (n c : Nat) (rows : List Int) (w : World) (hr : Rd w A (vI rows)) (hl : rows.length = n) :
    Calls Tryz.prog 45 #[.agg #[.int .i64 W, .slice A n c]] w (Ret w (.int .i64 (areaV W rows))) := by
  have HL := Lib.hid hl
  have HR := Lib.hid (hr.alloc (.cells #[.int .i64 W, .slice A n c] 26))
  have HB1 := Lib.hid (Blk.new w 26 #[.int .i64 W, .slice A n c])
  have hbw1 : Below w.heap.size w (w.alloc (.cells #[.int .i64 W, .slice A n c] 26)) := bel_alloc (Below.refl _ _) _
  cases hv : isReg W rows with
  | false =>
    have HV : Hid (areaV W rows = -1) := by show _ = _; unfold areaV; rw [hv]; rfl
    have HT := Lib.hid hv
    clear hv hl hr HB1
    go_enter Tryz.func45, Tryz.ntmps45
    go_wp2_with fail
    refine (IsRegion_i _ _ _ _ rows _ HR.out HL.out).mono ?_
    rw [HT.out]
    rintro e w1 ⟨rfl, hb1⟩
    go_wp2_with fail
    go_ret
    exact ⟨by rw [HV.out]; rfl, bel_trans hbw1 hb1⟩
  | true =>
    have HT := Lib.hid hv
    obtain ⟨m, rfl, hm1, hm6, hn1, hn6, hrow⟩ := isReg_yes hv
    have hV : areaV (m : Int) rows = ((areaTo rows n : Nat) : Int) := by
      unfold areaV
      rw [if_pos hv, ← hl, area_len hm6 hrow rows.length (Nat.le_refl _)]
      unfold cellsC
      rw [if_pos hv]
    rw [hl] at hn1 hn6
    have HV := Lib.hid hV
    have HROW := Lib.hid hrow
    clear hv hl hr hV hrow
    go_enter Tryz.func45, Tryz.ntmps45
    go_wp2_with fail
    refine (IsRegion_i _ _ _ _ rows _ HR.out HL.out).mono ?_
    rw [HT.out]
    rintro e w1 ⟨rfl, hb1⟩
    have hB := HB1.out.below hb1
    have b1 : w1.cell? ⟨w.heap.size, 1, none⟩ = some (.slice A n c) := by simpa using hB.cell 1
    have hgw := hB.lt
    have HR1 := Lib.hid (HR.out.below hb1)
    have hbw := bel_trans hbw1 hb1
    clear hB HR HB1 hbw1 hb1
    go_wp2_with fail
    go_loopw [12, 3] (fun e12 e3 wr => ∃ k a : Nat, k ≤ n ∧ e12 = .int .i64 k ∧ e3 = .int .i64 (a : Int) ∧ a = areaTo rows k ∧ Below w1.heap.size w1 wr) (fun e12 _ _ => n - (intOf e12).toNat)
    case atStart => exact ⟨0, 0, Nat.zero_le _, rfl, rfl, rfl, Below.refl _ _⟩
    case round =>
      obtain ⟨k, a, hk, rfl, rfl, ha, hb⟩ := hrel
      have hale : a ≤ 64 * k := by rw [ha]; exact area_le rows k
      by_cases hlt : k < n
      · have hkl : k < rows.length := by rw [HL.out]; exact hlt
        have hk0 : (0 : Int) ≤ (k : Int) := by omega
        have hk1 : (k : Int) < (n : Int) := by omega
        obtain ⟨g, off, hA, hg, d1⟩ := RdI.at_ (HR1.out.below hb) hkl
        obtain ⟨z, hq, hq36⟩ := HROW.out k hkl
        have hz62 : z < 2 ^ 62 := Nat.lt_of_lt_of_le hq36 (Nat.pow_le_pow_right (by decide) (by omega))
        have hst : areaTo rows (k + 1) = a + pop z := by
          show areaTo rows k + pop (rows.getD k 0).toNat = _
          rw [ha, List.getD_eq_getElem?_getD, List.getElem?_eq_getElem hkl, Option.getD_some, hq]
          rfl
        rw [hq] at d1
        have hcv : IntKind.u64.wrap (z : Int) = (z : Int) := wraps_u64 _ (by omega) (by omega)
        have hpl := pop_le z
        obtain ⟨pz, hpz⟩ : ∃ pz, pop z = pz := ⟨_, rfl⟩
        rw [hpz] at hst hpl
        have hadd : IntKind.i64.wrap ((a : Int) + (pz : Int)) = (a : Int) + (pz : Int) := Go.IntWalk.i64_in _ (by omega)
        have HST := Lib.hid hst
        have HZ := Lib.hid hz62
        have HPZ := Lib.hid hpz
        subst hA
        clear hq hq36 hz62 hst hpz ha
        go_wp2_with fail
        refine (OnesCount_l z _ HZ.out).mono ?_
        rw [HPZ.out]
        rintro e w2 ⟨rfl, hb2⟩
        go_wp2_with fail
        exact ⟨⟨k + 1, a + pz, by omega, by go_num, by simp, HST.out.symm, bel_trans hb hb2⟩, by simp [intOf]; omega⟩
      · obtain rfl : k = n := by omega
        have HA := Lib.hid ha
        have hk1 : ¬ (k : Int) < (k : Int) := by omega
        clear ha
        go_wp2_with fail
        go_ret
        exact ⟨by rw [HV.out, ← HA.out]; rfl, bel_trans hbw hb⟩

set_option maxHeartbeats 1600000 in
theorem CellsOf_s (W : Int) (A : Option Addr) (n c : Nat) (rows : List Int) (w : World) (hr : Rd w A (vI rows)) (hl : rows.length = n) (hv : isReg W rows = true) :
    Calls Tryz.prog 74 #[.agg #[.int .i64 W, .slice A n c]] w (RetS w 80 2 (vC (cellsC W rows))) := by
  have hC : cellsC W rows = cyTo W rows n := by unfold cellsC; rw [if_pos hv, hl]
  have HT := Lib.hid hv
  obtain ⟨m, rfl, hm1, hm6, hn1, hn6, hrow⟩ := isReg_yes hv
  rw [hl] at hn1 hn6
  obtain ⟨W0, hW0⟩ : ∃ W0, w.alloc (.cells #[.int .i64 (m : Int), .slice A n c] 26) = W0 := ⟨_, rfl⟩
  have hsz : W0.heap.size = w.heap.size + 1 := by rw [← hW0]; simp
  have hI0 : (W0.alloc (.cells #[] 80)).ownsRow W0.heap.size 80 2 (.slice (some ⟨w.heap.size + 1, 0, none⟩) 0 0) 0 (vC []) := by
    have h := own_new W0 80 2 0 #[] rfl (by simp [maxLen]) (Nat.le_refl _)
    rw [hsz] at h ⊢
    exact h
  have HI0 := Lib.hid hI0
  have HC := Lib.hid hC
  have HL := Lib.hid hl
  have HR := Lib.hid (hr.alloc (.cells #[.int .i64 (m : Int), .slice A n c] 26))
  have HB1 := Lib.hid (Blk.new w 26 #[.int .i64 (m : Int), .slice A n c])
  have hbw0 : Below w.heap.size w (w.alloc (.cells #[.int .i64 (m : Int), .slice A n c] 26)) := bel_alloc (Below.refl _ _) _
  rw [hW0] at HR HB1 hbw0
  have hbs0 : w.heap.size ≤ W0.heap.size := by omega
  have HW0 := Lib.hid hW0
  have hmt : ((m : Int)).toNat = m := Int.toNat_natCast _
  have HMT := Lib.hid hmt
  clear hv hl hr hC hI0 hrow hW0 hsz hmt
  go_enter Tryz.func74, Tryz.ntmps74
  go_wp2_with fail
  rw [HW0.out]
  clear HW0
  go_loopw [4, 3] (fun e4 e3 wr => ∃ (y q cq : Nat) (D : Option Addr), y ≤ n ∧ q ≤ 6 * y ∧ e4 = .int .i64 y ∧ e3 = .slice D q cq ∧ wr.ownsRow W0.heap.size 80 2 (.slice D q cq) q (vC (cyTo (m : Int) rows y)) ∧ Below W0.heap.size W0 wr) (fun e4 _ _ => n - (intOf e4).toNat)
  case atStart => exact ⟨0, 0, 0, _, Nat.zero_le _, Nat.zero_le _, rfl, rfl, HI0.out, bel_alloc (Below.refl _ _) _⟩
  case round =>
    clear HI0
    obtain ⟨y, q, cq, D, hy, hq, rfl, rfl, hO, hb⟩ := hrel
    have HO := Lib.hid hO
    clear hO
    have hB := HB1.out.below hb
    have b0 : wr.cell? ⟨w.heap.size, 0, none⟩ = some (.int .i64 (m : Int)) := by simpa using hB.cell 0
    have b1 : wr.cell? ⟨w.heap.size, 1, none⟩ = some (.slice A n c) := by simpa using hB.cell 1
    have hgw := hB.lt
    clear hB
    by_cases hlt : y < n
    · have hy0 : (0 : Int) ≤ (y : Int) := by omega
      have hy1 : (y : Int) < (n : Int) := by omega
      go_wp2_with fail
      refine (IsRegion_s _ _ _ _ rows _ (HR.out.below hb) HL.out).mono ?_
      rw [HT.out]
      rintro e w2 ⟨rfl, hb2⟩
      have HO2 := Lib.hid (own_keep HO.out hb2)
      have hb02 := bel_trans hb hb2
      clear b0 b1 hgw HO hb hb2
      go_wp2_with fail
      go_loopw [5, 3] (fun e5 e3 wr2 => ∃ (x q cq : Nat) (D : Option Addr), x ≤ m ∧ q ≤ 6 * y + x ∧ e5 = .int .i64 x ∧ e3 = .slice D q cq ∧ wr2.ownsRow W0.heap.size 80 2 (.slice D q cq) q (vC (cyTo (m : Int) rows y ++ cxTo (m : Int) rows y x)) ∧ Below W0.heap.size W0 wr2) (fun e5 _ _ => m - (intOf e5).toNat)
      case atStart => exact ⟨0, q, cq, D, Nat.zero_le _, by omega, rfl, rfl, by simpa [cxTo] using HO2.out, hb02⟩
      case round =>
        clear HO2 hb02 hq
        obtain ⟨x, q, cq, D, hx, hq, rfl, rfl, hO, hb⟩ := hrel
        have hB := HB1.out.below hb
        have b0 : wr.cell? ⟨w.heap.size, 0, none⟩ = some (.int .i64 (m : Int)) := by simpa using hB.cell 0
        have b1 : wr.cell? ⟨w.heap.size, 1, none⟩ = some (.slice A n c) := by simpa using hB.cell 1
        have hgw := hB.lt
        clear hB
        by_cases hxm : x < m
        · have hx0 : (0 : Int) ≤ (x : Int) := by omega
          have hx1 : (x : Int) < (m : Int) := by omega
          have hst : cxTo (m : Int) rows y (x + 1) = cxTo (m : Int) rows y x ++ (if hasR (m : Int) rows ((x : Int), (y : Int)) then [((x : Int), (y : Int))] else []) := rfl
          cases hh : hasR (m : Int) rows ((x : Int), (y : Int)) with
          | false =>
            rw [hh] at hst
            simp only [Bool.false_eq_true, if_false, List.append_nil] at hst
            have HH := Lib.hid hh
            have HO := Lib.hid hO
            have HST := Lib.hid hst
            clear hO hst hh
            go_wp2_with fail
            refine (l6In_s (m : Int) A n c rows (x : Int) (y : Int) _ (HR.out.below hb) HL.out HT.out (by omega) (by omega)).mono ?_
            rw [HH.out]
            rintro e w3 ⟨rfl, hb3⟩
            go_wp2_with fail
            exact ⟨⟨x + 1, q, cq, D, by omega, by omega, by go_num, rfl, by rw [HST.out]; exact own_keep HO.out hb3, bel_trans hb hb3⟩, by simp [intOf]; omega⟩
          | true =>
            rw [hh] at hst
            simp only [if_true] at hst
            have HH := Lib.hid hh
            have HO := Lib.hid hO
            have HST := Lib.hid hst
            clear hO hst hh
            go_wp2_with fail
            refine (l6In_s (m : Int) A n c rows (x : Int) (y : Int) _ (HR.out.below hb) HL.out HT.out (by omega) (by omega)).mono ?_
            rw [HH.out]
            rintro e w3 ⟨rfl, hb3⟩
            have HO3 := Lib.hid (own_keep HO.out hb3)
            have hb03 := bel_trans hb hb3
            have hbz := hb03.size
            clear b0 b1 hgw HO hb hb3
            go_wp2_with (at_builtin; go_must (refine app_C _ rfl _ _ rfl W0.heap.size _ _ _ _ rfl (HO3.out.alloc _) _ _ _ [((x : Int), (y : Int))] rfl (rd_newC _ _ _ _) rfl (by omega) (by simp; omega) ?_); intro D2 cp2 w8 ho8 hg8 hat8; have HO8 := Lib.hid ho8; have HG8 := Lib.hid hg8; clear ho8 hg8 hat8)
            exact ⟨⟨x + 1, q + 1, cp2, D2, by omega, by omega, by go_num, rfl, by rw [HST.out, ← List.append_assoc]; exact HO8.out, bel_app (bel_alloc hb03 _) HG8.out (fun g' hg1 => ((own_lt HO3.out) g' hg1).1)⟩, by simp [intOf]; omega⟩
        · obtain rfl : x = m := by omega
          have hst : cyTo (x : Int) rows (y + 1) = cyTo (x : Int) rows y ++ cxTo (x : Int) rows y x := by show cyTo (x : Int) rows y ++ cxTo (x : Int) rows y ((x : Int)).toNat = _; rw [HMT.out]
          have HST := Lib.hid hst
          have HO := Lib.hid hO
          have hx1 : ¬ (x : Int) < (x : Int) := by omega
          clear hO hst
          go_wp2_with fail
          exact ⟨⟨y + 1, q, cq, D, by omega, by omega, by go_num, rfl, by rw [HST.out]; exact HO.out, hb⟩, by simp [intOf]; omega⟩
    · obtain rfl : y = n := by omega
      have hy1 : ¬ (y : Int) < (y : Int) := by omega
      go_wp2_with fail
      go_ret
      exact ⟨_, _, _, rfl, by rw [HC.out]; exact own_base HO.out hbs0, bel_trans hbw0 hb⟩
theorem AreaOf_s (W : Int) (A : Option Addr) (n c : Nat) (rows : List Int) (w : World) (hr : Rd w A (vI rows)) (hl : rows.length = n) :
    Calls Tryz.prog 50 #[.agg #[.int .i64 W, .slice A n c]] w (Ret w (.int .i64 (areaV W rows))) := by
  have HL := Lib.hid hl
  have HR := Lib.hid (hr.alloc (.cells #[.int .i64 W, .slice A n c] 26))
  have HB1 := Lib.hid (Blk.new w 26 #[.int .i64 W, .slice A n c])
  have hbw1 : Below w.heap.size w (w.alloc (.cells #[.int .i64 W, .slice A n c] 26)) := bel_alloc (Below.refl _ _) _
  cases hv : isReg W rows with
  | false =>
    have HV : Hid (areaV W rows = -1) := by show _ = _; unfold areaV; rw [hv]; rfl
    have HT := Lib.hid hv
    clear hv hl hr HB1
    go_enter Tryz.func50, Tryz.ntmps50
    go_wp2_with fail
    refine (IsRegion_s _ _ _ _ rows _ HR.out HL.out).mono ?_
    rw [HT.out]
    rintro e w1 ⟨rfl, hb1⟩
    go_wp2_with fail
    go_ret
    exact ⟨by rw [HV.out]; rfl, bel_trans hbw1 hb1⟩
  | true =>
    have HT := Lib.hid hv
    have HV : Hid (areaV W rows = (((cellsC W rows).length : Nat) : Int)) := by show _ = _; unfold areaV; rw [if_pos hv]
    clear hv hl hr
    go_enter Tryz.func50, Tryz.ntmps50
    go_wp2_with fail
    refine (IsRegion_s _ _ _ _ rows _ HR.out HL.out).mono ?_
    rw [HT.out]
    rintro e w1 ⟨rfl, hb1⟩
    have hB := HB1.out.below hb1
    have b0 : w1.cell? ⟨w.heap.size, 0, none⟩ = some (.int .i64 W) := by simpa using hB.cell 0
    have b1 : w1.cell? ⟨w.heap.size, 1, none⟩ = some (.slice A n c) := by simpa using hB.cell 1
    have hgw := hB.lt
    have HR1 := Lib.hid (HR.out.below hb1)
    have hbw := bel_trans hbw1 hb1
    clear hB HR HB1 hbw1 hb1
    go_wp2_with fail
    refine (CellsOf_s W A n c rows _ HR1.out HL.out HT.out).mono ?_
    rintro e w2 ⟨D, q, cq, rfl, hO, hb2⟩
    have hq : (cellsC W rows).length = q := by have := own_len hO; rw [vC_length] at this; omega
    have HQ := Lib.hid hq
    clear hO hq b0 b1
    go_wp2_with fail
    go_ret
    exact ⟨by rw [HV.out, HQ.out]; rfl, bel_trans hbw hb2⟩
end Go.Proofs.YtcgjnonlndaoeaaGreat

/- Tilings: the reference's first one; the cells of a mask: what a draw wants of them. -/
namespace Go.Proofs.YtcgjnonlndaoeaaGreat
open Go.RowKit
set_option linter.unusedVariables false
attribute [local go_sem ↓] Go.wp_at_zero Go.wp_at_succ

theorem tilF_mem {L : List Int} : ∀ {n free : Nat} {x : List Int}, x ∈ tilF L n free → ∀ m ∈ x, m ∈ L
  | 0, free, x, h => by
    unfold tilF at h
    split at h
    · simp at h; subst h; simp
    · cases h
  | n + 1, free, x, h => by
    unfold tilF at h
    split at h
    · simp at h; subst h; simp
    · rw [List.mem_flatMap] at h
      obtain ⟨m, hm, h2⟩ := h
      split at h2
      · obtain ⟨y, hy, rfl⟩ := List.mem_map.1 h2
        intro z hz
        rcases List.mem_cons.1 hz with rfl | hz
        · exact (List.mem_filter.1 hm).1
        · exact tilF_mem hy z hz
      · cases h2
theorem mask36T (W : Int) (rows : List Int) : maskV W rows < 2 ^ 36 := by
  unfold maskV
  split
  · next hv =>
    obtain ⟨m, rfl, h1, h2, h3, h4, hR⟩ := isReg_yes hv
    rw [Int.toNat_natCast]
    exact Nat.lt_of_lt_of_le (mkTo_lt hR rows.length (Nat.le_refl _)) (Nat.pow_le_pow_right (by decide) (Nat.mul_le_mul h4 h2))
  · decide
/-- A first tiling was looked for. -/
def RetFt (w : World) (e : Ending) (w' : World) : Prop := ∃ D k cD l b, e = .returned (.tuple #[.slice D k cD, .bool b]) ∧ Rd w' D (vI l) ∧ l.length = k ∧ k ≤ 36 ∧ Msk 36 l ∧ Below w.heap.size w w' ∧ ∀ b, ob D = some b → w.heap.size ≤ b
set_option maxRecDepth 100000 in
set_option maxHeartbeats 3200000 in
theorem FindTiling_d (W : Int) (A B : Option Addr) (n c q cb : Nat) (rows : List Int) (hs : List H) (P : List (List C)) (w : World) (hr : Rd w A (vI rows)) (hl : rows.length = n) (hp : RdP w B q hs P) (hq : q ≤ 1048576) (hm : totC P ≤ 1048576) :
    Calls Tryz.prog 68 #[.agg #[.int .i64 W, .slice A n c], .slice B q cb] w (RetFt w) := by
  have HL := Lib.hid hl
  have HR := Lib.hid (hr.alloc (.cells #[.int .i64 W, .slice A n c] 26))
  have HP := Lib.hid (hp.alloc (.cells #[.int .i64 W, .slice A n c] 26))
  have HB0 := Lib.hid (Blk.new w 26 #[.int .i64 W, .slice A n c])
  have HM := Lib.hid hm
  have hbw0 : Below w.heap.size w (w.alloc (.cells #[.int .i64 W, .slice A n c] 26)) := bel_alloc (Below.refl _ _) _
  clear hl hr hp hm
  have HB1 : Hid (∀ {w1 : World}, Below (w.alloc (.cells #[.int .i64 W, .slice A n c] 26)).heap.size (w.alloc (.cells #[.int .i64 W, .slice A n c] 26)) w1 → w1.cell? ⟨w.heap.size, 0, none⟩ = some (.int .i64 W) ∧ w1.cell? ⟨w.heap.size, 1, none⟩ = some (.slice A n c) ∧ w.heap.size < w1.heap.size) := fun h => by
    have hB := HB0.out.below h
    exact ⟨by simpa using hB.cell 0, by simpa using hB.cell 1, hB.lt⟩
  have hnil : ∀ u : World, Below w.heap.size w u → RetFt w (.returned (.tuple #[.slice (some ⟨u.heap.size, 0, none⟩) 0 0, .bool false])) (u.alloc (.cells #[] 3)) := fun u hb => ⟨_, 0, 0, [], false, rfl, .inl rfl, rfl, by omega, Msk.nil _, bel_alloc hb _, fun b e => by simp only [ob, Option.map_some, Option.some.injEq] at e; have := hb.size; omega⟩
  have HNIL := Lib.hid hnil
  clear hnil
  cases hv : isReg W rows with
  | false =>
    have HV := Lib.hid hv
    clear hv
    go_enter Tryz.func68, Tryz.ntmps68
    go_wp2_with fail
    refine (IsRegion_s _ _ _ _ rows _ HR.out HL.out).mono ?_
    rw [HV.out]
    rintro e w1 ⟨rfl, hb1⟩
    have HB := Lib.hid (bel_trans hbw0 hb1)
    clear hb1
    go_wp2_with fail
    go_ret2
    exact HNIL.out _ HB.out
  | true =>
    have HV := Lib.hid hv
    clear hv
    cases hpc : pcs P with
    | false =>
      have HPC := Lib.hid hpc
      clear hpc
      go_enter Tryz.func68, Tryz.ntmps68
      go_wp2_with fail
      refine (IsRegion_s _ _ _ _ rows _ HR.out HL.out).mono ?_
      rw [HV.out]
      rintro e w1 ⟨rfl, hb1⟩
      have HB2 := Lib.hid hb1
      clear hb1
      go_wp2_with fail
      refine (ArePieces_s B q cb hs P _ (HP.out.below HB2.out) hq HM.out).mono ?_
      rw [HPC.out]
      rintro e w2 ⟨rfl, hb2⟩
      have HB := Lib.hid (bel_trans (bel_trans hbw0 HB2.out) hb2)
      clear hb2
      go_wp2_with fail
      go_ret2
      exact HNIL.out _ HB.out
    | true =>
      have HPC := Lib.hid hpc
      have hLm := allV_msk W rows P
      have hLl := allV_len W rows P
      have hp5 := (pcs_at hpc).1
      have hM36 := mask36T W rows
      obtain ⟨L, hL⟩ : ∃ L, allV W rows P = L := ⟨_, rfl⟩
      obtain ⟨M, hMM⟩ : ∃ M, maskV W rows = M := ⟨_, rfl⟩
      rw [hL] at hLm hLl
      rw [hMM] at hM36
      have hL5 : L.length ≤ 1440 := by omega
      have HLE := Lib.hid hL
      have HLM := Lib.hid hLm
      have HL5 := Lib.hid hL5
      have HMM := Lib.hid hMM
      have HM36 := Lib.hid hM36
      clear hpc hLm hLl hp5 hL hMM hL5 hM36
      go_enter Tryz.func68, Tryz.ntmps68
      go_wp2_with fail
      refine (IsRegion_s _ _ _ _ rows _ HR.out HL.out).mono ?_
      rw [HV.out]
      rintro e w1 ⟨rfl, hb1⟩
      have HB2 := Lib.hid hb1
      clear hb1
      go_wp2_with fail
      refine (ArePieces_s B q cb hs P _ (HP.out.below HB2.out) hq HM.out).mono ?_
      rw [HPC.out]
      rintro e w2 ⟨rfl, hb2⟩
      have HB3 := Lib.hid (bel_trans HB2.out hb2)
      clear hb2 HB2
      obtain ⟨b0, b1, bl⟩ := HB1.out HB3.out
      go_wp2_with fail
      refine wp_region_rg 7 rfl (by kernel_rfl) ?_
      (refine rgT (i := 0) (v := ?_) rfl rfl (by kernel_rfl) (by kernel_rfl) (by kernel_rfl) (by rfl) (fun w' hcw => ?_) ?_; rotate_left; ((try dsimp only at hcw); have hbc := hcw.cells; go_simp; first | done | with_reducible rfl); simp only [List.setIfInBounds_toArray, List.set_cons_zero, List.set_cons_succ])
      (refine rgT (i := 1) (v := ?_) rfl rfl (by kernel_rfl) (by kernel_rfl) (by kernel_rfl) (by rfl) (fun w' hcw => ?_) ?_; rotate_left; ((try dsimp only at hcw); have hbc := hcw.cells; go_simp; first | done | with_reducible rfl); simp only [List.setIfInBounds_toArray, List.set_cons_zero, List.set_cons_succ])
      (refine rgT (i := 3) (v := ?_) rfl rfl (by kernel_rfl) (by kernel_rfl) (by kernel_rfl) (by rfl) (fun w' hcw => ?_) ?_; rotate_left; ((try dsimp only at hcw); have hbc := hcw.cells; go_simp; first | done | with_reducible rfl); simp only [List.setIfInBounds_toArray, List.set_cons_zero, List.set_cons_succ])
      refine rgK_one (i := 2) (by kernel_rfl) rfl rfl (fun u1 hc1 he1 K hK => ?_)
      go_simp
      refine (AllPlacements_s W A B n c q cb rows hs P _ (HR.out.below (bel_trans HB3.out hc1)) HL.out HV.out (HP.out.below (bel_trans HB3.out hc1)) HPC.out).mono ?_
      rw [HLE.out]
      rintro e u2 ⟨gE, q3, c3, rfl, hO, hb2⟩
      have hq3 : L.length = q3 := by have := own_len hO; rw [vI_length] at this; omega
      have hc2 : Below w2.heap.size w2 u2 := bel_trans hc1 hb2
      refine hK _ _ hc2 ?_
      clear hK K
      have HQ3 := Lib.hid hq3
      have HRE := Lib.hid (Rd.of_own hO)
      have hq4 : q3 ≤ 1440 := by have := HL5.out; omega
      clear hO hq3
      refine rgK_one (i := 4) (by kernel_rfl) rfl rfl (fun u5 hc5 he5 K hK => ?_)
      go_simp
      refine (MaskOf_s W A n c rows _ (HR.out.below (bel_trans HB3.out hc5)) HL.out).mono ?_
      rw [HMM.out]
      rintro e u6 ⟨rfl, hb6⟩
      refine hK _ _ (bel_trans hc5 hb6) ?_
      clear hK K
      have he6 := bel_trans he5 hb6
      refine rgK_one (i := 5) (by kernel_rfl) rfl rfl (fun u3 hc3 he3 K hK => ?_)
      go_simp
      refine (l8Search_s L _ q3 c3 HQ3.out (by omega) HLM.out M 1 _ (HRE.out.below (bel_trans he6 he3)) HM36.out (by omega) (by omega)).mono ?_
      obtain ⟨R, hR⟩ : ∃ R, (tilV L M).take 1 = R := ⟨_, rfl⟩
      rw [hR]
      rintro e u4 ⟨E, u, cu, hE, rfl, hOE, hb4⟩
      have hc4 : Below w2.heap.size w2 u4 := bel_trans hc3 hb4
      refine hK _ _ hc4 ?_
      clear hK K
      (refine rgT (i := 6) (v := ?_) rfl rfl (by kernel_rfl) (by kernel_rfl) (by kernel_rfl) (by rfl) (fun w' hcw => ?_) ?_; rotate_left; ((try dsimp only at hcw); have hbc := hcw.cells; go_simp; first | done | with_reducible rfl); simp only [List.setIfInBounds_toArray, List.set_cons_zero, List.set_cons_succ])
      refine ⟨by kernel_rfl, fun wz hcz hez => NoPanic.normal ?_⟩
      have hOZ := hOE.below hez
      have hbz := bel_trans hbw0 (bel_trans HB3.out hcz)
      have hul := hOE.flen
      have hmem : ∀ x ∈ R, x.length ≤ 36 ∧ Msk 36 x := fun x hx => by
        rw [← hR] at hx
        have h1 := List.mem_of_mem_take hx
        exact ⟨til_len L (n := 36) (by omega) HM36.out x h1, fun m hm => HLM.out m (tilF_mem h1 m hm)⟩
      have hlow : ∀ x ∈ hE, ∀ b, ob x.1 = some b → w.heap.size ≤ b := fun x hx b e => by
        obtain ⟨j, hj, rfl⟩ := List.mem_iff_getElem.1 hx
        have h1 := (own_lt (hOE.row j hj (hOE.len ▸ hj)) b e).1
        have h2 := hc3.size
        have h3 := HB3.out.size
        have h4 := hbw0.size
        omega
      have HLOW := Lib.hid hlow
      have HOZ := Lib.hid hOZ
      have HBZ := Lib.hid hbz
      have HUL := Lib.hid hul
      have HMEM := Lib.hid hmem
      clear hlow hOZ hbz hul hmem hOE hR hc1 he1 hb2 hc2 hc5 he5 hb6 he6 hc3 he3 hb4 hc4 hcz hez b0 b1 bl
      by_cases hu0 : u = 0
      · have hu1 : ((u : Int) == 0) = true := by simp [hu0]
        clear hu0
        go_wp2_with fail
        go_ret2
        exact HNIL.out _ HBZ.out
      · have hu1 : ((u : Int) == 0) = false := by simp [hu0]
        have hup : 0 < u := by omega
        have hupI : (0 : Int) < (u : Int) := by omega
        obtain ⟨x, f, g, off, hxm, hfx, hEe, hge, d0, l1, r1⟩ := (Rd2I.of_own HOZ.out).at_m hup
        have HLX := Lib.hid (HLOW.out x hxm)
        obtain ⟨hf1, hf2⟩ := HMEM.out f (List.mem_of_getElem? hfx)
        obtain ⟨C1, m1, k1⟩ := x
        dsimp only at d0 l1 r1
        rw [Nat.add_zero] at d0
        have HR1 := Lib.hid r1
        have HL1 := Lib.hid l1
        have HF2 := Lib.hid hf2
        have hm36 : m1 ≤ 36 := by omega
        subst hEe
        clear hxm hfx hu0 l1 r1 hf2 hf1
        go_wp2_with fail
        go_ret2
        exact ⟨C1, m1, k1, f, true, rfl, HR1.out, HL1.out, hm36, HF2.out, HBZ.out, HLX.out⟩
/-- Cells of a mask. -/
def RetCm (w : World) (e : Ending) (w' : World) : Prop := ∃ D k cD xs, e = .returned (.slice D k cD) ∧ w'.ownsRow w.heap.size 80 2 (.slice D k cD) k (vC xs) ∧ k ≤ 36 ∧ (∀ d ∈ xs, small d) ∧ Below w.heap.size w w'
section
variable {ops : Array Oper} {o : Oper} {a : Act} {w : World} {K : Act → World → Prop} {Q : Exit → Act → World → Prop} {E : Prop}
theorem step_appC (hg : o.guard = none) (s x : Operand) (ho : o.op = .call { callee := .builtin .append, args := #[s, x], argTypes := #[51, 51] })
    (base : Nat) (A : Option Addr) (n c : Nat) (l : List C) (hs : a.eval s = .slice A n c) (hown : w.ownsRow base 80 2 (.slice A n c) n (vC l))
    (A2 : Option Addr) (m c2 : Nat) (l2 : List C) (hx : a.eval x = .slice A2 m c2) (hr : Rd w A2 (vC l2)) (hl : l2.length = m) (hb : n + m ≤ 1099511627776) (hbase : base ≤ w.heap.size)
    (h : ∀ A' c' w', w'.ownsRow base 80 2 (.slice A' (n + m) c') (n + m) (vC (l ++ l2)) → w.grownBy w' (ob A) → (ob A' = ob A ∨ ob A' = some w.heap.size) → K (a.put o.dst (.slice A' (n + m) c')) w') :
    if Region.wanted o (yielded ops a.tmps) = true then Oper.wp Tryz.prog o a w K Q else E := by
  rw [if_pos (by simp [Region.wanted, hg])]
  obtain ⟨i0, hi, hz0, hz1, hz2⟩ := info_parts infoC
  refine wp_app w s x _ ho base _ i0 _ 2 16 Tryz.underlying51 hi hz0 hz1 hz2 rfl (by omega) A n c _ hs hown A2 m c2 _ hx hr (by rw [vC_length, hl]) (vC_one _) (by unfold maxLen; omega) (by omega) hbase ?_
  intro A' c' w' h1
  rw [← vC_append] at h1
  exact h A' c' w' h1
end
set_option maxRecDepth 100000 in
set_option maxHeartbeats 3200000 in
theorem CellsOfMask_d (W : Int) (A : Option Addr) (n c mask : Nat) (rows : List Int) (w : World) (hr : Rd w A (vI rows)) (hl : rows.length = n) (hmk : mask < 2 ^ 36) :
    Calls Tryz.prog 70 #[.agg #[.int .i64 W, .slice A n c], .int .i64 (mask : Int)] w (RetCm w) := by
  have HL := Lib.hid hl
  have HR := Lib.hid (hr.alloc (.cells #[.int .i64 W, .slice A n c] 26))
  have HB0 := Lib.hid (Blk.new w 26 #[.int .i64 W, .slice A n c])
  have hbw0 : Below w.heap.size w (w.alloc (.cells #[.int .i64 W, .slice A n c] 26)) := bel_alloc (Below.refl _ _) _
  obtain ⟨W0, hW0⟩ : ∃ W0, w.alloc (.cells #[.int .i64 W, .slice A n c] 26) = W0 := ⟨_, rfl⟩
  have hsz : W0.heap.size = w.heap.size + 1 := by rw [← hW0]; simp
  have hI0 : (W0.alloc (.cells #[] 80)).ownsRow (w.heap.size + 1) 80 2 (.slice (some ⟨w.heap.size + 1, 0, none⟩) 0 0) 0 (vC []) := by
    have h := own_new W0 80 2 0 #[] rfl (by simp [maxLen]) (base := w.heap.size + 1) (by omega)
    rw [hsz] at h
    exact h
  rw [hW0] at HR HB0 hbw0
  have HW0 := Lib.hid hW0
  have HSZ := Lib.hid hsz
  have HI0 := Lib.hid hI0
  have HMK := Lib.hid hmk
  have hm0 : ¬ (mask : Int) < 0 := by omega
  have hmd : decide ((mask : Int) < 0) = false := by simp
  clear hl hr hW0 hsz hI0 hmk
  cases hv : isReg W rows with
  | false =>
    have HV := Lib.hid hv
    clear hv
    go_enter Tryz.func70, Tryz.ntmps70
    go_wp2_with fail
    rw [HW0.out]
    refine (IsRegion_s _ _ _ _ rows _ (HR.out.alloc _) HL.out).mono ?_
    rw [HV.out]
    rintro e w1 ⟨rfl, hb1⟩
    have HO1 := Lib.hid (own_keep HI0.out hb1)
    have HB := Lib.hid (bel_trans (bel_alloc hbw0 (.cells #[] 80)) hb1)
    clear hb1
    go_wp2_with fail
    go_ret
    exact ⟨_, 0, 0, [], rfl, own_base HO1.out (show w.heap.size ≤ w.heap.size + 1 by omega), by omega, by simp, HB.out⟩
  | true =>
    have HV := Lib.hid hv
    obtain ⟨m, rfl, hm1, hm6, hn1, hn6, hrow⟩ := isReg_yes hv
    rw [HL.out] at hn1 hn6
    have hM36 := mask36T (m : Int) rows
    obtain ⟨M, hMM⟩ : ∃ M, maskV (m : Int) rows = M := ⟨_, rfl⟩
    rw [hMM] at hM36
    obtain ⟨z, hz⟩ : ∃ z, mask &&& M = z := ⟨_, rfl⟩
    have hand : bits .and .i64 (mask : Int) (M : Int) = (z : Int) := by rw [i64_and mask M (by have := HMK.out; omega) (by omega), hz]
    have HMM := Lib.hid hMM
    clear hv hrow hMM hz hM36
    go_enter Tryz.func70, Tryz.ntmps70
    go_wp2_with fail
    rw [HW0.out]
    refine (IsRegion_s _ _ _ _ rows _ (HR.out.alloc _) HL.out).mono ?_
    rw [HV.out]
    rintro e w1 ⟨rfl, hb1⟩
    have HO1 := Lib.hid (own_keep HI0.out hb1)
    have HB1 := Lib.hid (bel_trans (bel_alloc hbw0 (.cells #[] 80)) hb1)
    have HBK := Lib.hid ((HB0.out.alloc (.cells #[] 80)).below hb1)
    have HR1 := Lib.hid ((HR.out.alloc (.cells #[] 80)).below hb1)
    have b0 : w1.cell? ⟨w.heap.size, 0, none⟩ = some (.int .i64 (m : Int)) := by simpa using HBK.out.cell 0
    have b1 : w1.cell? ⟨w.heap.size, 1, none⟩ = some (.slice A n c) := by simpa using HBK.out.cell 1
    have bl := HBK.out.lt
    clear hb1 hbw0 HR HB0 HI0
    go_wp2_with fail
    refine (MaskOf_s (m : Int) A n c rows _ HR1.out HL.out).mono ?_
    rw [HMM.out]
    rintro e w2 ⟨rfl, hb2⟩
    have HO2 := Lib.hid (own_keep HO1.out hb2)
    have HB2 := Lib.hid (bel_trans HB1.out hb2)
    have HBK2 := Lib.hid (HBK.out.below hb2)
    have hs2 : w.heap.size + 1 ≤ w2.heap.size := by have := HBK2.out.lt; omega
    clear hb2 b0 b1 bl HO1 HB1 HBK HR1
    by_cases hzm : z = mask
    · have hne : ((z : Int) != (mask : Int)) = false := by simp [hzm]
      clear hzm
      go_wp2_with fail
      go_loopw [6, 5] (fun e6 e5 wr => ∃ (i k cD : Nat) (D : Option Addr) (xs : List C), i ≤ m * n ∧ k ≤ i ∧ e6 = .int .i64 i ∧ e5 = .slice D k cD ∧ wr.ownsRow (w.heap.size + 1) 80 2 (.slice D k cD) k (vC xs) ∧ (∀ d ∈ xs, small d) ∧ Blk wr w.heap.size 26 #[.int .i64 (m : Int), .slice A n c] ∧ Below w.heap.size w wr) (fun e6 _ _ => m * n - (intOf e6).toNat)
      case atStart => exact ⟨0, 0, _, _, [], Nat.zero_le _, Nat.le_refl _, rfl, rfl, HO2.out, by simp, HBK2.out, HB2.out⟩
      case round =>
        clear HO2 HBK2 HB2
        obtain ⟨i, k, cD, D, xs, hi, hki, rfl, rfl, hO, hsm, hBk, hb⟩ := hrel
        have HO := Lib.hid hO
        have HSM := Lib.hid hsm
        have HBK := Lib.hid hBk
        have HB := Lib.hid hb
        have b0 : wr.cell? ⟨w.heap.size, 0, none⟩ = some (.int .i64 (m : Int)) := by simpa using hBk.cell 0
        have b1 : wr.cell? ⟨w.heap.size, 1, none⟩ = some (.slice A n c) := by simpa using hBk.cell 1
        have bl := hBk.lt
        have h36 : m * n ≤ 6 * 6 := Nat.mul_le_mul hm6 hn6
        obtain ⟨p, hp⟩ : ∃ p, m * n = p := ⟨_, rfl⟩
        have hpI : (m : Int) * (n : Int) = (p : Int) := by rw [← hp]; simp
        rw [hp] at hi h36
        have HP := Lib.hid hp
        clear hO hsm hBk hb hp
        by_cases hlt : i < p
        · have hi0 : (0 : Int) ≤ (i : Int) := by omega
          have hi1 : (i : Int) < (p : Int) := by omega
          have hi64 : (i : Int) ≤ 64 := by omega
          have ei : IntKind.i64.wrap (i : Int) = (i : Int) := Go.IntWalk.i64_in _ (by omega)
          have hbit := bit_testP mask i (by have := HMK.out; omega)
          obtain ⟨d, hd⟩ : ∃ d, mask / 2 ^ i = d := ⟨_, rfl⟩
          have hdI : (mask : Int) / 2 ^ i = (d : Int) := by rw [← hd]; simp
          rw [hdI] at hbit
          clear hd
          cases hbt : mask.testBit i with
          | false =>
            rw [hbt] at hbit
            clear hbt
            go_wp2_with fail
            exact ⟨⟨i + 1, k, cD, D, xs, by have := HP.out; omega, by omega, by go_num, rfl, HO.out, HSM.out, HBK.out, HB.out⟩, by have := HP.out; simp [intOf]; omega⟩
          | true =>
            rw [hbt] at hbit
            clear hbt
            have hmz : ((m : Int) == 0) = false := by simp; omega
            have hm0N : ¬ m = 0 := by omega
            obtain ⟨x, hx⟩ : ∃ x, i % m = x := ⟨_, rfl⟩
            obtain ⟨y, hy⟩ : ∃ y, i / m = y := ⟨_, rfl⟩
            have hx6 : x < 6 := by rw [← hx]; have := Nat.mod_lt i (show m > 0 by omega); omega
            have hy36 : y ≤ 36 := by rw [← hy]; have := Nat.div_le_self i m; omega
            have hxI : (i : Int) % (m : Int) = (x : Int) := by rw [← hx]; simp
            have hyI : (i : Int) / (m : Int) = (y : Int) := by rw [← hy]; simp
            have hxT : (i : Int).tmod (m : Int) = (x : Int) := by rw [← hx]; simp [Int.tmod]
            have hyT : (i : Int).tdiv (m : Int) = (y : Int) := by rw [← hy]; simp [Int.tdiv]
            have ex : IntKind.i64.wrap (x : Int) = (x : Int) := Go.IntWalk.i64_in _ (by omega)
            have ey : IntKind.i64.wrap (y : Int) = (y : Int) := Go.IntWalk.i64_in _ (by omega)
            have hk36 : k ≤ 36 := by omega
            have hsw : w.heap.size + 1 ≤ wr.heap.size := by omega
            go_wp2_with fail
            go_region_law ((refine step_appC rfl (.tmp 39) (.tmp 49) rfl (w.heap.size + 1) D k cD xs (by simp [Act.eval]) (own_keep HO.out (bel_alloc (bel_drew (Below.refl _ _)) _)) (some ⟨wr.heap.size, 0, none⟩) 1 1 [((x : Int), (y : Int))] (by simp [Act.eval]) (rd_newC _ _ _ _) rfl (by omega) (by simp; omega) ?_); intro D8 c8 w8 ho8 hg8 hat8; have HO8 := Lib.hid ho8; have HG8 := Lib.hid hg8; clear ho8 hg8 hat8)
            all_goals
              have hg2 : wr.grownBy w8 (ob D) := ⟨HG8.out.os, HG8.out.tape, HG8.out.output, by have h3 := HG8.out.size; simp at h3; omega, fun b hb hn => (HG8.out.block b (by simp; omega) hn).trans (Below.heap_alloc wr _ b hb)⟩
              have hlo : ∀ b, ob D = some b → w.heap.size + 1 ≤ b := fun b e => (own_lt HO.out b e).1
              have hBK8 := HBK.out.grown hg2 (fun e => by have := hlo _ e.symm; omega)
              have hb8 := bel_grown HB.out hg2 (fun b e => by have := hlo b e; omega)
              have hsm8 : ∀ d ∈ xs ++ [((x : Int), (y : Int))], small d := fun d hd => by
                rcases List.mem_append.1 hd with hd | hd
                · exact HSM.out d hd
                · rw [List.mem_singleton] at hd
                  subst hd
                  unfold small
                  simp only
                  omega
              have HBK8 := Lib.hid hBK8
              have HB8 := Lib.hid hb8
              have HSM8 := Lib.hid hsm8
              clear hg2 hlo hBK8 hb8 hsm8
              go_wp2_with fail
              exact ⟨⟨i + 1, k + 1, c8, D8, _, by have := HP.out; omega, by omega, by go_num, rfl, HO8.out, HSM8.out, HBK8.out, HB8.out⟩, by have := HP.out; simp [intOf]; omega⟩
        · obtain rfl : i = p := by omega
          have hi1 : ¬ (i : Int) < (i : Int) := by omega
          go_wp2_with fail
          go_ret
          exact ⟨D, k, cD, xs, rfl, own_base HO.out (show w.heap.size ≤ w.heap.size + 1 by omega), by omega, HSM.out, HB.out⟩
    · have hne : ((z : Int) != (mask : Int)) = true := by simp; omega
      clear hzm
      go_wp2_with fail
      go_ret
      exact ⟨_, 0, 0, [], rfl, own_base HO2.out (show w.heap.size ≤ w.heap.size + 1 by omega), by omega, by simp, HB2.out⟩
end Go.Proofs.YtcgjnonlndaoeaaGreat

/- Plain functions on shapes: inner sides, trees, snakes, ends, the order of growth. No program is in sight. -/
namespace Go.Proofs.YtcgjnonlndaoeaaGreat
open Go.RowKit
set_option linter.unusedVariables false

theorem countP_take {α : Type} (p : α → Bool) (xs : List α) (k : Nat) (hk : k < xs.length) : (xs.take (k + 1)).countP p = (xs.take k).countP p + (if p xs[k] then 1 else 0) := by
  rw [List.take_succ_eq_append_getElem hk, List.countP_append, List.countP_singleton]
theorem countP_congr' {α : Type} {p q : α → Bool} {l : List α} (h : ∀ x ∈ l, p x = q x) : l.countP p = l.countP q := by
  induction l with
  | nil => rfl
  | cons a t ih => simp only [List.countP_cons, h a (by simp), ih (fun x hx => h x (by simp [hx]))]
def degI (s : List C) (c : C) : Nat := s.countP fun d => nearI c d
def degS (s : List C) (c : C) : Nat := s.countP fun d => nearS d c
def deg (s : List C) (c : C) : Nat := s.countP fun d => near c d
theorem degI_eq {l : List C} {c : C} (hl : ∀ d ∈ l, small d) (hc : small c) : degI l c = deg l c := countP_congr' fun d hd => nearI_eq hc (hl d hd)
theorem degS_eq {l : List C} {c : C} (hl : ∀ d ∈ l, small d) (hc : small c) : degS l c = deg l c := countP_congr' fun d hd => by rw [nearS_eq (hl d hd) hc, near_symm]
def inner (l : List C) : Nat → Nat
  | 0 => 0
  | k + 1 => inner l k + (l.take k).countP fun d => near (l.getD k (0, 0)) d
theorem countP_le' {α : Type} (p : α → Bool) (l : List α) : l.countP p ≤ l.length := List.countP_le_length
theorem inner_le (l : List C) (k : Nat) (hk : k ≤ 8) : inner l k ≤ k * 8 := by
  induction k with
  | zero => simp [inner]
  | succ k ih =>
    have h1 := ih (by omega)
    have h2 := countP_le' (fun d => near (l.getD k (0, 0)) d) (l.take k)
    rw [List.length_take] at h2
    simp only [inner]
    omega
noncomputable def isConn (l : List C) : Bool := isShape l && conn l
noncomputable def isTree (l : List C) : Bool := isConn l && (inner l l.length == l.length - 1)
noncomputable def isSnake (l : List C) : Bool := isTree l && l.all fun c => decide (deg l c ≤ 2)
theorem conn_shape {l : List C} (h : isConn l = true) : isShape l = true := by simp only [isConn, Bool.and_eq_true] at h; exact h.1
theorem tree_conn {l : List C} (h : isTree l = true) : isConn l = true := by simp only [isTree, Bool.and_eq_true] at h; exact h.1
theorem snake_tree {l : List C} (h : isSnake l = true) : isTree l = true := by simp only [isSnake, Bool.and_eq_true] at h; exact h.1
theorem snake_no {s : List C} {c : C} (hc : c ∈ s) (h : 2 < degI s c) : isSnake s = false := by
  rw [Bool.eq_false_iff]
  intro hs
  have hsm := shape_small (conn_shape (tree_conn (snake_tree hs)))
  rw [degI_eq hsm (hsm c hc)] at h
  simp only [isSnake, Bool.and_eq_true, List.all_eq_true, decide_eq_true_eq] at hs
  have := hs.2 c hc
  omega
theorem snake_end {s : List C} (h : ∀ c ∈ s, ¬ (s.length ≤ 8 ∧ 2 < degI s c)) : isTree s = isSnake s := by
  unfold isSnake
  cases ht : isTree s with
  | false => rfl
  | true =>
    have hsh := conn_shape (tree_conn ht)
    have hsm := shape_small hsh
    symm
    rw [Bool.true_and, List.all_eq_true]
    intro c hc
    have h1 := h c hc
    rw [degI_eq hsm (hsm c hc)] at h1
    have := shape_len hsh
    rw [decide_eq_true_eq]
    omega
def ends (l : List C) : List C := if isShape l then l.filter fun c => deg l c == 1 else []
theorem filter_take {α : Type} (p : α → Bool) (xs : List α) (k : Nat) (hk : k < xs.length) : (xs.take (k + 1)).filter p = (xs.take k).filter p ++ (if p xs[k] then [xs[k]] else []) := by
  rw [List.take_succ_eq_append_getElem hk, List.filter_append, List.filter_cons, List.filter_nil]

/-- A cell that is new and has a neighbour among those that came. -/
def nextTo (out : List C) (c : C) : Bool := !hasC out c.1 c.2 && touch out c
theorem hasC_iff (s : List C) (c : C) : hasC s c.1 c.2 = true ↔ c ∈ s := by
  unfold hasC
  rw [List.any_eq_true]
  constructor
  · rintro ⟨d, hd, h⟩
    simp only [Bool.and_eq_true, beq_iff_eq] at h
    rwa [show c = d from Prod.ext h.1.symm h.2.symm]
  · intro h
    exact ⟨c, h, by simp⟩
def grownBy (s : List C) : Nat → List C
  | 0 => [s0 s]
  | k + 1 => grownBy s k ++ (s.find? (nextTo (grownBy s k))).toList
/-- In a connected shape there is always a next cell. -/
theorem next_some {s out : List C} (hs : conn s = true) (hn : s.Nodup) (h0 : s0 s ∈ out) (hlen : out.length < s.length) : ∃ c, s.find? (nextTo out) = some c := by
  rcases hf : s.find? (nextTo out) with _ | c
  · exfalso
    rw [List.find?_eq_none] at hf
    rw [conn_iff] at hs
    have all : ∀ c, Rch s (s0 s) c → c ∈ out := by
      intro c hc
      induction hc with
      | base => exact h0
      | @step b c _ hc hn ih =>
        have := hf c hc
        simp only [nextTo, Bool.and_eq_true, Bool.not_eq_true', not_and] at this
        rcases Decidable.em (c ∈ out) with h | h
        · exact h
        · exfalso
          refine this ?_ ?_
          · rw [Bool.eq_false_iff]; intro h'; exact h ((hasC_iff _ _).1 h')
          · unfold touch; rw [List.any_eq_true]; exact ⟨b, ih, by rw [near_symm]; exact hn⟩
    have := nodup_len s out hn (fun c hc => all c (hs c hc))
    omega
  · exact ⟨c, rfl⟩
theorem grownBy_s0 (s : List C) (k : Nat) : s0 s ∈ grownBy s k := by
  induction k with
  | zero => simp [grownBy]
  | succ k ih => simp [grownBy, ih]
theorem grownBy_sub {s : List C} (h : s ≠ []) (k : Nat) : ∀ c ∈ grownBy s k, c ∈ s := by
  induction k with
  | zero =>
    intro c hc
    simp only [grownBy, List.mem_singleton] at hc
    subst hc
    cases s with
    | nil => exact absurd rfl h
    | cons a t => simp [s0]
  | succ k ih =>
    intro c hc
    simp only [grownBy, List.mem_append, Option.mem_toList] at hc
    rcases hc with hc | hc
    · exact ih c hc
    · exact List.mem_of_find?_eq_some hc
theorem grownBy_len {s : List C} (hs : conn s = true) (hn : s.Nodup) (k : Nat) (hk : k < s.length) : (grownBy s k).length = k + 1 := by
  induction k with
  | zero => rfl
  | succ k ih =>
    have h1 := ih (by omega)
    obtain ⟨c, hc⟩ := next_some hs hn (grownBy_s0 s k) (by omega)
    simp [grownBy, hc, h1]
end Go.Proofs.YtcgjnonlndaoeaaGreat

/- The order of growth of a connected shape is a growth of its cells. No program is in sight. -/
namespace Go.Proofs.YtcgjnonlndaoeaaGreat
set_option linter.unusedVariables false
theorem growTo_app (l : List C) (c : C) (k : Nat) (hk : k ≤ l.length) : growTo (l ++ [c]) k = growTo l k := by
  unfold growTo
  rw [Bool.eq_iff_iff, List.all_eq_true, List.all_eq_true]
  constructor
  · intro h i hi
    have := h i hi
    rw [List.mem_range] at hi
    rw [List.getD_eq_getElem?_getD, List.getElem?_append_left (by omega)] at this
    rw [List.getD_eq_getElem?_getD]
    unfold growAt at this ⊢
    rwa [List.take_append_of_le_length (by omega)] at this
  · intro h i hi
    have := h i hi
    rw [List.mem_range] at hi
    rw [List.getD_eq_getElem?_getD] at this
    rw [List.getD_eq_getElem?_getD, List.getElem?_append_left (by omega)]
    unfold growAt at this ⊢
    rwa [List.take_append_of_le_length (by omega)]
theorem grownBy_ok {s : List C} (hsh : isShape s = true) (hc : conn s = true) : ∀ k, k < s.length → growTo (grownBy s k) (k + 1) = true ∧ (grownBy s k).Nodup
  | 0, hk => by
    have h0 : s0 s ∈ s := by
      cases s with
      | nil => simp at hk
      | cons a t => simp [s0]
    refine ⟨?_, by simp [grownBy]⟩
    simp [growTo, grownBy, growAt, hasC, shape_onB hsh _ h0]
  | k + 1, hk => by
    have hn := shape_nodup hsh
    have hne : s ≠ [] := by intro e; subst e; simp at hk
    obtain ⟨h1, h2⟩ := grownBy_ok hsh hc k (by omega)
    have hl := grownBy_len hc hn k (by omega)
    obtain ⟨c, hf⟩ := next_some hc hn (grownBy_s0 s k) (by omega)
    have hm := List.mem_of_find?_eq_some hf
    have hnx := List.find?_some hf
    have e : grownBy s (k + 1) = grownBy s k ++ [c] := by simp [grownBy, hf]
    have hcn : c ∉ grownBy s k := by
      intro h
      simp only [nextTo, Bool.and_eq_true, Bool.not_eq_true'] at hnx
      rw [(hasC_iff _ _).2 h] at hnx
      simp at hnx
    rw [e]
    refine ⟨?_, ?_⟩
    · rw [growTo_succ _ _ (by simp; omega), growTo_app _ _ _ (by omega), h1, Bool.true_and]
      rw [List.getElem_append_right (by omega)]
      simp only [hl, Nat.sub_self, List.getElem_cons_zero]
      unfold growAt
      rw [List.take_append_of_le_length (by omega), List.take_of_length_le (by omega), shape_onB hsh _ hm]
      simp only [nextTo, Bool.and_eq_true, Bool.not_eq_true'] at hnx
      rw [hnx.1, hnx.2]
      simp
    · rw [List.nodup_append]
      refine ⟨h2, by simp, ?_⟩
      intro a ha b hb hab
      simp only [List.mem_singleton] at hb
      rw [hb] at hab
      rw [hab] at ha
      exact hcn ha
theorem grow_all {xs : List C} (h : isConn xs = true) : isGrowth (grownBy xs (xs.length - 1)) = true ∧ sortC (grownBy xs (xs.length - 1)) = xs ∧ (grownBy xs (xs.length - 1)).length = xs.length := by
  have hs := conn_shape h
  have hlen := shape_len hs
  have hcn : conn xs = true := by simp only [isConn, Bool.and_eq_true] at h; exact h.2
  have hnd := shape_nodup hs
  obtain ⟨h1, h2⟩ := grownBy_ok hs hcn (xs.length - 1) (by omega)
  have hl := grownBy_len hcn hnd (xs.length - 1) (by omega)
  have hsub := grownBy_sub (s := xs) (by intro e; rw [e] at hlen; simp at hlen) (xs.length - 1)
  generalize grownBy xs (xs.length - 1) = G at *
  refine ⟨?_, ?_, by omega⟩
  · unfold isGrowth
    rw [hl, h1]
    simp only [Bool.true_and, Bool.and_eq_true, decide_eq_true_eq]
    omega
  · have hmem : ∀ x, x ∈ G ↔ x ∈ xs := fun x => ⟨hsub x, fun hx => by
      by_cases hG : x ∈ G
      · exact hG
      · exfalso
        have := nodup_len G (xs.erase x) h2 (fun c hc => (List.mem_erase_of_ne (by intro e; subst e; exact hG hc)).2 (hsub c hc))
        rw [List.length_erase_of_mem hx] at this
        omega⟩
    have e1 : sortC G = sortC xs := sortG_same befC_sto hmem
    rw [e1]
    refine sortC_id ?_
    unfold IncG
    rw [List.pairwise_iff_getElem]
    intro i j hi hj hij
    exact shape_bef hs j i hj hij
end Go.Proofs.YtcgjnonlndaoeaaGreat

/- Shapes with one cell more, all shapes of some cells: plain functions. No program is in sight. -/
namespace Go.Proofs.YtcgjnonlndaoeaaGreat
open Go.RowKit
set_option linter.unusedVariables false
/-- The neighbours of a cell, in the program's order, in the reference's. -/
def sidesV (c : C) : List C := [(c.1, c.2 - 1), (c.1 - 1, c.2), (c.1 + 1, c.2), (c.1, c.2 + 1)]
def sidesS (c : C) : List C := [(c.1 + 1, c.2), (c.1, c.2 + 1), (c.1 - 1, c.2), (c.1, c.2 - 1)]
theorem sides_same (c d : C) : d ∈ sidesV c ↔ d ∈ sidesS c := by
  simp only [sidesV, sidesS, List.mem_cons, List.not_mem_nil, or_false]
  constructor
  · rintro (h | h | h | h) <;> simp [h]
  · rintro (h | h | h | h) <;> simp [h]
/-- The list with one shape more, if there is one at place d. -/
def extStep (s : List C) (out : List (List C)) (d : C) : List (List C) := if hasC s d.1 d.2 then out else if isShape (cornI (s ++ [d])) then putG ltS out (cornI (s ++ [d])) else out
def extTo (f : C → List C) (s : List C) (k : Nat) : List (List C) := ((s.take k).flatMap f).foldl (extStep s) []
def extV (s : List C) : List (List C) := extTo sidesV s s.length
theorem extTo_succ (f : C → List C) (s : List C) (k : Nat) (hk : k < s.length) : extTo f s (k + 1) = (f s[k]).foldl (extStep s) (extTo f s k) := by
  unfold extTo
  rw [List.take_succ_eq_append_getElem hk, List.flatMap_append, List.foldl_append]
  congr 1
  simp
/-- What a list of shapes in order bears: they are shapes, in order. -/
def FineF (F : List (List C)) : Prop := IncG ltS F ∧ ∀ x ∈ F, isShape x = true
theorem FineF.nil : FineF [] := ⟨List.Pairwise.nil, by simp⟩
theorem FineF.put {F : List (List C)} (h : FineF F) {t : List C} (ht : isShape t = true) : FineF (putG ltS F t) := by
  obtain ⟨h1, h2⟩ := putG_inc ltS_sto h.1 t
  refine ⟨h1, fun x hx => ?_⟩
  rcases (h2 x).1 hx with h3 | h3
  · exact h.2 x h3
  · rw [h3]; exact ht
theorem FineF.step {F : List (List C)} (h : FineF F) (s : List C) (d : C) : FineF (extStep s F d) := by
  unfold extStep
  split
  · exact h
  · split
    · next hs => exact h.put hs
    · exact h
theorem FineF.fold {F : List (List C)} (h : FineF F) (s : List C) (l : List C) : FineF (l.foldl (extStep s) F) := by
  induction l generalizing F with
  | nil => exact h
  | cons a t ih => exact ih (h.step s a)
theorem FineF.len {F : List (List C)} (h : FineF F) : ∀ x ∈ F, x.length ≤ 8 := fun x hx => (shape_len (h.2 x hx)).2
theorem extTo_fine (f : C → List C) (s : List C) (k : Nat) : FineF (extTo f s k) := FineF.nil.fold s _
theorem extStep_len (s : List C) (F : List (List C)) (d : C) : (extStep s F d).length ≤ F.length + 1 := by
  unfold extStep
  split
  · omega
  · split
    · exact putG_len _ _
    · omega
theorem foldExt_len (s : List C) (l : List C) (F : List (List C)) : (l.foldl (extStep s) F).length ≤ F.length + l.length := by
  induction l generalizing F with
  | nil => simp
  | cons a t ih =>
    rw [List.foldl_cons]
    have := ih (extStep s F a)
    have := extStep_len s F a
    simp only [List.length_cons]
    omega
theorem extTo_len (f : C → List C) (hf : ∀ c, (f c).length = 4) (s : List C) : ∀ k, k ≤ s.length → (extTo f s k).length ≤ 4 * k
  | 0, _ => by simp [extTo]
  | k + 1, hk => by
    rw [extTo_succ f s k (by omega)]
    have := foldExt_len s (f s[k]) (extTo f s k)
    rw [hf] at this
    have := extTo_len f hf s k (by omega)
    omega
/-- What is in the list. -/
def extP (s : List C) (x : List C) (d : C) : Prop := hasC s d.1 d.2 = false ∧ isShape (cornI (s ++ [d])) = true ∧ x = cornI (s ++ [d])
theorem extStep_mem {F : List (List C)} (h : FineF F) (s : List C) (d : C) (x : List C) : x ∈ extStep s F d ↔ x ∈ F ∨ extP s x d := by
  unfold extStep extP
  cases h1 : hasC s d.1 d.2 with
  | true => simp
  | false =>
    cases h2 : isShape (cornI (s ++ [d])) with
    | true =>
      simp only [Bool.false_eq_true, if_false, if_true, true_and]
      exact (putG_inc ltS_sto h.1 _).2 x
    | false => simp
theorem foldExt_mem (s : List C) (l : List C) {F : List (List C)} (h : FineF F) (x : List C) : x ∈ l.foldl (extStep s) F ↔ x ∈ F ∨ ∃ d ∈ l, extP s x d := by
  induction l generalizing F with
  | nil => simp
  | cons a t ih =>
    rw [List.foldl_cons, ih (h.step s a), extStep_mem h]
    simp only [List.mem_cons]
    constructor
    · rintro ((h | h) | ⟨d, hd, h⟩)
      · exact .inl h
      · exact .inr ⟨a, .inl rfl, h⟩
      · exact .inr ⟨d, .inr hd, h⟩
    · rintro (h | ⟨d, rfl | hd, h⟩)
      · exact .inl (.inl h)
      · exact .inl (.inr h)
      · exact .inr ⟨d, hd, h⟩
theorem ext_same (s : List C) : extTo sidesS s s.length = extV s := by
  refine incG_eq ltS_sto _ _ (extTo_fine _ _ _).1 (extTo_fine _ _ _).1 fun x => ?_
  unfold extV extTo
  rw [foldExt_mem s _ FineF.nil, foldExt_mem s _ FineF.nil]
  simp only [List.not_mem_nil, false_or, List.mem_flatMap, List.take_length]
  constructor
  · rintro ⟨d, ⟨c, hc, hd⟩, h⟩
    exact ⟨d, ⟨c, hc, (sides_same c d).2 hd⟩, h⟩
  · rintro ⟨d, ⟨c, hc, hd⟩, h⟩
    exact ⟨d, ⟨c, hc, (sides_same c d).1 hd⟩, h⟩
/-- All shapes of k + 1 cells. -/
def growN (F : List (List C)) (k : Nat) : List (List C) := (F.take k).foldl (fun acc s => (extV s).foldl (putG ltS) acc) []
def fixV : Nat → List (List C)
  | 0 => [[(0, 0)]]
  | k + 1 => growN (fixV k) (fixV k).length
theorem growN_succ (F : List (List C)) (k : Nat) (hk : k < F.length) : growN F (k + 1) = (extV F[k]).foldl (putG ltS) (growN F k) := by
  unfold growN
  rw [List.take_succ_eq_append_getElem hk, List.foldl_append]
  rfl
theorem FineF.puts {F : List (List C)} (h : FineF F) {l : List (List C)} (hl : ∀ x ∈ l, isShape x = true) : FineF (l.foldl (putG ltS) F) := by
  induction l generalizing F with
  | nil => exact h
  | cons a t ih => exact ih (h.put (hl a (by simp))) (fun x hx => hl x (by simp [hx]))
theorem growN_fine (F : List (List C)) : ∀ k, k ≤ F.length → FineF (growN F k)
  | 0, _ => FineF.nil
  | k + 1, hk => by
    rw [growN_succ F k (by omega)]
    exact (growN_fine F k (by omega)).puts (extTo_fine _ _ _).2
theorem fixV_fine : ∀ k, FineF (fixV k)
  | 0 => ⟨List.pairwise_singleton _ _, by intro x hx; simp only [fixV, List.mem_singleton] at hx; rw [hx]; decide⟩
  | k + 1 => growN_fine _ _ (Nat.le_refl _)
theorem extV_len (s : List C) : (extV s).length ≤ 4 * s.length := extTo_len sidesV (fun _ => rfl) s s.length (Nat.le_refl _)
theorem growN_len (F : List (List C)) (hF : ∀ x ∈ F, isShape x = true) : ∀ k, k ≤ F.length → (growN F k).length ≤ 32 * k
  | 0, _ => by simp [growN]
  | k + 1, hk => by
    rw [growN_succ F k (by omega)]
    have h1 := foldlG_len (lt := ltS) (extV F[k]) (growN F k)
    have h2 := extV_len F[k]
    have h3 := (shape_len (hF _ (List.getElem_mem (by omega : k < F.length)))).2
    have := growN_len F hF k (by omega)
    omega
theorem fixV_len (k : Nat) : (fixV k).length ≤ 32 ^ k := by
  induction k with
  | zero => simp [fixV]
  | succ k ih =>
    have := growN_len (fixV k) (fixV_fine k).2 (fixV k).length (Nat.le_refl _)
    show (growN _ _).length ≤ _
    rw [Nat.pow_succ]
    omega
/-- The numbers that the walks meet: small cells. -/
theorem sidesV_small {c : C} (h : onB c = true) : ∀ d ∈ sidesV c, -1 ≤ d.1 ∧ d.1 ≤ 8 ∧ -1 ≤ d.2 ∧ d.2 ≤ 8 := by
  simp [onB] at h
  intro d hd
  simp only [sidesV, List.mem_cons, List.not_mem_nil, or_false] at hd
  rcases hd with rfl | rfl | rfl | rfl <;> (simp only; omega)
theorem app_small {s : List C} (hs : isShape s = true) {d : C} (hd : -1 ≤ d.1 ∧ d.1 ≤ 8 ∧ -1 ≤ d.2 ∧ d.2 ≤ 8) : ∀ c ∈ s ++ [d], small c := by
  intro c hc
  rcases List.mem_append.1 hc with h | h
  · exact shape_small hs c h
  · simp only [List.mem_singleton] at h
    subst h
    unfold small
    omega
end Go.Proofs.YtcgjnonlndaoeaaGreat

/- Corners of moved lists, what a connected shape's corner is; all shapes are among those grown. No program is in sight. -/
namespace Go.Proofs.YtcgjnonlndaoeaaGreat
open Go.RowKit
set_option linter.unusedVariables false
theorem cornI_same {A B : List C} (hA : 0 < A.length) (hB : 0 < B.length) (x y : Int) (h : ∀ c : C, c ∈ B ↔ ((c.1 - x, c.2 - y) : C) ∈ A) : cornI B = cornI A := by
  have e1 : minC (·.1) B = minC (·.1) A + x := by
    obtain ⟨a, ha, e⟩ := minC_at (·.1) hA
    refine minC_uniq (·.1) hB ⟨(a.1 + x, a.2 + y), (h _).2 (by simpa using ha), by rw [e]⟩ fun c hc => ?_
    have h1 := minC_le (·.1) ((h c).1 hc)
    simp only at h1
    omega
  have e2 : minC (·.2) B = minC (·.2) A + y := by
    obtain ⟨a, ha, e⟩ := minC_at (·.2) hA
    refine minC_uniq (·.2) hB ⟨(a.1 + x, a.2 + y), (h _).2 (by simpa using ha), by rw [e]⟩ fun c hc => ?_
    have h1 := minC_le (·.2) ((h c).1 hc)
    simp only at h1
    omega
  unfold cornI
  refine incG_eq befC_sto _ _ (sortC_inc _) (sortC_inc _) fun c => ?_
  rw [sortC_mem, sortC_mem, mv_mem, mv_mem, h, e1, e2]
  have e3 : ((c.1 - -(minC (·.1) A + x) - x, c.2 - -(minC (·.2) A + y) - y) : C) = (c.1 - -(minC (·.1) A), c.2 - -(minC (·.2) A)) := Prod.ext (by simp only; omega) (by simp only; omega)
  exact iff_of_eq (congrArg (· ∈ A) e3)
theorem cornI_mem (s : List C) (c : C) : c ∈ cornI s ↔ ((c.1 + minC (·.1) s, c.2 + minC (·.2) s) : C) ∈ s := by
  unfold cornI
  rw [sortC_mem, mv_mem]
  have e3 : ((c.1 - -(minC (·.1) s), c.2 - -(minC (·.2) s)) : C) = (c.1 + minC (·.1) s, c.2 + minC (·.2) s) := Prod.ext (by simp only; omega) (by simp only; omega)
  exact iff_of_eq (congrArg (· ∈ s) e3)
theorem cornI_shape {s : List C} (h : isShape s = true) : cornI s = mv s (-(minC (·.1) s)) (-(minC (·.2) s)) := sortC_id (mv_inc (isShape_inc h) _ _)
theorem shape_of {l : List C} (h1 : IncG befC l) (h2 : ∀ c ∈ l, onB c = true) (h3 : 1 ≤ l.length) (h4 : l.length ≤ 8) : isShape l = true := by
  simp only [isShape, Bool.and_eq_true, decide_eq_true_eq]
  refine ⟨?_, h3, h4⟩
  unfold shapeTo
  rw [List.all_eq_true]
  intro i hi
  rw [List.mem_range] at hi
  rw [List.getD_eq_getElem?_getD, List.getElem?_eq_getElem hi]
  simp only [shapeAt, Option.getD_some, Bool.and_eq_true, Bool.or_eq_true, beq_iff_eq]
  refine ⟨h2 _ (List.getElem_mem hi), ?_⟩
  rcases Nat.eq_zero_or_pos i with h0 | h0
  · exact .inl h0
  · refine .inr ?_
    rw [List.getD_eq_getElem?_getD, List.getElem?_eq_getElem (by omega : i - 1 < l.length)]
    unfold IncG at h1
    rw [List.pairwise_iff_getElem] at h1
    exact h1 (i - 1) i (by omega) hi (by omega)
theorem inc_nodup {l : List C} (h : IncG befC l) : l.Nodup := by
  unfold IncG at h
  refine h.imp fun {a b} hab e => ?_
  rw [e, befC_irr] at hab
  cases hab
theorem sortC_len_nd {s : List C} (h : s.Nodup) : (sortC s).length = s.length := by
  have h1 := sortC_len s
  have h2 := nodup_len s (sortC s) h (fun c hc => (sortC_mem s c).2 hc)
  omega
theorem mv_nodup {s : List C} (h : s.Nodup) (x y : Int) : (mv s x y).Nodup := by
  unfold mv
  unfold List.Nodup at h ⊢
  rw [List.pairwise_map]
  refine h.imp fun {a b} hab e => hab ?_
  simp only [Prod.mk.injEq] at e
  exact Prod.ext (by omega) (by omega)
theorem cornI_len_nd {s : List C} (h : s.Nodup) : (cornI s).length = s.length := by
  unfold cornI
  rw [sortC_len_nd (mv_nodup h _ _), mv_len]
/-- The corner of different cells that lie near each other is a shape. -/
theorem corn_shape7 {s : List C} (h1 : s.Nodup) (h2 : ∀ a ∈ s, ∀ b ∈ s, a.1 - b.1 ≤ 7 ∧ a.2 - b.2 ≤ 7) (h3 : 1 ≤ s.length) (h4 : s.length ≤ 8) : isShape (cornI s) = true := by
  have hl := cornI_len_nd h1
  refine shape_of (sortC_inc _) (fun c hc => ?_) (by omega) (by omega)
  have h5 := (cornI_mem s c).1 hc
  have h7 := minC_le (·.1) h5
  have h8 := minC_le (·.2) h5
  obtain ⟨a, ha, e⟩ := minC_at (·.1) (show 0 < s.length by omega)
  obtain ⟨b, hb, f⟩ := minC_at (·.2) (show 0 < s.length by omega)
  have h9 := h2 _ h5 a ha
  have h10 := h2 _ h5 b hb
  simp only [onB, Bool.and_eq_true, decide_eq_true_eq]
  simp only at h7 h8 h9 h10
  omega
theorem corn_shape {s : List C} (h1 : s.Nodup) (h2 : ∀ c ∈ s, onB c = true) (h3 : 1 ≤ s.length) (h4 : s.length ≤ 8) : isShape (cornI s) = true := by
  refine corn_shape7 h1 (fun a ha b hb => ?_) h3 h4
  have h5 := h2 a ha
  have h6 := h2 b hb
  simp only [onB, Bool.and_eq_true, decide_eq_true_eq] at h5 h6
  omega
theorem growN_mem (F : List (List C)) (hF : ∀ x ∈ F, isShape x = true) : ∀ k, k ≤ F.length → ∀ x, (∃ s ∈ F.take k, x ∈ extV s) → x ∈ growN F k
  | 0, _, x, h => by obtain ⟨s, hs, _⟩ := h; simp at hs
  | k + 1, hk, x, h => by
    rw [growN_succ F k (by omega)]
    have hfg := growN_fine F k (by omega)
    rw [(foldlG_inc ltS_sto _ _ hfg.1).2]
    obtain ⟨s, hs, hx⟩ := h
    rw [List.take_succ_eq_append_getElem (by omega : k < F.length)] at hs
    rcases List.mem_append.1 hs with hs | hs
    · exact .inl (growN_mem F hF k (by omega) x ⟨s, hs, hx⟩)
    · simp only [List.mem_singleton] at hs
      rw [hs] at hx
      exact .inr hx
theorem extV_mem (s x : List C) (c d : C) (hc : c ∈ s) (hd : d ∈ sidesV c) (h : extP s x d) : x ∈ extV s := by
  unfold extV extTo
  rw [foldExt_mem s _ FineF.nil]
  exact .inr ⟨d, by rw [List.take_length]; exact List.mem_flatMap.2 ⟨c, hc, hd⟩, h⟩
theorem near_sides {a b : C} (h : near a b = true) : a ∈ sidesV b := by
  simp only [near, decide_eq_true_eq] at h
  obtain ⟨a1, a2⟩ := a
  obtain ⟨b1, b2⟩ := b
  simp only at h
  simp only [sidesV, List.mem_cons, List.not_mem_nil, or_false, Prod.mk.injEq]
  omega
theorem hasC_iff2 (s : List C) (c : C) : hasC s c.1 c.2 = true ↔ c ∈ s := by
  unfold hasC
  rw [List.any_eq_true]
  constructor
  · rintro ⟨d, hd, h⟩
    simp only [Bool.and_eq_true, beq_iff_eq] at h
    have e : d = c := Prod.ext h.1 h.2
    rw [← e]; exact hd
  · intro h
    exact ⟨c, h, by simp⟩
/-- Cells that grow one by one: their corner is among the shapes grown. -/
theorem grow_fix {G : List C} (hg : isGrowth G = true) : ∀ k, k < G.length → cornI (G.take (k + 1)) ∈ fixV k := by
  simp only [isGrowth, Bool.and_eq_true, decide_eq_true_eq] at hg
  obtain ⟨hg, hlen⟩ := hg
  have hat : ∀ i (hi : i < G.length), growAt G i G[i] = true := by
    intro i hi
    unfold growTo at hg
    rw [List.all_eq_true] at hg
    have := hg i (List.mem_range.2 hi)
    rwa [List.getD_eq_getElem?_getD, List.getElem?_eq_getElem hi] at this
  have hon : ∀ c ∈ G, onB c = true := by
    intro c hc
    obtain ⟨i, hi, rfl⟩ := List.mem_iff_getElem.1 hc
    have := hat i hi
    simp only [growAt, Bool.and_eq_true] at this
    exact this.1.1
  have hnd : ∀ k, k ≤ G.length → (G.take k).Nodup := by
    intro k
    induction k with
    | zero => intro _; simp
    | succ k ih =>
      intro hk
      rw [List.take_succ_eq_append_getElem (by omega : k < G.length), List.nodup_append]
      refine ⟨ih (by omega), by simp, fun a ha b hb e => ?_⟩
      simp only [List.mem_singleton] at hb
      have := hat k (by omega)
      simp only [growAt, Bool.and_eq_true, Bool.not_eq_true'] at this
      have h2 : hasC (G.take k) G[k].1 G[k].2 = true := (hasC_iff2 _ _).2 (by rw [← hb, ← e]; exact ha)
      rw [h2] at this
      cases this.1.2
  intro k
  induction k with
  | zero =>
    intro hk
    rw [List.take_succ_eq_append_getElem hk]
    have e : cornI (G.take 0 ++ [G[0]]) = cornI [((0 : Int), (0 : Int))] := by
      refine cornI_same (by simp) (by simp) G[0].1 G[0].2 fun c => ?_
      simp only [List.take_zero, List.nil_append, List.mem_singleton, Prod.mk.injEq]
      constructor
      · rintro rfl; omega
      · intro h; exact Prod.ext (by omega) (by omega)
    rw [e]
    have e2 : cornI [((0 : Int), (0 : Int))] = [(0, 0)] := by decide
    rw [e2]
    simp [fixV]
  | succ k ih =>
    intro hk
    have h1 := ih (by omega)
    have hP := hnd (k + 1) (by omega)
    have hP2 := hnd (k + 2) (by omega)
    have hx := hat (k + 1) hk
    simp only [growAt, Bool.and_eq_true, Bool.not_eq_true', Bool.or_eq_true, beq_iff_eq] at hx
    obtain ⟨⟨hx1, hx2⟩, hx3⟩ := hx
    have hx4 : touch (G.take (k + 1)) G[k + 1] = true := by rcases hx3 with h | h; omega; exact h
    unfold touch at hx4
    rw [List.any_eq_true] at hx4
    obtain ⟨y, hy, hn⟩ := hx4
    have hmem : ∀ c, c ∈ G.take (k + 1) → c ∈ G := fun c h => List.mem_of_mem_take h
    have e2 : G.take (k + 2) = G.take (k + 1) ++ [G[k + 1]] := List.take_succ_eq_append_getElem hk
    have hsh : isShape (cornI (G.take (k + 1 + 1))) = true := corn_shape hP2 (fun c hc => hon c (List.mem_of_mem_take hc)) (by rw [List.length_take]; omega) (by rw [List.length_take]; omega)
    have hPl : 0 < (G.take (k + 1)).length := by rw [List.length_take]; omega
    generalize G.take (k + 1) = P at *
    generalize G[k + 1] = x at *
    show cornI _ ∈ growN (fixV k) (fixV k).length
    obtain ⟨u, hu⟩ : ∃ u, minC (·.1) P = u := ⟨_, rfl⟩
    obtain ⟨v, hv⟩ : ∃ v, minC (·.2) P = v := ⟨_, rfl⟩
    have hin : ∀ c : C, c ∈ cornI P ↔ ((c.1 + u, c.2 + v) : C) ∈ P := fun c => by rw [cornI_mem, hu, hv]
    refine growN_mem (fixV k) (fixV_fine k).2 _ (Nat.le_refl _) _ ⟨cornI P, by rw [List.take_length]; exact h1, ?_⟩
    have hcS : cornI (cornI P ++ [((x.1 - u, x.2 - v) : C)]) = cornI (G.take (k + 1 + 1)) := by
      rw [e2]
      refine cornI_same (by simp) (by simp) (-u) (-v) fun c => ?_
      rw [List.mem_append, List.mem_append, hin]
      simp only [List.mem_singleton]
      have e3 : ((c.1 - -u, c.2 - -v) : C) = (c.1 + u, c.2 + v) := Prod.ext (by simp only; omega) (by simp only; omega)
      rw [e3]
      have e4 : c = (x.1 - u, x.2 - v) ↔ ((c.1 + u, c.2 + v) : C) = x := by
        constructor
        · rintro rfl; exact Prod.ext (by simp only; omega) (by simp only; omega)
        · rintro rfl; exact Prod.ext (by simp only; omega) (by simp only; omega)
      rw [e4]
    refine extV_mem _ _ ((y.1 - u, y.2 - v) : C) ((x.1 - u, x.2 - v) : C) ?_ ?_ ⟨?_, ?_, hcS.symm⟩
    · rw [hin]
      have e5 : ((y.1 - u + u, y.2 - v + v) : C) = y := Prod.ext (by simp only; omega) (by simp only; omega)
      rw [e5]; exact hy
    · refine near_sides ?_
      simp only [near, decide_eq_true_eq] at hn ⊢
      omega
    · rw [Bool.eq_false_iff]
      intro h
      have h2 := (hin _).1 ((hasC_iff2 _ _).1 h)
      have e5 : ((x.1 - u + u, x.2 - v + v) : C) = x := Prod.ext (by simp only; omega) (by simp only; omega)
      rw [e5] at h2
      rw [(hasC_iff2 _ _).2 h2] at hx2
      cases hx2
    · rw [hcS]; exact hsh
/-- A connected shape, in its corner, is one of all shapes. -/
theorem conn_fix {s : List C} (h : isConn s = true) : cornI s ∈ fixV (s.length - 1) := by
  obtain ⟨h1, h2, h3⟩ := grow_all h
  have hlen := shape_len (conn_shape h)
  have h4 := grow_fix h1 (s.length - 1) (by omega)
  rw [List.take_of_length_le (by omega)] at h4
  have e : cornI s = cornI (grownBy s (s.length - 1)) := by
    refine cornI_same (by omega) (by omega) 0 0 fun c => ?_
    have e0 : ((c.1 - 0, c.2 - 0) : C) = c := Prod.ext (by simp) (by simp)
    rw [e0]
    conv => lhs; rw [← h2]
    exact sortC_mem _ _
  rw [e]
  exact h4
theorem s0_in {s : List C} (h : 0 < s.length) : s0 s ∈ s := by
  unfold s0
  rw [List.getD_eq_getElem?_getD, List.getElem?_eq_getElem h]
  exact List.getElem_mem h
/-- Reached from each other. -/
theorem Rch.trans {s : List C} {a b c : C} (h : Rch s a b) (k : Rch s b c) : Rch s a c := by
  induction k with
  | base => exact h
  | step _ h2 h3 ih => exact ih.step h2 h3
theorem Rch.symm {s : List C} {a b : C} (ha : a ∈ s) (h : Rch s a b) : Rch s b a ∧ b ∈ s := by
  induction h with
  | base => exact ⟨.base, ha⟩
  | @step b c _ h2 h3 ih => exact ⟨Rch.trans (Rch.step .base ih.2 (by rw [near_symm]; exact h3)) ih.1, h2⟩
/-- Connectedness under a map that keeps sides. -/
theorem conn_map {s t : List C} (f : C → C) (hn : ∀ a b, near (f a) (f b) = near a b) (hi : ∀ a b, f a = f b → a = b) (hm : ∀ c, c ∈ t ↔ ∃ b ∈ s, f b = c) (hs : 0 < s.length) (ht : 0 < t.length) : conn t = conn s := by
  have h0 : s0 s ∈ s := s0_in hs
  have t0 : s0 t ∈ t := s0_in ht
  obtain ⟨b0, hb0, e0⟩ := (hm _).1 t0
  rw [Bool.eq_iff_iff, conn_iff, conn_iff]
  constructor
  · intro h
    have key : ∀ d, Rch t (s0 t) d → ∃ b ∈ s, f b = d ∧ Rch s b0 b := by
      intro d hd
      induction hd with
      | base => exact ⟨b0, hb0, e0, .base⟩
      | @step d e _ he hne ih =>
        obtain ⟨b, hb, rfl, hr⟩ := ih
        obtain ⟨b', hb', rfl⟩ := (hm _).1 he
        exact ⟨b', hb', rfl, hr.step hb' (by rw [← hn]; exact hne)⟩
    have all : ∀ c ∈ s, Rch s b0 c := by
      intro c hc
      obtain ⟨b, hb, e, hr⟩ := key _ (h (f c) ((hm _).2 ⟨c, hc, rfl⟩))
      rw [← hi _ _ e]; exact hr
    intro c hc
    exact Rch.trans (Rch.symm hb0 (all _ h0)).1 (all c hc)
  · intro h
    have key : ∀ d, Rch s b0 d → Rch t (f b0) (f d) := by
      intro d hd
      induction hd with
      | base => exact .base
      | @step d e _ he hne ih => exact ih.step ((hm _).2 ⟨e, he, rfl⟩) (by rw [hn]; exact hne)
    intro c hc
    obtain ⟨b, hb, rfl⟩ := (hm c).1 hc
    rw [← e0]
    exact key b (Rch.trans (Rch.symm h0 (h b0 hb0)).1 (h b hb))
/-- Squares of four cells. -/
def sqC (s : List C) (c : C) : Bool := hasC s (c.1 + 1) c.2 && (hasC s c.1 (c.2 + 1) && hasC s (c.1 + 1) (c.2 + 1))
def sqV (s : List C) : Nat := s.countP (sqC s)
end Go.Proofs.YtcgjnonlndaoeaaGreat

/- append at bytes, inside a region that draws its order too; bytes made a string. -/
namespace Go.Proofs.YtcgjnonlndaoeaaGreat
open Go.RowKit
set_option linter.unusedVariables false
theorem infoB : (Tryz.prog.info? 5).map (fun i => (i.zero, i.size, i.bytes)) = some (some (.int .u8 0), 1, 1) := by kernel_rfl
section
variable (w : World) {ops : Array Oper} {rest : List Oper} {o : Oper} {a : Act} {Q : Exit → Act → World → Prop}
theorem wpB (s x : Operand) {K : Act → World → Prop} (ho : o.op = .call { callee := .builtin .append, args := #[s, x], argTypes := #[22, 22] })
    (base : Nat) (A : Option Addr) (n c : Nat) (l : List UInt8) (hs : a.eval s = .slice A n c) (hown : w.ownsRow base 5 1 (.slice A n c) n (vB l))
    (A2 : Option Addr) (m c2 : Nat) (l2 : List UInt8) (hx : a.eval x = .slice A2 m c2) (hr : Rd w A2 (vB l2)) (hl : l2.length = m) (hb : n + m ≤ 1099511627776) (hbase : base ≤ w.heap.size)
    (h : ∀ A' c' w', w'.ownsRow base 5 1 (.slice A' (n + m) c') (n + m) (vB (l ++ l2)) → w.grownBy w' (ob A) → (ob A' = ob A ∨ ob A' = some w.heap.size) → K (a.put o.dst (.slice A' (n + m) c')) w') :
    o.wp Tryz.prog a w K Q := by
  obtain ⟨i0, hi, hz0, hz1, hz2⟩ := info_parts infoB
  refine wp_app w s x _ ho base _ i0 _ 1 1 Tryz.underlying22 hi hz0 hz1 hz2 rfl (by omega) A n c _ hs hown A2 m c2 _ hx hr (by rw [vB_length, hl]; omega) (vB_one _) (by unfold maxLen; omega) (by omega) hbase ?_
  intro A' c' w' h1
  rw [← vB_append] at h1
  exact h A' c' w' h1
theorem app_B (hgd : o.guard = none) (s x : Operand) (ho : o.op = .call { callee := .builtin .append, args := #[s, x], argTypes := #[22, 22] })
    (base : Nat) (A : Option Addr) (n c : Nat) (l : List UInt8) (hs : a.eval s = .slice A n c) (hown : w.ownsRow base 5 1 (.slice A n c) n (vB l))
    (A2 : Option Addr) (m c2 : Nat) (l2 : List UInt8) (hx : a.eval x = .slice A2 m c2) (hr : Rd w A2 (vB l2)) (hl : l2.length = m) (hb : n + m ≤ 1099511627776) (hbase : base ≤ w.heap.size)
    (h : ∀ A' c' w', w'.ownsRow base 5 1 (.slice A' (n + m) c') (n + m) (vB (l ++ l2)) → w.grownBy w' (ob A) → (ob A' = ob A ∨ ob A' = some w.heap.size) → wpList Tryz.prog ops Q rest (a.put o.dst (.slice A' (n + m) c')) w') :
    wpList Tryz.prog ops Q (o :: rest) a w :=
  wpList_plain hgd fun _ hK => wpB w s x ho base A n c l hs hown A2 m c2 l2 hx hr hl hb hbase fun A' c' w' h1 h2 h3 => hK _ _ (h A' c' w' h1 h2 h3)
theorem step_B {K : Act → World → Prop} {E : Prop} (hgd : o.guard = none) (s x : Operand) (ho : o.op = .call { callee := .builtin .append, args := #[s, x], argTypes := #[22, 22] })
    (base : Nat) (A : Option Addr) (n c : Nat) (l : List UInt8) (hs : a.eval s = .slice A n c) (hown : w.ownsRow base 5 1 (.slice A n c) n (vB l))
    (A2 : Option Addr) (m c2 : Nat) (l2 : List UInt8) (hx : a.eval x = .slice A2 m c2) (hr : Rd w A2 (vB l2)) (hl : l2.length = m) (hb : n + m ≤ 1099511627776) (hbase : base ≤ w.heap.size)
    (h : ∀ A' c' w', w'.ownsRow base 5 1 (.slice A' (n + m) c') (n + m) (vB (l ++ l2)) → w.grownBy w' (ob A) → (ob A' = ob A ∨ ob A' = some w.heap.size) → K (a.put o.dst (.slice A' (n + m) c')) w') :
    if Region.wanted o (yielded ops a.tmps) = true then Oper.wp Tryz.prog o a w K Q else E := by
  have hw : Region.wanted o (yielded ops a.tmps) = true := by simp [Region.wanted, hgd]
  rw [if_pos hw]
  exact wpB w s x ho base A n c l hs hown A2 m c2 l2 hx hr hl hb hbase h
end
theorem rd_newB (w : World) (t : TypeId) (b : UInt8) : Rd (w.alloc (.cells #[.int .u8 b.toNat] t)) (some ⟨w.heap.size, 0, none⟩) (vB [b]) := rd_new w t _
/-- Bytes made a string. -/
theorem conv_B (w : World) {A : Option Addr} {n c : Nat} {l : List UInt8} (hr : Rd w A (vB l)) (hl : l.length = n) :
    (convert 22 9 (.slice A n c)).run Tryz.prog w = .ok (.string ⟨l.toArray⟩) w := by
  subst hl
  have e : strOfNums (l.map fun b => (b.toNat : Int)) = ⟨l.toArray⟩ := by
    unfold strOfNums
    congr 2
    rw [List.map_map]
    conv => rhs; rw [← List.map_id l]
    apply List.map_congr_left
    intro b _
    simp
  rcases hr with h | ⟨g, off, rfl, h⟩
  · have h0 : l = [] := by
      have := congrArg List.length h
      rw [vB_length] at this
      exact List.eq_nil_of_length_eq_zero (by simpa using this)
    subst h0
    cases A with
    | none => exact run_convert_bytes_nil w _ _ Tryz.underlying22 Tryz.underlying5 _ _ _ Tryz.underlying9
    | some a =>
      rw [List.length_nil, run_convert_bytes_string w _ _ _ _ _ c Tryz.underlying22 Tryz.underlying5 Tryz.underlying9, run_bytesToString w a 0 c [] (by simp [loadCells, loadCellsFrom])]
      rfl
  · rw [← e]
    refine run_convert_bytes_arg w _ _ Tryz.underlying22 Tryz.underlying5 g off _ c _ (by simp) (fun i hi => ?_) _ Tryz.underlying9
    refine h i _ ?_
    simp [vB, List.getElem?_eq_getElem hi, List.getD_eq_getElem?_getD]
end Go.Proofs.YtcgjnonlndaoeaaGreat

/- The reference's draws: numbers below a bound, out of bytes. -/
namespace Go.Proofs.YtcgjnonlndaoeaaGreat
open Go.RowKit
set_option linter.unusedVariables false
attribute [local go_sem ↓] Go.wp_at_zero Go.wp_at_succ
/-- A cursor over bytes. -/
structure Cur (w : World) (g : Nat) (A : Option Addr) (n c : Nat) (bs : List UInt8) : Prop where
  blk : ∃ (i : Nat) (h : Int), i ≤ n ∧ Blk w g 84 #[.slice A n c, .int .i64 (i : Int), .int .i64 h]
  rd : Rd w A (vB bs)
  len : bs.length = n
  ne : 0 < n → ob A ≠ some g
theorem Cur.below {w w' : World} {g : Nat} {A : Option Addr} {n c : Nat} {bs : List UInt8} (h : Cur w g A n c bs) (hb : Below w.heap.size w w') : Cur w' g A n c bs := by
  obtain ⟨i, x, hi, hB⟩ := h.blk
  exact ⟨⟨i, x, hi, hB.below hb⟩, h.rd.below hb, h.len, h.ne⟩
theorem and255 (x : Int) : ∃ q : Nat, bits .and .i64 x 255 = (q : Int) ∧ q < 256 := by
  refine ⟨(BitVec.ofInt 64 x &&& BitVec.ofInt 64 255).toNat, ?_, ?_⟩
  · show IntKind.i64.wrap ((BitVec.ofInt 64 x &&& BitVec.ofInt 64 255).toNat : Int) = _
    have hlt : (BitVec.ofInt 64 x &&& BitVec.ofInt 64 255).toNat ≤ 255 := by
      rw [BitVec.toNat_and]
      exact Nat.le_trans Nat.and_le_right (by decide)
    exact Go.IntWalk.i64_in _ (by omega)
  · have hlt : (BitVec.ofInt 64 x &&& BitVec.ofInt 64 255).toNat ≤ 255 := by
      rw [BitVec.toNat_and]
      exact Nat.le_trans Nat.and_le_right (by decide)
    omega
theorem RdB.at_ {w : World} {A : Option Addr} {xs : List UInt8} (h : Rd w A (vB xs)) {k : Nat} (hk : k < xs.length) : ∃ g off, A = some ⟨g, off, none⟩ ∧ g < w.heap.size ∧ w.cell? ⟨g, off + k, none⟩ = some (.int .u8 (xs[k].toNat : Nat)) := by
  rcases h with h | ⟨g, off, rfl, h⟩
  · have h2 := congrArg List.length h
    simp [vB] at h2
    subst h2
    simp at hk
  · have h2 := h k (.int .u8 (xs[k].toNat : Nat)) (by simp [vB, List.getElem?_eq_getElem hk])
    exact ⟨g, off, rfl, World.block_lt_of_cell? w _ h2, h2⟩
theorem Cur.set_ {w : World} {g : Nat} {A : Option Addr} {n c : Nat} {bs : List UInt8} (h : Cur w g A n c bs) {cs : Array Value} {k : Nat} {u : Value} (hB : Blk w g 84 cs) (hk : ∃ (i : Nat) (h : Int), i ≤ n ∧ cs.setIfInBounds k u = #[.slice A n c, .int .i64 (i : Int), .int .i64 h]) : Cur (w.setCell ⟨g, k, none⟩ u) g A n c bs := by
  obtain ⟨i, x, hi, hx⟩ := hk
  refine ⟨⟨i, x, hi, hx ▸ hB.set_ k u⟩, ?_, h.len, h.ne⟩
  by_cases h0 : 0 < n
  · rcases h.rd with h1 | ⟨g', off, rfl, h1⟩
    · exact .inl h1
    · refine .inr ⟨g', off, rfl, fun j v hv => (World.cell?_setCell_other w _ _ u (fun e => h.ne h0 ?_)).trans (h1 j v hv)⟩
      simp only [Addr.mk.injEq] at e
      simp [ob, e.1]
  · left
    have := h.len
    rw [List.eq_nil_of_length_eq_zero (by omega : bs.length = 0)]
    rfl
/-- A number below a bound was drawn. -/
def RetDraw (w : World) (g : Nat) (A : Option Addr) (n c : Nat) (bs : List UInt8) (m : Nat) (e : Ending) (w' : World) : Prop :=
  ∃ q : Nat, e = .returned (.int .i64 (q : Int)) ∧ q < m ∧ Cur w' g A n c bs ∧ w.grownBy w' (some g)
def RetCur (w : World) (A : Option Addr) (n c : Nat) (bs : List UInt8) (e : Ending) (w' : World) : Prop :=
  ∃ g, e = .returned (.pointer (some ⟨g, 0, none⟩)) ∧ Cur w' g A n c bs ∧ w.heap.size ≤ g ∧ Below w.heap.size w w'
set_option maxHeartbeats 800000 in
theorem l1New_s (A : Option Addr) (n c : Nat) (bs : List UInt8) (w : World) (hr : Rd w A (vB bs)) (hl : bs.length = n) (hn : n ≤ 1048576) :
    Calls Tryz.prog 40 #[.slice A n c] w (RetCur w A n c bs) := by
  have HR := Lib.hid hr
  have HL := Lib.hid hl
  clear hr hl
  go_enter Tryz.func40, Tryz.ntmps40
  go_wp2_with fail
  go_loopw [4, 3] (fun e4 e3 wr => ∃ (i : Nat) (h : Int), i ≤ n ∧ e4 = .int .i64 i ∧ e3 = .int .i64 h ∧ Below w.heap.size w wr) (fun e4 _ _ => n - (intOf e4).toNat)
  case atStart => exact ⟨0, _, Nat.zero_le _, rfl, rfl, Below.refl _ _⟩
  case round =>
    obtain ⟨i, h, hi, rfl, rfl, hb⟩ := hrel
    have HB := Lib.hid hb
    clear hb
    by_cases hlt : i < n
    · have hi0 : (0 : Int) ≤ (i : Int) := by omega
      have hi1 : (i : Int) < (n : Int) := by omega
      by_cases h4 : i < 4000
      · have h41 : (i : Int) < 4000 := by omega
        have hil : i < bs.length := by rw [HL.out]; exact hlt
        obtain ⟨g, off, hA, hg, d1⟩ := RdB.at_ (HR.out.below HB.out) hil
        obtain ⟨b, hb⟩ : ∃ b, bs[i] = b := ⟨_, rfl⟩
        rw [hb] at d1
        have ebb : IntKind.i64.wrap (b.toNat : Int) = (b.toNat : Int) := Go.IntWalk.i64_in _ (by have := b.toNat_lt; omega)
        obtain ⟨a1, ha1⟩ : ∃ a1, IntKind.i64.wrap (h * 131) = a1 := ⟨_, rfl⟩
        obtain ⟨a2, ha2⟩ : ∃ a2, IntKind.i64.wrap (a1 + (b.toNat : Int)) = a2 := ⟨_, rfl⟩
        obtain ⟨a3, ha3⟩ : ∃ a3, IntKind.i64.wrap (a2 + 7) = a3 := ⟨_, rfl⟩
        obtain ⟨a4, ha4⟩ : ∃ a4, bits .and .i64 a3 1073741823 = a4 := ⟨_, rfl⟩
        subst hA
        clear hb
        go_wp2_with fail
        exact ⟨⟨i + 1, a4, by omega, by go_num, rfl, HB.out⟩, by simp [intOf]; omega⟩
      · have h41 : ¬ (i : Int) < 4000 := by omega
        go_wp2_with fail
        go_ret
        have hA : 0 < n → ob A ≠ some wr.heap.size := fun _ e => by
          obtain ⟨g, off, hA, hg, d1⟩ := RdB.at_ (HR.out.below HB.out) (show 0 < bs.length by rw [HL.out]; omega)
          subst hA
          simp only [ob, Option.map_some, Option.some.injEq] at e
          omega
        exact ⟨_, rfl, ⟨⟨0, h, Nat.zero_le _, Blk.new _ _ _⟩, (HR.out.below HB.out).alloc _, HL.out, hA⟩, HB.out.size, bel_alloc HB.out _⟩
    · obtain rfl : i = n := by omega
      have hi1 : ¬ (i : Int) < (i : Int) := by omega
      go_wp2_with fail
      go_ret
      have hA : 0 < i → ob A ≠ some wr.heap.size := fun h0 e => by
        obtain ⟨g, off, hA, hg, d1⟩ := RdB.at_ (HR.out.below HB.out) (show 0 < bs.length by rw [HL.out]; omega)
        subst hA
        simp only [ob, Option.map_some, Option.some.injEq] at e
        omega
      exact ⟨_, rfl, ⟨⟨0, h, Nat.zero_le _, Blk.new _ _ _⟩, (HR.out.below HB.out).alloc _, HL.out, hA⟩, HB.out.size, bel_alloc HB.out _⟩
set_option maxHeartbeats 800000 in
theorem l1Byte_s (A : Option Addr) (n c g : Nat) (bs : List UInt8) (w : World) (hc : Cur w g A n c bs) (hn : n ≤ 1048576) :
    Calls Tryz.prog 79 #[.pointer (some ⟨g, 0, none⟩)] w (RetDraw w g A n c bs 256) := by
  obtain ⟨i, h, hi, hB⟩ := hc.blk
  have c0 : w.cell? ⟨g, 0, none⟩ = some (.slice A n c) := by simpa using hB.cell 0
  have c1 : w.cell? ⟨g, 1, none⟩ = some (.int .i64 (i : Int)) := by simpa using hB.cell 1
  have c2 : w.cell? ⟨g, 2, none⟩ = some (.int .i64 h) := by simpa using hB.cell 2
  have f2 := hB.frozen 2
  have hg := hB.lt
  obtain ⟨a1, ha1⟩ : ∃ a1, IntKind.i64.wrap (h * 6364136223846793005) = a1 := ⟨_, rfl⟩
  obtain ⟨a2, ha2⟩ : ∃ a2, IntKind.i64.wrap (a1 + 1442695040888963407) = a2 := ⟨_, rfl⟩
  go_enter Tryz.func79, Tryz.ntmps79
  go_wp2_with fail
  have hB1 := hB.set_ 2 (.int .i64 a2)
  have hC1 := hc.set_ (k := 2) (u := .int .i64 a2) hB ⟨i, a2, hi, rfl⟩
  have hG1 : w.grownBy (w.setCell ⟨g, 2, none⟩ (.int .i64 a2)) (some g) := grown_set (p := ⟨g, 2, none⟩) (World.grownBy.refl _ _) rfl _
  obtain ⟨w1, hw1⟩ : ∃ w1, w.setCell ⟨g, 2, none⟩ (.int .i64 a2) = w1 := ⟨_, rfl⟩
  rw [hw1] at hB1 hC1 hG1 ⊢
  have HG1 := Lib.hid hG1
  have HC1 := Lib.hid hC1
  have HB1 := Lib.hid hB1
  have d0 : w1.cell? ⟨g, 0, none⟩ = some (.slice A n c) := by simpa using hB1.cell 0
  have d1 : w1.cell? ⟨g, 1, none⟩ = some (.int .i64 (i : Int)) := by simpa using hB1.cell 1
  have d2 : w1.cell? ⟨g, 2, none⟩ = some (.int .i64 a2) := by simpa using hB1.cell 2
  have l1 := hB1.lt
  have HI := Lib.hid hi
  clear hw1 c0 c1 c2 f2 hg hB hc hC1 hG1 hB1 ha1 ha2 hi
  (refine wp_region_below (by kernel_rfl) (by kernel_rfl) ?_; (repeat (first | go_big_quiet_skip | (refine quietV (v := ?_) (by rfl) rfl (fun w' hbw => ?_) ?_; rotate_left; ((try dsimp only at hbw); have hbc := (bcell hbw).1; have hbf := (bcell hbw).2; go_simp; first | done | with_reducible rfl | fail); simp only [List.setIfInBounds_toArray, List.set_cons_zero, List.set_cons_succ]))); refine wpQuiet_nil ?_; intro wq hbq)
  obtain ⟨q1, hq1, hlt1⟩ := and255 (bits BinOp.xor IntKind.i64 (a2 / 8589934592) (a2 / 35184372088832))
  have d0 := keep_below hbq d0
  have d1 := keep_below hbq d1
  have d2 := keep_below hbq d2
  have l1 : g < wq.heap.size := Nat.lt_of_lt_of_le l1 hbq.size
  have HBQ := Lib.hid hbq
  rw [hq1]
  clear hq1 hbq
  go_wp2_with fail
  (refine wp_region_below (by kernel_rfl) (by kernel_rfl) ?_; (repeat (first | go_big_quiet_skip | (refine quietV (v := ?_) (by rfl) rfl (fun w' hbw => ?_) ?_; rotate_left; ((try dsimp only at hbw); have hbc := (bcell hbw).1; have hbf := (bcell hbw).2; go_simp; first | done | with_reducible rfl | fail); simp only [List.setIfInBounds_toArray, List.set_cons_zero, List.set_cons_succ]))); refine wpQuiet_nil ?_; intro wp hbp)
  have d0 := keep_below hbp d0
  have d1 := keep_below hbp d1
  have l1 : g < wp.heap.size := Nat.lt_of_lt_of_le l1 hbp.size
  have HBP := Lib.hid (bel_trans HBQ.out hbp)
  clear hbp HBQ d2
  have hgr : ∀ w2 : World, Below w1.heap.size w1 w2 → w.grownBy w2 (some g) := fun w2 h => ⟨h.os.trans HG1.out.os, h.tape.trans HG1.out.tape, h.output.trans HG1.out.output, Nat.le_trans HG1.out.size h.size, fun k hk hn => (h.block k (Nat.lt_of_lt_of_le hk HG1.out.size)).trans (HG1.out.block k hk hn)⟩
  have HGR := Lib.hid @hgr
  clear hgr
  by_cases hlt : i < n
  · have hi1 : (i : Int) < (n : Int) := by omega
    have hi0 : (0 : Int) ≤ (i : Int) := by omega
    have hil : i < bs.length := by rw [HC1.out.len]; exact hlt
    obtain ⟨gb, off, hA, hgb, e1⟩ := RdB.at_ (HC1.out.rd.below HBP.out) hil
    obtain ⟨b, hb⟩ : ∃ b, bs[i] = b := ⟨_, rfl⟩
    rw [hb] at e1
    have hbl := b.toNat_lt
    have ebb : IntKind.i64.wrap (b.toNat : Int) = (b.toNat : Int) := Go.IntWalk.i64_in _ (by omega)
    have eq1 : IntKind.i64.wrap ((q1 : Int) + (b.toNat : Int)) = (q1 : Int) + (b.toNat : Int) := Go.IntWalk.i64_in _ (by omega)
    obtain ⟨q2, hq2, hlt2⟩ := and255 ((q1 : Int) + (b.toNat : Int))
    subst hA
    have HBB := Lib.hid hbl
    clear hb hbl
    go_wp2_with fail
    (refine wp_region_below (by kernel_rfl) (by kernel_rfl) ?_; (repeat (first | go_big_quiet_skip | (refine quietV (v := ?_) (by rfl) rfl (fun w' hbw => ?_) ?_; rotate_left; ((try dsimp only at hbw); have hbc := (bcell hbw).1; have hbf := (bcell hbw).2; go_simp; first | done | with_reducible rfl | fail); simp only [List.setIfInBounds_toArray, List.set_cons_zero, List.set_cons_succ]))); refine wpQuiet_nil ?_; intro wr hbr)
    have HBR := Lib.hid (bel_trans HBP.out hbr)
    have d0 := keep_below hbr d0
    have d1 := keep_below hbr d1
    have l1 : g < wr.heap.size := Nat.lt_of_lt_of_le l1 hbr.size
    have hBr := HB1.out.below HBR.out
    have f1 := hBr.frozen 1
    have ei : IntKind.i64.wrap ((i : Int) + 1) = ((i + 1 : Nat) : Int) := by rw [Go.IntWalk.i64_in _ (by have := HC1.out.len; omega)]; omega
    clear eq1 ebb e1 hbr hgb d0 hq2
    go_wp2_with fail
    go_ret
    exact ⟨q2, rfl, hlt2, (HC1.out.below HBR.out).set_ (k := 1) (u := .int .i64 ((i + 1 : Nat) : Int)) hBr ⟨i + 1, a2, by omega, rfl⟩, grown_set (p := ⟨g, 1, none⟩) (HGR.out _ HBR.out) rfl _⟩
  · have hi1 : ¬ (i : Int) < (n : Int) := by omega
    go_wp2_with fail
    go_ret
    exact ⟨q1, rfl, hlt1, HC1.out.below HBP.out, HGR.out _ HBP.out⟩
set_option maxHeartbeats 800000 in
theorem l1Below_s (A : Option Addr) (n c g k : Nat) (bs : List UInt8) (w : World) (hc : Cur w g A n c bs) (hn : n ≤ 1048576) (hk1 : 1 ≤ k) (hk : k ≤ 256) :
    Calls Tryz.prog 57 #[.pointer (some ⟨g, 0, none⟩), .int .i64 (k : Int)] w (RetDraw w g A n c bs k) := by
  have h0 : ¬ (k : Int) ≤ 0 := by omega
  have h2 : (k : Int) ≤ 256 := by omega
  have HC := Lib.hid hc
  clear hc
  go_enter Tryz.func57, Tryz.ntmps57
  go_wp2_with fail
  refine (l1Byte_s A n c g bs w HC.out hn).mono ?_
  rintro e w1 ⟨q, rfl, hq, hc1, hg1⟩
  have HC1 := Lib.hid hc1
  have HG1 := Lib.hid hg1
  obtain ⟨r, hr⟩ : ∃ r, q % k = r := ⟨_, rfl⟩
  have hrl : r < k := by rw [← hr]; exact Nat.mod_lt _ (by omega)
  have hrm : (q : Int) % (k : Int) = (r : Int) := by rw [← hr]; simp
  have hrm2 : (q : Int).tmod (k : Int) = (r : Int) := by rw [← hr]; simp [Int.tmod]
  have hkz : ((k : Int) == 0) = false := by simp; omega
  have er : IntKind.i64.wrap (r : Int) = (r : Int) := Go.IntWalk.i64_in _ (by omega)
  clear hc1 hg1 hr
  go_wp2_with fail
  go_ret
  exact ⟨r, rfl, hrl, HC1.out, HG1.out⟩
end Go.Proofs.YtcgjnonlndaoeaaGreat

/- The reference's draws of shapes. -/
namespace Go.Proofs.YtcgjnonlndaoeaaGreat
open Go.RowKit
set_option linter.unusedVariables false
attribute [local go_sem ↓] Go.wp_at_zero Go.wp_at_succ
theorem own_keptD {w w' : World} {base n c e size : Nat} {A : Option Addr} {xs : List Value} {row : Option Nat} (h : w.ownsRow base e size (.slice A n c) n xs) (hg : w.grownBy w' row) (hn : ∀ g, ob A = some g → row ≠ some g) : w'.ownsRow base e size (.slice A n c) n xs :=
  h.kept hg (by
    rw [ownBlock_slice]
    cases hA : ob A with
    | none => exact .inl rfl
    | some g => right; intro e; exact hn g hA e.symm)
theorem own_mono2D {w : World} {base base' e size n c : Nat} {A : Option Addr} {xs : List Value} (h : w.ownsRow base e size (.slice A n c) n xs) (hb : base' ≤ base) : w.ownsRow base' e size (.slice A n c) n xs := by
  refine ⟨h.1, ?_⟩
  rcases h.2 with hn | ⟨g, cap, cur, hv, hg, hgg, rest⟩
  · exact .inl hn
  · exact .inr ⟨g, cap, cur, hv, Nat.le_trans hb hg, hgg, rest⟩
theorem grown_trans {w w1 w2 : World} {row : Option Nat} (h : w.grownBy w1 row) (k : w1.grownBy w2 row) : w.grownBy w2 row :=
  ⟨k.os.trans h.os, k.tape.trans h.tape, k.output.trans h.output, Nat.le_trans h.size k.size, fun i hi hr => (k.block i (Nat.lt_of_lt_of_le hi h.size) hr).trans (h.block i hi hr)⟩
/-- Below base only the cursor's block is written. -/
structure FrG (base g : Nat) (w w' : World) : Prop where
  os : w'.os = w.os
  tape : w'.tape = w.tape
  output : w'.output = w.output
  size : w.heap.size ≤ w'.heap.size
  block : ∀ k, k < base → k ≠ g → w'.heap[k]? = w.heap[k]?
theorem FrG.refl (base g : Nat) (w : World) : FrG base g w w := ⟨rfl, rfl, rfl, Nat.le_refl _, fun _ _ _ => rfl⟩
theorem FrG.below {base g : Nat} {w w1 w2 : World} (h : FrG base g w w1) (k : Below w1.heap.size w1 w2) (hb : base ≤ w1.heap.size) : FrG base g w w2 :=
  ⟨k.os.trans h.os, k.tape.trans h.tape, k.output.trans h.output, Nat.le_trans h.size k.size, fun i hi hg => (k.block i (by omega)).trans (h.block i hi hg)⟩
theorem FrG.draw {base g : Nat} {w w1 w2 : World} (h : FrG base g w w1) (k : w1.grownBy w2 (some g)) (hb : base ≤ w1.heap.size) : FrG base g w w2 :=
  ⟨k.os.trans h.os, k.tape.trans h.tape, k.output.trans h.output, Nat.le_trans h.size k.size, fun i hi hg => (k.block i (by omega) (fun e => hg (by injection e))).trans (h.block i hi hg)⟩
theorem FrG.row {base g : Nat} {w w1 w2 : World} {row : Option Nat} (h : FrG base g w w1) (k : w1.grownBy w2 row) (hb : base ≤ w1.heap.size) (hr : ∀ b, row = some b → base ≤ b) : FrG base g w w2 :=
  ⟨k.os.trans h.os, k.tape.trans h.tape, k.output.trans h.output, Nat.le_trans h.size k.size, fun i hi hg => (k.block i (by omega) (fun e => by have := hr i e.symm; omega)).trans (h.block i hi hg)⟩
theorem FrG.grown {g : Nat} {w w1 : World} (h : FrG w.heap.size g w w1) : w.grownBy w1 (some g) := ⟨h.os, h.tape, h.output, h.size, fun k hk hg => h.block k hk (fun e => hg (by rw [e]))⟩
theorem Cur.row {w w' : World} {g : Nat} {A : Option Addr} {n c : Nat} {bs : List UInt8} {row : Option Nat} (h : Cur w g A n c bs) (k : w.grownBy w' row) (h1 : ∀ b, row = some b → b ≠ g) (h2 : 0 < n → ∀ b, row = some b → ob A ≠ some b) : Cur w' g A n c bs := by
  obtain ⟨i, x, hi, hB⟩ := h.blk
  refine ⟨⟨i, x, hi, hB.grown k (fun e => h1 g e.symm rfl)⟩, ?_, h.len, h.ne⟩
  by_cases h0 : 0 < n
  · exact h.rd.grown k (fun b e r => h2 h0 b r.symm e)
  · left
    have := h.len
    rw [List.eq_nil_of_length_eq_zero (by omega : bs.length = 0)]
    rfl
/-- A shape was drawn: cells near the board. -/
def RetShp (w : World) (g : Nat) (A : Option Addr) (n c : Nat) (bs : List UInt8) (e : Ending) (w' : World) : Prop :=
  ∃ D k cD xs, e = .returned (.slice D k cD) ∧ w'.ownsRow w.heap.size 80 2 (.slice D k cD) k (vC xs) ∧ 1 ≤ k ∧ k ≤ 7 ∧ Cur w' g A n c bs ∧ w.grownBy w' (some g)
noncomputable def growLp : Code := ((Tryz.f106.body.map loopsIn).getD []).getD 0 .skip
set_option maxRecDepth 100000 in
set_option maxHeartbeats 1600000 in
theorem growLoop {Q : Exit → Act → World → Prop} {s2 s3 s4 s7 s8 s9 s10 s11 s12 s13 s14 s15 s16 s17 s18 s19 s20 s21 s22 s23 s24 s25 s26 s27 s28 s29 s30 s31 s32 s33 s34 s35 s36 s37 s38 s39 s40 s41 s42 s43 s44 s45 s46 s47 s48 s49 s50 s51 s52 s53 s54 s55 s56 s57 s58 s59 s60 s61 s62 : Value} {A D : Option Addr} {n c g cD m base : Nat} {bs : List UInt8} {w : World}
    (hAb : 0 < n → ∀ b, ob A = some b → b < base) (hc : Cur w g A n c bs) (hn : n ≤ 1048576) (hm : 1 ≤ m) (hm7 : m ≤ 7) (hO : w.ownsRow base 80 2 (.slice D 1 cD) 1 (vC [(3, 3)])) (hgb : g < base) (hbase : base ≤ w.heap.size)
    (hexit : ∀ (v7 v8 v9 v12 v13 v14 v15 v16 v17 v18 v19 v20 v21 v22 v23 v24 v25 v26 v27 v28 v29 v30 v31 v32 v33 v34 v35 v36 v37 v38 v39 v40 v41 v42 v43 v44 v45 v46 v47 v48 v49 v50 v51 v52 v53 v54 v55 v56 v57 v58 v59 : Value) (D' : Option Addr) (k c' : Nat) (ys : List C) (w3 : World), w3.ownsRow base 80 2 (.slice D' k c') k (vC ys) → 1 ≤ k → k ≤ 7 → (∀ d ∈ ys, (0 ≤ d.1 ∧ d.1 ≤ 7) ∧ (0 ≤ d.2 ∧ d.2 ≤ 7)) → Cur w3 g A n c bs → FrG base g w w3 → Q (.exit 0) ⟨List.toArray ((.pointer (some ⟨g, 0, none⟩)) :: (.int .i64 (m : Int)) :: s2 :: s3 :: s4 :: (.slice D' k c') :: (.int .i64 (m : Int)) :: v7 :: v8 :: v9 :: s10 :: s11 :: v12 :: v13 :: v14 :: v15 :: v16 :: v17 :: v18 :: v19 :: v20 :: v21 :: v22 :: v23 :: v24 :: v25 :: v26 :: v27 :: v28 :: v29 :: v30 :: v31 :: v32 :: v33 :: v34 :: v35 :: v36 :: v37 :: v38 :: v39 :: v40 :: v41 :: v42 :: v43 :: v44 :: v45 :: v46 :: v47 :: v48 :: v49 :: v50 :: v51 :: v52 :: v53 :: v54 :: v55 :: v56 :: v57 :: v58 :: v59 :: s60 :: s61 :: s62 :: []), []⟩ w3) :
    Code.wp Tryz.prog (Code.loop growLp) Q ⟨List.toArray ((.pointer (some ⟨g, 0, none⟩)) :: (.int .i64 (m : Int)) :: s2 :: s3 :: s4 :: (.slice D 1 cD) :: (.int .i64 1) :: s7 :: s8 :: s9 :: s10 :: s11 :: s12 :: s13 :: s14 :: s15 :: s16 :: s17 :: s18 :: s19 :: s20 :: s21 :: s22 :: s23 :: s24 :: s25 :: s26 :: s27 :: s28 :: s29 :: s30 :: s31 :: s32 :: s33 :: s34 :: s35 :: s36 :: s37 :: s38 :: s39 :: s40 :: s41 :: s42 :: s43 :: s44 :: s45 :: s46 :: s47 :: s48 :: s49 :: s50 :: s51 :: s52 :: s53 :: s54 :: s55 :: s56 :: s57 :: s58 :: s59 :: s60 :: s61 :: s62 :: []), []⟩ w := by
  have HC0 := Lib.hid hc
  have HO0 := Lib.hid hO
  have HX := Lib.hid @hexit
  clear hc hO hexit
  conv => arg 2; arg 1; whnf
  go_loopw [6, 5] (fun e6 e5 wr => ∃ (i k cq : Nat) (E : Option Addr) (ys : List C), i ≤ m ∧ 1 ≤ i ∧ e6 = .int .i64 i ∧ e5 = .slice E k cq ∧ 1 ≤ k ∧ k ≤ i ∧ wr.ownsRow base 80 2 (.slice E k cq) k (vC ys) ∧ (∀ d ∈ ys, (0 ≤ d.1 ∧ d.1 ≤ 7) ∧ (0 ≤ d.2 ∧ d.2 ≤ 7)) ∧ Cur wr g A n c bs ∧ FrG base g w wr) (fun e6 _ _ => m - (intOf e6).toNat)
  case atStart => exact ⟨1, 1, cD, D, [(3, 3)], hm, Nat.le_refl _, rfl, rfl, Nat.le_refl _, Nat.le_refl _, HO0.out, by simp, HC0.out, FrG.refl _ _ _⟩
  case round =>
    clear HC0 HO0
    obtain ⟨i, k, cq, E, ys, hi, hi1', rfl, rfl, hk1, hki, hO, hin, hc, hfr⟩ := hrel
    have HO := Lib.hid hO
    have HIN := Lib.hid hin
    have HC := Lib.hid hc
    have HFR := Lib.hid hfr
    clear hO hin hc hfr
    by_cases hlt : i < m
    · have hi0 : (0 : Int) ≤ (i : Int) := by omega
      have hi1 : (i : Int) < (m : Int) := by omega
      go_wp2_with fail
      refine (l1Below_s A n c g k bs wr HC.out hn hk1 (by omega)).mono ?_
      rintro e w1 ⟨r, rfl, hr, hc1, hg1⟩
      have hEg : ∀ b, ob E = some b → b ≠ g := fun b e r => by have := (own_lt HO.out b e).1; omega
      have hO1 := own_keptD HO.out hg1 (fun b e r => hEg b e (by injection r with r; exact r.symm))
      have hyl : ys.length = k := by have := own_len hO1; rw [vC_length] at this; omega
      have hrl : r < ys.length := by omega
      have hr0 : (0 : Int) ≤ (r : Int) := by omega
      have hrk : (r : Int) < (k : Int) := by omega
      obtain ⟨ge, oe, hEe, hge, d1, d2⟩ := RdC.at_ (Rd.of_own hO1) hrl
      obtain ⟨px, hpx⟩ : ∃ px, ys[r].1 = px := ⟨_, rfl⟩
      obtain ⟨py, hpy⟩ : ∃ py, ys[r].2 = py := ⟨_, rfl⟩
      have hpin := HIN.out _ (List.getElem_mem hrl)
      rw [hpx] at d1 hpin
      rw [hpy] at d2 hpin
      have hbs1 : base ≤ wr.heap.size := Nat.le_trans hbase HFR.out.size
      have hbs2 : base ≤ w1.heap.size := Nat.le_trans hbs1 hg1.size
      have HFR1 := Lib.hid (HFR.out.draw hg1 hbs1)
      have HC1 := Lib.hid hc1
      have HO1 := Lib.hid hO1
      have HYL := Lib.hid hyl
      subst hEe
      clear hc1 hg1 hO1 hyl hpx hpy HFR HO HC hEg
      go_wp2_with fail
      have hbx := Blk.new w1 80 #[.int .i64 px, .int .i64 py]
      refine (l1Below_s A n c g 4 bs _ (HC1.out.below (bel_alloc (Below.refl _ _) _)) hn (by omega) (by omega)).mono ?_
      rintro e w2 ⟨d, rfl, hd, hc2, hg2⟩
      have hbx2 := hbx.grown hg2 (fun e => by injection e with e; omega)
      have x0 : w2.cell? ⟨w1.heap.size, 0, none⟩ = some (.int .i64 px) := by simpa using hbx2.cell 0
      have x1 : w2.cell? ⟨w1.heap.size, 1, none⟩ = some (.int .i64 py) := by simpa using hbx2.cell 1
      have xl := hbx2.lt
      have hws : (w1.alloc (.cells #[.int .i64 px, .int .i64 py] 80)).heap.size = w1.heap.size + 1 := by simp
      have HFR2 := Lib.hid ((HFR1.out.below (bel_alloc (Below.refl _ _) (.cells #[.int .i64 px, .int .i64 py] 80)) hbs2).draw hg2 (by omega))
      have HO2 := Lib.hid (own_keptD (own_keep HO1.out (bel_alloc (Below.refl _ _) (.cells #[.int .i64 px, .int .i64 py] 80))) hg2 (fun b e r => by have := (own_lt HO1.out b e).1; injection r with r; omega))
      have HC2 := Lib.hid hc2
      have hbs3 : base ≤ w2.heap.size := by have := hg2.size; omega
      obtain ⟨da, db, e1, e2, hd1, hd2⟩ : ∃ da db : Int, ((1 : Int) - (d : Int)).tmod 2 = da ∧ ((2 : Int) - (d : Int)).tmod 2 = db ∧ (-1 ≤ da ∧ da ≤ 1) ∧ (-1 ≤ db ∧ db ≤ 1) := by
        rcases (by omega : d = 0 ∨ d = 1 ∨ d = 2 ∨ d = 3) with rfl | rfl | rfl | rfl
        · exact ⟨1, 0, by decide, by decide, by omega, by omega⟩
        · exact ⟨0, 1, by decide, by decide, by omega, by omega⟩
        · exact ⟨-1, 0, by decide, by decide, by omega, by omega⟩
        · exact ⟨0, -1, by decide, by decide, by omega, by omega⟩
      obtain ⟨a0, ha0⟩ : ∃ a0, px + da = a0 := ⟨_, rfl⟩
      obtain ⟨b0, hb0⟩ : ∃ b0, py + db = b0 := ⟨_, rfl⟩
      have q1 : IntKind.i64.wrap ((1 : Int) - (d : Int)) = (1 : Int) - (d : Int) := Go.IntWalk.i64_in _ (by omega)
      have q2 : IntKind.i64.wrap ((2 : Int) - (d : Int)) = (2 : Int) - (d : Int) := Go.IntWalk.i64_in _ (by omega)
      have q3 : IntKind.i64.wrap a0 = a0 := Go.IntWalk.i64_in _ (by omega)
      have q4 : IntKind.i64.wrap b0 = b0 := Go.IntWalk.i64_in _ (by omega)
      have q5 : IntKind.i64.wrap da = da := Go.IntWalk.i64_in _ (by omega)
      have q6 : IntKind.i64.wrap db = db := Go.IntWalk.i64_in _ (by omega)
      have HPI := Lib.hid hpin
      clear hc2 hg2 hbx hbx2 HFR1 HO1 HC1 d1 d2 hge hd hpin hws
      go_wp2_with fail
      have hby := Blk.new w2 80 #[.int .i64 a0, .int .i64 b0]
      obtain ⟨w3, hw3⟩ : ∃ w3, w2.alloc (.cells #[.int .i64 a0, .int .i64 b0] 80) = w3 := ⟨_, rfl⟩
      have hb23 : Below w2.heap.size w2 w3 := by rw [← hw3]; exact bel_alloc (Below.refl _ _) _
      rw [hw3] at hby ⊢
      have HBY := Lib.hid hby
      have HB23 := Lib.hid hb23
      clear hby hb23 hw3 e1 e2 ha0 hb0 q1 q2 q3 q4 q5 q6 x0 x1 xl
      by_cases hin1 : 0 ≤ a0 ∧ a0 ≤ 7
      · refine (l1In_t a0 0 7 w3 hin1.1 hin1.2).mono ?_
        rintro e w4 ⟨rfl, hb4⟩
        have HB4 := Lib.hid (bel_trans HB23.out hb4)
        have hby4 := HBY.out.below hb4
        have y1 : w4.cell? ⟨w2.heap.size, 1, none⟩ = some (.int .i64 b0) := by simpa using hby4.cell 1
        have yl := hby4.lt
        have HBY4 := Lib.hid hby4
        clear hb4 hby4 HBY
        go_wp2_with fail
        by_cases hin2 : 0 ≤ b0 ∧ b0 ≤ 7
        · refine (l1In_t b0 0 7 w4 hin2.1 hin2.2).mono ?_
          rintro e w5 ⟨rfl, hb5⟩
          have HB5 := Lib.hid (bel_trans HB4.out hb5)
          have hby5 := HBY4.out.below hb5
          have z0 : w5.cell? ⟨w2.heap.size, 0, none⟩ = some (.int .i64 a0) := by simpa using hby5.cell 0
          have z1 : w5.cell? ⟨w2.heap.size, 1, none⟩ = some (.int .i64 b0) := by simpa using hby5.cell 1
          have zl := hby5.lt
          have HBY5 := Lib.hid hby5
          have HO5 := Lib.hid (own_keep HO2.out HB5.out)
          clear hb5 hby5 y1 yl HBY4
          go_wp2_with fail
          refine (HasCell_s _ k cq ys a0 b0 w5 (Rd.of_own HO5.out) HYL.out (by omega)).mono ?_
          rintro e w6 ⟨rfl, hb6⟩
          have HB6 := Lib.hid (bel_trans HB5.out hb6)
          have hby6 := HBY5.out.below hb6
          have z0 : w6.cell? ⟨w2.heap.size, 0, none⟩ = some (.int .i64 a0) := by simpa using hby6.cell 0
          have z1 : w6.cell? ⟨w2.heap.size, 1, none⟩ = some (.int .i64 b0) := by simpa using hby6.cell 1
          have zl := hby6.lt
          have HO6 := Lib.hid (own_keep HO5.out hb6)
          clear hb6 hby6 HO5
          cases hh : hasC ys a0 b0 with
          | true =>
            clear z0 z1 zl
            go_wp2_with fail
            exact ⟨⟨i + 1, k, cq, _, ys, by omega, by omega, by go_num, rfl, hk1, by omega, HO6.out, HIN.out, HC2.out.below HB6.out, HFR2.out.below HB6.out hbs3⟩, by simp [intOf]; omega⟩
          | false =>
            clear hh
            go_wp2_with (at_builtin; go_must (refine app_C _ rfl _ _ rfl base _ _ _ ys rfl (HO6.out.alloc _) _ _ _ [(a0, b0)] rfl (rd_newC _ _ _ _) rfl (by omega) (by have := HB6.out.size; simp; omega) ?_); intro D6 c6 w8 ho6 hg6 hat6; have HO8 := Lib.hid ho6; have HG8 := Lib.hid hg6; clear ho6 hg6 hat6)
            have hfr8 : FrG base g w w8 := ((HFR2.out.below HB6.out hbs3).below (bel_alloc (Below.refl _ _) _) (by have := HB6.out.size; omega)).row HG8.out (by have := HB6.out.size; simp; omega) (fun b e => (own_lt HO6.out b e).1)
            have hc8 : Cur w8 g A n c bs := ((HC2.out.below HB6.out).below (bel_alloc (Below.refl _ _) _)).row HG8.out (fun b e => by have := (own_lt HO6.out b e).1; omega) (fun h0 b e r => by have h1 := (own_lt HO6.out b e).1; have h2 := hAb h0 b r; omega)
            have hin8 : ∀ d ∈ ys ++ [(a0, b0)], (0 ≤ d.1 ∧ d.1 ≤ 7) ∧ (0 ≤ d.2 ∧ d.2 ≤ 7) := fun d hd => by
              rcases List.mem_append.1 hd with h | h
              · exact HIN.out d h
              · simp only [List.mem_singleton] at h; subst h; exact ⟨hin1, hin2⟩
            exact ⟨⟨i + 1, k + 1, c6, D6, _, by omega, by omega, by go_num, rfl, by omega, by omega, HO8.out, hin8, hc8, hfr8⟩, by simp [intOf]; omega⟩
        · refine (l1In_f b0 0 7 w4 hin2).mono ?_
          rintro e w5 ⟨rfl, hb5⟩
          have HB5 := Lib.hid (bel_trans HB4.out hb5)
          clear hb5 y1 yl HBY4
          go_wp2_with fail
          exact ⟨⟨i + 1, k, cq, _, ys, by omega, by omega, by go_num, rfl, hk1, by omega, own_keep HO2.out HB5.out, HIN.out, HC2.out.below HB5.out, HFR2.out.below HB5.out hbs3⟩, by simp [intOf]; omega⟩
      · refine (l1In_f a0 0 7 w3 hin1).mono ?_
        rintro e w4 ⟨rfl, hb4⟩
        have HB4 := Lib.hid (bel_trans HB23.out hb4)
        clear hb4
        go_wp2_with fail
        exact ⟨⟨i + 1, k, cq, _, ys, by omega, by omega, by go_num, rfl, hk1, by omega, own_keep HO2.out HB4.out, HIN.out, HC2.out.below HB4.out, HFR2.out.below HB4.out hbs3⟩, by simp [intOf]; omega⟩
    · obtain rfl : i = m := by omega
      have hi1 : ¬ (i : Int) < (i : Int) := by omega
      go_wp2_with fail
      exact HX.out _ _ _ _ _ _ _ _ _ _ _ _ _ _ _ _ _ _ _ _ _ _ _ _ _ _ _ _ _ _ _ _ _ _ _ _ _ _ _ _ _ _ _ _ _ _ _ _ _ _ _ _ _ _ _ _ HO.out hk1 (by omega) HIN.out HC.out HFR.out
theorem cornS_len2 (s : List C) : (cornS s).length = s.length := by unfold cornS; rw [mv_len]
set_option maxRecDepth 100000 in
set_option maxHeartbeats 1600000 in
theorem l2Grow_s (A : Option Addr) (n c g m : Nat) (bs : List UInt8) (w : World) (hc : Cur w g A n c bs) (hn : n ≤ 1048576) (hm : 1 ≤ m) (hm7 : m ≤ 7) :
    Calls Tryz.prog 106 #[.pointer (some ⟨g, 0, none⟩), .int .i64 (m : Int)] w (RetShp w g A n c bs) := by
  have hgl : g < w.heap.size := by obtain ⟨i, x, hi, hB⟩ := hc.blk; exact hB.lt
  have hAb : 0 < n → ∀ b, ob A = some b → b < w.heap.size := fun h0 b e => by
    obtain ⟨gb, off, hA, hgb, _⟩ := RdB.at_ hc.rd (show 0 < bs.length by rw [hc.len]; exact h0)
    subst hA
    simp only [ob, Option.map_some, Option.some.injEq] at e
    omega
  have HC := Lib.hid (hc.below (bel_alloc (Below.refl _ _) (.cells #[.int .i64 3, .int .i64 3] 80)))
  have HAB := Lib.hid hAb
  have HO0 : Hid ((w.alloc (.cells #[.int .i64 3, .int .i64 3] 80)).ownsRow w.heap.size 80 2 (.slice (some ⟨w.heap.size, 0, none⟩) 1 1) 1 (vC [((3 : Int), (3 : Int))])) := own_newC w 80 3 3 (Nat.le_refl _)
  clear hc hAb
  go_enter Tryz.func106, Tryz.ntmps106
  go_wp2_with fail
  refine growLoop HAB.out HC.out hn hm hm7 HO0.out hgl (by simp) ?_
  intro _ _ _ _ _ _ _ _ _ _ _ _ _ _ _ _ _ _ _ _ _ _ _ _ _ _ _ _ _ _ _ _ _ _ _ _ _ _ _ _ _ _ _ _ _ _ _ _ _ _ _ D k c' ys w3 hO hk1 hk7 hin hc3 hfr
  have HO := Lib.hid hO
  have HIN := Lib.hid hin
  have HC3 := Lib.hid hc3
  have hfr3 : FrG w.heap.size g w w3 := ⟨hfr.os, hfr.tape, hfr.output, Nat.le_trans (by simp) hfr.size, fun b hb hg => (hfr.block b hb hg).trans (Below.heap_alloc w _ b hb)⟩
  have HFR := Lib.hid hfr3
  have hyl : ys.length = k := by have := own_len hO; rw [vC_length] at this; omega
  have HYL := Lib.hid hyl
  clear hO hin hc3 hfr hfr3 hyl
  go_wp2_with fail
  refine (SortCells_s D k c' ys w3 (Rd.of_own HO.out) HYL.out (by omega)).mono ?_
  rintro e w4 ⟨D4, k4, c4, rfl, hO4, hb4⟩
  have hl4 : (sortC ys).length = k4 := by have := own_len hO4; rw [vC_length] at this; omega
  have hk4 := sortC_len ys
  have hk41 := sortC_ne (s := ys) (by rw [HYL.out]; omega)
  have HO4 := Lib.hid hO4
  have HB4 := Lib.hid hb4
  have HL4 := Lib.hid hl4
  have hk4b : 1 ≤ k4 ∧ k4 ≤ 7 := by have := HYL.out; omega
  have hsm : ∀ d ∈ sortC ys, small d := fun d hd => by
    have h := HIN.out d ((sortC_mem ys d).1 hd)
    unfold small
    omega
  have HSM := Lib.hid hsm
  clear hO4 hb4 hl4 hk4 hk41 hsm
  go_wp2_with fail
  refine (l2Corner_s D4 k4 c4 (sortC ys) w4 (Rd.of_own HO4.out) HL4.out (by omega) HSM.out).mono ?_
  rintro e w5 ⟨D5, k5, c5, rfl, hO5, hb5⟩
  obtain rfl : k5 = k4 := by have := own_len hO5; rw [vC_length, cornS_len2, HL4.out] at this; omega
  have hsz3 : w.heap.size ≤ w3.heap.size := HFR.out.size
  have hsz4 : w.heap.size ≤ w4.heap.size := Nat.le_trans hsz3 HB4.out.size
  have HO5 := Lib.hid (own_mono2D hO5 hsz4)
  have HC5 := Lib.hid ((HC3.out.below HB4.out).below hb5)
  have HF5 := Lib.hid ((HFR.out.below HB4.out hsz3).below hb5 hsz4).grown
  clear hO5 hb5
  go_wp2_with fail
  go_ret
  exact ⟨D5, k5, c5, _, rfl, HO5.out, by omega, by omega, HC5.out, HF5.out⟩
theorem l2Shape_s (A : Option Addr) (n c g : Nat) (bs : List UInt8) (w : World) (hc : Cur w g A n c bs) (hn : n ≤ 1048576) :
    Calls Tryz.prog 85 #[.pointer (some ⟨g, 0, none⟩)] w (RetShp w g A n c bs) := by
  have HC := Lib.hid hc
  clear hc
  go_enter Tryz.func85, Tryz.ntmps85
  go_wp2_with fail
  refine (l1Below_s A n c g 7 bs w HC.out hn (by omega) (by omega)).mono ?_
  rintro e w1 ⟨q, rfl, hq, hc1, hg1⟩
  have HC1 := Lib.hid hc1
  have HG1 := Lib.hid hg1
  obtain ⟨m, hm⟩ : ∃ m, 1 + q = m := ⟨_, rfl⟩
  have hmI : (1 : Int) + (q : Int) = (m : Int) := by omega
  have em : IntKind.i64.wrap (m : Int) = (m : Int) := Go.IntWalk.i64_in _ (by omega)
  have hm1 : 1 ≤ m ∧ m ≤ 7 := by omega
  clear hc1 hg1 hm hq
  go_wp2_with fail
  refine (l2Grow_s A n c g m bs w1 HC1.out hn hm1.1 hm1.2).mono ?_
  rintro e w2 ⟨D, k, cD, xs, rfl, hO, hk1, hk7, hc2, hg2⟩
  have HO := Lib.hid (own_mono2D hO HG1.out.size)
  have HC2 := Lib.hid hc2
  have HG2 := Lib.hid (grown_trans HG1.out hg2)
  clear hO hc2 hg2
  go_wp2_with fail
  go_ret
  exact ⟨D, k, cD, xs, rfl, HO.out, hk1, hk7, HC2.out, HG2.out⟩
end Go.Proofs.YtcgjnonlndaoeaaGreat

/- The reference's draws of lists of cells: shapes and their neighbours. -/
namespace Go.Proofs.YtcgjnonlndaoeaaGreat
open Go.RowKit
set_option linter.unusedVariables false
attribute [local go_sem ↓] Go.wp_at_zero Go.wp_at_succ
/-- A list of cells was drawn: it can be read. -/
def RetAny (w : World) (g : Nat) (A : Option Addr) (n c : Nat) (bs : List UInt8) (e : Ending) (w' : World) : Prop :=
  ∃ D k cD xs, e = .returned (.slice D k cD) ∧ Rd w' D (vC xs) ∧ xs.length = k ∧ k ≤ 8 ∧ k ≤ cD ∧ Cur w' g A n c bs ∧ w.grownBy w' (some g) ∧ ∀ b, ob D = some b → b ≠ g ∧ w.heap.size ≤ b
theorem own_capD {w : World} {base e n c size : Nat} {A : Option Addr} {xs : List Value} (h : w.ownsRow base e size (.slice A n c) n xs) : n ≤ c := by
  rcases h.2 with ⟨hv, hn⟩ | ⟨g, cap, cur, hv, hb, hg, hnc, _⟩
  · omega
  · injection hv with h1 h2 h3
    omega
theorem own_someD {w : World} {base e n c size : Nat} {A : Option Addr} {xs : List Value} (h : w.ownsRow base e size (.slice A n c) n xs) (hn : 1 ≤ n) : ∃ g, A = some ⟨g, 0, none⟩ ∧ base ≤ g ∧ g < w.heap.size := by
  rcases h.2 with ⟨hv, h0⟩ | ⟨g, cap, cur, hv, hb, hg, hnc, _⟩
  · omega
  · injection hv with h1 h2 h3
    exact ⟨g, h1, hb, (Array.getElem?_eq_some_iff.1 hg).1⟩
theorem rd_tail {w : World} {g c : Nat} {xs : List C} (h : Rd w (some ⟨g, 0, none⟩) (vC xs)) (hl : xs.length ≤ c) (h1 : ¬c = 1) : Rd w (some ⟨g, 0 + 2, none⟩) (vC (xs.drop 1)) := by
  have h2 := Rd.drop h 2 (2 * c) (by rw [vC_length]; omega)
  rw [if_neg (by omega)] at h2
  have e2 : (some ⟨g, 0, none⟩ : Option Addr).map (·.add 2) = some ⟨g, 0 + 2, none⟩ := by simp only [Option.map_some]; unfold Addr.add; split <;> simp_all
  rw [e2] at h2
  cases xs with
  | nil => exact h2
  | cons x xs => exact h2
/-- One of a list's numbers was drawn. -/
def RetPick (w : World) (g : Nat) (A : Option Addr) (n c : Nat) (bs : List UInt8) (l : List Int) (e : Ending) (w' : World) : Prop :=
  ∃ v, e = .returned (.int .i64 v) ∧ v ∈ l ∧ Cur w' g A n c bs ∧ w.grownBy w' (some g)
set_option maxRecDepth 100000 in
theorem l1PickInt_s (A B : Option Addr) (n c g m d : Nat) (l : List Int) (bs : List UInt8) (w : World) (hc : Cur w g A n c bs) (hn : n ≤ 1048576) (hr : Rd w B (vI l)) (hl : l.length = m) (hm : 1 ≤ m) (hm2 : m ≤ 256) (hB : ∀ b, ob B = some b → b ≠ g) :
    Calls Tryz.prog 87 #[.pointer (some ⟨g, 0, none⟩), .slice B m d] w (RetPick w g A n c bs l) := by
  have HC := Lib.hid hc
  have HR := Lib.hid hr
  have HL := Lib.hid hl
  clear hc hr hl
  go_enter Tryz.func87, Tryz.ntmps87
  go_wp2_with fail
  refine (l1Below_s A n c g m bs w HC.out hn hm hm2).mono ?_
  rintro e w2 ⟨q, rfl, hq, hc2, hg2⟩
  have hr2 := HR.out.grown hg2 (fun b e r => hB b e (Option.some.inj r))
  obtain ⟨g1, o1, rfl, hg1, hx⟩ := RdI.at_ hr2 (show q < l.length by rw [HL.out]; exact hq)
  have HM := Lib.hid (List.getElem_mem (show q < l.length by rw [HL.out]; exact hq))
  obtain ⟨v, hv⟩ : ∃ v, l[q]'(by rw [HL.out]; exact hq) = v := ⟨_, rfl⟩
  rw [hv] at hx HM
  have hq0 : (0 : Int) ≤ (q : Int) := by omega
  have hq1 : (q : Int) < (m : Int) := by omega
  have HC2 := Lib.hid hc2
  have HG2 := Lib.hid hg2
  clear hc2 hg2 hr2 hv hq
  go_wp2_with fail
  go_ret
  exact ⟨v, rfl, HM.out, HC2.out, HG2.out⟩
set_option maxRecDepth 100000 in
set_option maxHeartbeats 1600000 in
theorem l2Any_s (A : Option Addr) (n c g : Nat) (bs : List UInt8) (w : World) (hc : Cur w g A n c bs) (hn : n ≤ 1048576) :
    Calls Tryz.prog 64 #[.pointer (some ⟨g, 0, none⟩)] w (RetAny w g A n c bs) := by
  have hgl : g < w.heap.size := by obtain ⟨i, x, hi, hB⟩ := hc.blk; exact hB.lt
  have hAb : 0 < n → ∀ b, ob A = some b → b < w.heap.size := fun h0 b e => by
    obtain ⟨gb, off, hA, hgb, _⟩ := RdB.at_ hc.rd (show 0 < bs.length by rw [hc.len]; exact h0)
    subst hA
    simp only [ob, Option.map_some, Option.some.injEq] at e
    omega
  have HC := Lib.hid hc
  have HAB := Lib.hid hAb
  clear hc hAb
  go_enter Tryz.func64, Tryz.ntmps64
  go_wp2_with fail
  refine (l2Shape_s A n c g bs w HC.out hn).mono ?_
  rintro e w1 ⟨D, k, cD, xs, rfl, hO, hk1, hk7, hc1, hg1⟩
  have HO1 := Lib.hid hO
  have HC1 := Lib.hid hc1
  have HG1 := Lib.hid hg1
  have hxl : xs.length = k := by have := own_len hO; rw [vC_length] at this; omega
  have HXL := Lib.hid hxl
  have hcap := own_capD hO
  clear hO hc1 hg1 hxl
  go_wp2_with fail
  refine (l1Below_s A n c g 12 bs w1 HC1.out hn (by omega) (by omega)).mono ?_
  rintro e w2 ⟨q, rfl, hq, hc2, hg2⟩
  have hDg : ∀ b, ob D = some b → b ≠ g := fun b e => by have := (own_lt HO1.out b e).1; omega
  have HDG := Lib.hid hDg
  have HO2 := Lib.hid (own_keptD HO1.out hg2 (fun b e r => hDg b e (by injection r with r; exact r.symm)))
  have HC2 := Lib.hid hc2
  have HG2 := Lib.hid (grown_trans HG1.out hg2)
  have hsz2 : w.heap.size ≤ w2.heap.size := HG2.out.size
  clear hc2 hg2 HO1 HC1 HG1 hDg
  by_cases h0 : q = 0
  · have e0 : ((q : Int) == 0) = true := by simp [h0]
    clear h0 hq
    go_wp2_with fail
    refine (l1Below_s A n c g 9 bs w2 HC2.out hn (by omega) (by omega)).mono ?_
    rintro e w3 ⟨q1, rfl, hq1, hc3, hg3⟩
    have HC3 := Lib.hid hc3
    have HG3 := Lib.hid (grown_trans HG2.out hg3)
    have HO3 := Lib.hid (own_keptD HO2.out hg3 (fun b e r => HDG.out b e (by injection r with r; exact r.symm)))
    have w1' : IntKind.i64.wrap ((q1 : Int) - 1) = (q1 : Int) - 1 := Go.IntWalk.i64_in _ (by omega)
    clear hc3 hg3
    go_wp2_with fail
    refine (l1Below_s A n c g 9 bs w3 HC3.out hn (by omega) (by omega)).mono ?_
    rintro e w4 ⟨q2, rfl, hq2, hc4, hg4⟩
    have HC4 := Lib.hid hc4
    have HG4 := Lib.hid (grown_trans HG3.out hg4)
    have HO4 := Lib.hid (own_keptD HO3.out hg4 (fun b e r => HDG.out b e (by injection r with r; exact r.symm)))
    have hsz4 : w.heap.size ≤ w4.heap.size := HG4.out.size
    clear hc4 hg4
    go_wp2_with (at_builtin; go_must (refine app_C _ rfl _ _ rfl w.heap.size _ _ _ xs rfl (HO4.out.alloc _) _ _ _ [((q1 : Int) - 1, (q2 : Int))] rfl (rd_newC _ _ _ _) rfl (by omega) (by simp; omega) ?_); intro D6 c6 w8 ho6 hg6 hat6; have HO8 := Lib.hid ho6; have HG8 := Lib.hid hg6; clear ho6 hg6 hat6)
    go_ret
    have hlt : ∀ b, ob D = some b → w.heap.size ≤ b := fun b e => (own_lt HO4.out b e).1
    have hfr : FrG w.heap.size g w w8 := (((FrG.refl _ g w).draw HG4.out (Nat.le_refl _)).below (bel_alloc (Below.refl _ _) _) hsz4).row HG8.out (by simp; omega) hlt
    have hc8 : Cur w8 g A n c bs := (HC4.out.below (bel_alloc (Below.refl _ _) _)).row HG8.out (fun b e => HDG.out b e) (fun h0 b e r => by have h1 := hlt b e; have h2 := HAB.out h0 b r; omega)
    exact ⟨D6, k + 1, c6, _, rfl, Rd.of_own HO8.out, by have := HXL.out; simp; omega, by omega, own_capD HO8.out, hc8, hfr.grown, fun b e => by have := (own_lt HO8.out b e).1; omega⟩
  · have e0 : ((q : Int) == 0) = false := by simp only [beq_eq_false_iff_ne]; omega
    by_cases h1 : q = 1
    · have e1 : ((q : Int) == 1) = true := by simp [h1]
      clear h0 h1 hq
      go_wp2_with fail
      refine (l1Below_s A n c g 8 bs w2 HC2.out hn (by omega) (by omega)).mono ?_
      rintro e w3 ⟨q1, rfl, hq1, hc3, hg3⟩
      have HC3 := Lib.hid hc3
      have HG3 := Lib.hid (grown_trans HG2.out hg3)
      have HO3 := Lib.hid (own_keptD HO2.out hg3 (fun b e r => HDG.out b e (by injection r with r; exact r.symm)))
      clear hc3 hg3
      go_wp2_with fail
      refine (l1Below_s A n c g 8 bs w3 HC3.out hn (by omega) (by omega)).mono ?_
      rintro e w4 ⟨q2, rfl, hq2, hc4, hg4⟩
      have HC4 := Lib.hid hc4
      have HG4 := Lib.hid (grown_trans HG3.out hg4)
      have HO4 := Lib.hid (own_keptD HO3.out hg4 (fun b e r => HDG.out b e (by injection r with r; exact r.symm)))
      have hsz4 : w.heap.size ≤ w4.heap.size := HG4.out.size
      clear hc4 hg4
      go_wp2_with (at_builtin; go_must (refine app_C _ rfl _ _ rfl w.heap.size _ _ _ xs rfl (HO4.out.alloc _) _ _ _ [((q1 : Int), (q2 : Int))] rfl (rd_newC _ _ _ _) rfl (by omega) (by simp; omega) ?_); intro D6 c6 w8 ho6 hg6 hat6; have HO8 := Lib.hid ho6; have HG8 := Lib.hid hg6; clear ho6 hg6 hat6)
      have hlt : ∀ b, ob D = some b → w.heap.size ≤ b := fun b e => (own_lt HO4.out b e).1
      have HFR := Lib.hid ((((FrG.refl _ g w).draw HG4.out (Nat.le_refl _)).below (bel_alloc (Below.refl _ _) _) hsz4).row HG8.out (by simp; omega) hlt)
      have HC8 := Lib.hid (Cur.row (HC4.out.below (bel_alloc (Below.refl _ _) _)) HG8.out (fun b e => HDG.out b e) (fun h0 b e r => by have h1 := hlt b e; have h2 := HAB.out h0 b r; omega))
      have hsz8 : w.heap.size ≤ w8.heap.size := HFR.out.size
      refine (SortCells_s D6 (k + 1) c6 (xs ++ [((q1 : Int), (q2 : Int))]) w8 (Rd.of_own HO8.out) (by have := HXL.out; simp; omega) (by omega)).mono ?_
      rintro e w9 ⟨D9, k9, c9, rfl, ho9, hb9⟩
      have hl9 := own_len ho9
      have hx9 : (sortC (xs ++ [((q1 : Int), (q2 : Int))])).length ≤ k + 1 := by have h1 := sortC_len (xs ++ [((q1 : Int), (q2 : Int))]); have := HXL.out; simp at h1; omega
      rw [vC_length] at hl9
      have HO9 := Lib.hid ho9
      have HB9 := Lib.hid hb9
      have HX9 := Lib.hid hx9
      clear ho9 hb9 hx9
      go_wp2_with fail
      go_ret
      exact ⟨D9, k9, c9, _, rfl, Rd.of_own HO9.out, by omega, by have := HX9.out; omega, own_capD HO9.out, HC8.out.below HB9.out, (HFR.out.below HB9.out hsz8).grown, fun b e => by have := (own_lt HO9.out b e).1; omega⟩
    · have e1 : ((q : Int) == 1) = false := by simp only [beq_eq_false_iff_ne]; omega
      by_cases h2 : q = 2
      · have e2 : ((q : Int) == 2) = true := by simp [h2]
        clear h0 h1 h2 hq
        obtain ⟨gD, hD, hgD, hgl2⟩ := own_someD HO2.out hk1
        subst hD
        go_wp2_with fail
        · have e1 : k = 1 := by omega
          go_ret
          exact ⟨_, k - 1, _, [], rfl, .inl rfl, by rw [e1]; rfl, by omega, by omega, HC2.out, HG2.out, fun b e => by simp only [ob, Option.map_some, Option.some.injEq] at e; omega⟩
        · go_ret
          exact ⟨_, k - 1, cD - 1, xs.drop 1, rfl, rd_tail (Rd.of_own HO2.out) (by rw [HXL.out]; exact hcap) h, by rw [List.length_drop, HXL.out], by omega, by omega, HC2.out, HG2.out, fun b e => by simp only [ob, Option.map_some, Option.some.injEq] at e; omega⟩
      · have e2 : ((q : Int) == 2) = false := by simp only [beq_eq_false_iff_ne]; omega
        by_cases h3 : q = 3
        · have e3 : ((q : Int) == 3) = true := by simp [h3]
          clear h0 h1 h2 h3 hq
          obtain ⟨gD, hD, hgD, hgl2⟩ := own_someD HO2.out hk1
          subst hD
          go_wp2_with fail
          refine (l1PickInt_s A (some ⟨w2.heap.size, 0, none⟩) n c g 3 3 [-1, 8, 9223372036854775807] bs _ (HC2.out.below (bel_alloc (Below.refl _ _) _)) hn (rd_new w2 3 _) rfl (by omega) (by omega) (fun b e => by simp only [ob, Option.map_some, Option.some.injEq] at e; omega)).mono ?_
          rintro e w3 ⟨v, rfl, hv, hc3, hg3⟩
          have HC3 := Lib.hid hc3
          have HFR3 := Lib.hid (((FrG.refl w.heap.size g w).draw HG2.out (Nat.le_refl _)).below (bel_alloc (Below.refl _ _) (.cells #[.int .i64 (-1), .int .i64 8, .int .i64 9223372036854775807] 3)) hsz2)
          have HO3 := Lib.hid (own_keptD (own_keep HO2.out (bel_alloc (Below.refl _ _) (.cells #[.int .i64 (-1), .int .i64 8, .int .i64 9223372036854775807] 3))) hg3 (fun b e r => HDG.out b e (by injection r with r; exact r.symm)))
          have HFR4 := Lib.hid (HFR3.out.draw hg3 (by simp; omega))
          have hbx : w3.frozen? ⟨gD, 0, none⟩ = false := HO3.out.frozenAt 0
          obtain ⟨u, hbc⟩ : ∃ u, w3.cell? ⟨gD, 0, none⟩ = some u := by
            obtain ⟨g1, o1, e1, _, a1, a2⟩ := RdC.at_ (Rd.of_own HO3.out) (show 0 < xs.length by rw [HXL.out]; omega)
            simp only [Option.some.injEq, Addr.mk.injEq, and_true] at e1
            obtain ⟨rfl, rfl⟩ := e1
            exact ⟨_, a1⟩
          clear hc3 hg3
          go_wp2_with fail
          have hst := (HO3.out.stored 0 (.int .i64 v)).1
          have hk := grown_set (World.grownBy.refl w3 (some gD)) (p := ⟨gD, 0, none⟩) rfl (.int .i64 v)
          have hsz3 : w.heap.size ≤ w3.heap.size := HFR4.out.size
          have hc4 : Cur (w3.setCell ⟨gD, 0, none⟩ (.int .i64 v)) g A n c bs := HC3.out.row hk (fun b e => by have := HDG.out gD rfl; injection e with e; omega) (fun h0 b e r => by have h2 := HAB.out h0 b r; injection e with e; omega)
          have hf4 := (HFR4.out.row hk hsz3 (fun b e => by injection e with e; omega)).grown
          obtain ⟨x, ys, rfl⟩ : ∃ x ys, xs = x :: ys := by
            cases xs with
            | nil => have := HXL.out; simp at this; omega
            | cons x ys => exact ⟨x, ys, rfl⟩
          go_ret
          exact ⟨_, k, cD, (v, x.2) :: ys, rfl, Rd.of_own hst, by rw [← HXL.out]; rfl, by omega, hcap, hc4, hf4, fun b e => by simp only [ob, Option.map_some, Option.some.injEq] at e; omega⟩
        · have e3 : ((q : Int) == 3) = false := by simp only [beq_eq_false_iff_ne]; omega
          clear h0 h1 h2 h3 hq
          go_wp2_with fail
          go_ret
          exact ⟨D, k, cD, _, rfl, Rd.of_own HO2.out, HXL.out, by omega, hcap, HC2.out, HG2.out, fun b e => ⟨HDG.out b e, (own_lt HO2.out b e).1⟩⟩
end Go.Proofs.YtcgjnonlndaoeaaGreat

/- The reference's shapes out of texts: what a draw wants of them. -/
namespace Go.Proofs.YtcgjnonlndaoeaaGreat
open Go.RowKit
set_option linter.unusedVariables false
attribute [local go_sem ↓] Go.wp_at_zero Go.wp_at_succ

/-- Cells in a corner of the board. -/
def cor7 (c : C) : Prop := (0 ≤ c.1 ∧ c.1 ≤ 7) ∧ (0 ≤ c.2 ∧ c.2 ≤ 7)
theorem cornS_cor {xs : List C} (hs : isShape xs = true) : ∀ c ∈ cornS xs, cor7 c := by
  intro c hc
  have hl := shape_len hs
  unfold cornS at hc
  rw [mv_mem] at hc
  have h6 := shape_onB hs _ hc
  have h7 := minC_le (·.1) hc
  have h8 := minC_le (·.2) hc
  obtain ⟨a, ha, e⟩ := minC_at (·.1) (show 0 < xs.length by omega)
  obtain ⟨b, hb, f⟩ := minC_at (·.2) (show 0 < xs.length by omega)
  have h9 := shape_onB hs a ha
  have h10 := shape_onB hs b hb
  simp only [onB, Bool.and_eq_true, decide_eq_true_eq] at h6 h9 h10
  simp only at h7 h8
  unfold cor7
  omega
def RetCor (w : World) (e : Ending) (w' : World) : Prop := ∃ D k cD ys, e = .returned (.slice D k cD) ∧ Rd w' D (vC ys) ∧ ys.length = k ∧ k ≤ 8 ∧ (∀ c ∈ ys, cor7 c) ∧ Below w.heap.size w w'
set_option maxHeartbeats 800000 in
theorem CornerAny_s (A : Option Addr) (n c : Nat) (xs : List C) (w : World) (hr : Rd w A (vC xs)) (hl : xs.length = n) (hn : n ≤ 1099511627776) :
    Calls Tryz.prog 127 #[.slice A n c] w (RetCor w) := by
  have HL := Lib.hid hl
  have HR := Lib.hid hr
  clear hl hr
  cases hs : isShape xs with
  | false =>
    have HS := Lib.hid hs
    clear hs
    go_enter Tryz.func127, Tryz.ntmps127
    go_wp2_with fail
    refine (IsShape_s A n c xs _ HR.out HL.out hn).mono ?_
    rw [HS.out]
    rintro e w1 ⟨rfl, hb1⟩
    go_wp2_with fail
    go_ret
    exact ⟨_, 0, 0, [], rfl, .inl rfl, rfl, by omega, by simp, bel_alloc hb1 _⟩
  | true =>
    have hn8 := (shape_len hs).2
    have hsm := shape_small hs
    have hco := cornS_cor hs
    have hcl : (cornS xs).length = xs.length := mv_len _ _ _
    have HS := Lib.hid hs
    have HSM := Lib.hid hsm
    have HCO := Lib.hid hco
    rw [HL.out] at hn8 hcl
    have HCL := Lib.hid hcl
    clear hs hsm hco hcl
    go_enter Tryz.func127, Tryz.ntmps127
    go_wp2_with fail
    refine (IsShape_s A n c xs _ HR.out HL.out hn).mono ?_
    rw [HS.out]
    rintro e w1 ⟨rfl, hb1⟩
    go_wp2_with fail
    refine (l2Corner_s A n c xs _ (HR.out.below hb1) HL.out (by omega) HSM.out).mono ?_
    rintro e w2 ⟨D, m, cd, rfl, hO, hb2⟩
    obtain rfl : m = n := by have h1 := own_len hO; rw [vC_length, HCL.out] at h1; omega
    have HO := Lib.hid (Rd.of_own hO)
    clear hO
    go_wp2_with fail
    go_ret
    exact ⟨D, m, cd, _, rfl, HO.out, HCL.out, by omega, HCO.out, bel_trans hb1 hb2⟩
/-- A string, of no great length. -/
def RetStr (w : World) (e : Ending) (w' : World) : Prop := ∃ t : ByteArray, e = .returned (.string t) ∧ t.size ≤ 1000 ∧ Below w.heap.size w w'
set_option maxHeartbeats 1600000 in
theorem FormatShape_s (A : Option Addr) (n c : Nat) (xs : List C) (w : World) (hr : Rd w A (vC xs)) (hl : xs.length = n) (hn : n ≤ 1099511627776) :
    Calls Tryz.prog 112 #[.slice A n c] w (RetStr w) := by
  go_enter Tryz.func112, Tryz.ntmps112
  go_wp2_with fail
  refine (CornerAny_s A n c xs w hr hl hn).mono ?_
  rintro e w1 ⟨D, k, cD, ys, rfl, hrd, hyl, hk8, hco, hb1⟩
  have HR := Lib.hid hrd
  have HYL := Lib.hid hyl
  have HCO := Lib.hid hco
  have HB1 := Lib.hid hb1
  clear hr hl hrd hyl hco hb1
  go_wp2_with fail
  go_loopw [4, 5, 6, 7] (fun e4 e5 e6 e7 wr => ∃ (i x y : Nat) (t : ByteArray), i ≤ k ∧ x ≤ 7 + i ∧ y ≤ 7 ∧ t.size ≤ 15 * i + y ∧ e4 = .string t ∧ e5 = .int .i64 x ∧ e6 = .int .i64 y ∧ e7 = .int .i64 i ∧ Below w1.heap.size w1 wr) (fun _ _ _ e7 _ => k - (intOf e7).toNat)
  case atStart => exact ⟨0, 0, 0, _, Nat.zero_le _, by omega, by omega, by show 0 ≤ _; omega, rfl, rfl, rfl, rfl, Below.refl _ _⟩
  case round =>
    obtain ⟨i, x, y, t, hi, hx, hy, ht, rfl, rfl, rfl, rfl, hb⟩ := hrel
    by_cases hlt : i < k
    · have hi0 : (0 : Int) ≤ (i : Int) := by omega
      have hi1 : (i : Int) < (k : Int) := by omega
      have hky : i < ys.length := by rw [HYL.out]; exact hlt
      obtain ⟨g, off, hD, hg, c1, c2⟩ := RdC.at_ (HR.out.below hb) hky
      have hcc := HCO.out _ (List.getElem_mem hky)
      obtain ⟨⟨u, v⟩, huv⟩ : ∃ p, ys[i] = p := ⟨_, rfl⟩
      rw [huv] at c1 c2 hcc
      subst hD
      unfold cor7 at hcc
      simp only at hcc c1 c2
      obtain ⟨⟨hu0, hu7⟩, hv0, hv7⟩ := hcc
      clear huv
      have HB := Lib.hid hb
      clear hb
      go_wp2_with fail
      go_loopw [4, 5, 6] (fun e4 e5 e6 wq => ∃ (x2 y2 : Nat) (t2 : ByteArray), x2 ≤ 7 + i ∧ y2 ≤ 7 ∧ t2.size ≤ 15 * i + y2 ∧ e4 = .string t2 ∧ e5 = .int .i64 x2 ∧ e6 = .int .i64 y2 ∧ wq = wr) (fun _ _ e6 _ => 8 - (intOf e6).toNat)
      case atStart => exact ⟨x, y, t, hx, hy, ht, rfl, rfl, rfl, rfl⟩
      case round =>
        clear hx hy ht
        obtain ⟨x2, y2, t2, hx, hy, ht, rfl, rfl, rfl, rfl⟩ := hrel
        by_cases hyv : (y2 : Int) < v
        · have hsz : (t2.size : Int) + 1 ≤ 1000 := by omega
          go_wp2_with fail
          exact ⟨⟨0, y2 + 1, _, by omega, by omega, by show (t2 ++ _).size ≤ _; rw [ByteArray.size_append]; show t2.size + 1 ≤ _; omega, rfl, rfl, by go_num, trivial⟩, by simp [intOf]; omega⟩
        · have hsz : (t2.size : Int) + 1 ≤ 1000 := by omega
          go_wp2_with fail
          go_loopw [4, 5] (fun e4 e5 wq => ∃ (x3 : Nat) (t3 : ByteArray), x2 ≤ x3 ∧ (x3 ≤ 7 ∨ x3 = x2) ∧ t3.size + x2 ≤ 15 * i + y2 + x3 ∧ e4 = .string t3 ∧ e5 = .int .i64 x3 ∧ wq = wr) (fun _ e5 _ => 8 - (intOf e5).toNat)
          case atStart => exact ⟨x2, t2, Nat.le_refl _, .inr rfl, by omega, rfl, rfl, rfl⟩
          case round =>
            obtain ⟨x3, t3, h31, h32, h33, rfl, rfl, rfl⟩ := hrel
            by_cases hxu : (x3 : Int) < u
            · have hsz3 : (t3.size : Int) + 1 ≤ 1000 := by omega
              go_wp2_with fail
              exact ⟨⟨x3 + 1, _, by omega, by omega, by show (t3 ++ _).size + _ ≤ _; rw [ByteArray.size_append]; show t3.size + 1 + _ ≤ _; omega, rfl, by go_num, trivial⟩, by simp [intOf]; omega⟩
            · have hsz3 : (t3.size : Int) + 1 ≤ 1000 := by omega
              go_wp2_with fail
              exact ⟨⟨i + 1, x3 + 1, y2, _, by omega, by omega, hy, by show (t3 ++ _).size ≤ _; rw [ByteArray.size_append]; show t3.size + 1 ≤ _; omega, rfl, by go_num, rfl, by go_num, HB.out⟩, by simp [intOf]; omega⟩
    · have hi1 : ¬ (i : Int) < (k : Int) := by omega
      go_wp2_with fail
      go_ret
      exact ⟨t, rfl, by omega, bel_trans HB1.out hb⟩
theorem u8_neq {b k : UInt8} (h : ¬ b = k) : ((b.toNat : Int) == (k.toNat : Int)) = false := by
  rw [beq_eq_false_iff_ne]
  intro e
  exact h (UInt8.toNat_inj.1 (by omega))
def RetPS (w : World) (e : Ending) (w' : World) : Prop := ∃ D k cD xs b, e = .returned (.tuple #[.slice D k cD, .bool b]) ∧ Rd w' D (vC xs) ∧ xs.length = k ∧ k ≤ 70 ∧ k ≤ cD ∧ Below w.heap.size w w' ∧ ∀ b, ob D = some b → w.heap.size ≤ b
set_option maxHeartbeats 1600000 in
theorem ParseShape_s (t : ByteArray) (w : World) (h1 : 1 ≤ t.size) (h70 : t.size ≤ 70) :
    Calls Tryz.prog 105 #[.string t] w (RetPS w) := by
  have hini : (w.alloc (.cells #[] 80)).ownsRow w.heap.size 80 2 (.slice (some ⟨w.heap.size, 0, none⟩) 0 0) 0 (vC []) := own_new w _ 2 0 #[] rfl (by simp [maxLen]) (Nat.le_refl _)
  have HI := Lib.hid hini
  have hsz : (t.size : Int) ≤ 70 := by omega
  clear hini
  go_enter Tryz.func105, Tryz.ntmps105
  go_wp2_with fail
  go_loopw [4, 5, 6, 7] (fun e4 e5 e6 e7 wr => ∃ (i x y k cD : Nat) (D : Option Addr) (xs : List C), i ≤ t.size ∧ x ≤ i ∧ y ≤ i ∧ k ≤ i ∧ xs.length = k ∧ wr.ownsRow w.heap.size 80 2 (.slice D k cD) k (vC xs) ∧ e4 = .slice D k cD ∧ e5 = .int .i64 x ∧ e6 = .int .i64 y ∧ e7 = .int .i64 i ∧ Below w.heap.size w wr) (fun _ _ _ e7 _ => t.size - (intOf e7).toNat)
  case atStart => exact ⟨0, 0, 0, 0, 0, _, [], Nat.zero_le _, by omega, by omega, by omega, rfl, HI.out, rfl, rfl, rfl, rfl, bel_alloc (Below.refl _ _) _⟩
  case round =>
    clear HI
    obtain ⟨i, x, y, k, cD, D, xs, hi, hx, hy, hk, hxl, hO, rfl, rfl, rfl, rfl, hb⟩ := hrel
    have HO := Lib.hid hO
    have HXL := Lib.hid hxl
    have hcap := own_capD hO
    clear hO hxl
    by_cases hlt : i < t.size
    · have hi0 : (0 : Int) ≤ (i : Int) := by omega
      have hi1 : (i : Int) < (t.size : Int) := by omega
      by_cases e1 : t[i] = 35
      · have hsel : ((t[i].toNat : Int) == 35) = true := by rw [e1]; rfl
        have hsw : w.heap.size ≤ wr.heap.size := hb.size
        have hlt2 := (own_lt HO.out)
        clear e1
        go_wp2_with (at_builtin; go_must (refine app_C _ rfl _ _ rfl w.heap.size _ _ _ xs rfl (HO.out.alloc _) _ _ _ [((x : Int), (y : Int))] rfl (rd_newC _ _ _ _) rfl (by omega) (by simp; omega) ?_); intro D6 c6 w8 ho6 hg6 hat6; have HO8 := Lib.hid ho6; have HG8 := Lib.hid hg6; clear ho6 hg6 hat6)
        exact ⟨⟨i + 1, x + 1, y, k + 1, c6, D6, _, by omega, by omega, by omega, by omega, by have := HXL.out; simp; omega, HO8.out, rfl, by go_num, rfl, by go_num, bel_app (bel_alloc hb _) HG8.out (fun b e => (hlt2 b e).1)⟩, by simp [intOf]; omega⟩
      · have hsel : ((t[i].toNat : Int) == 35) = false := u8_neq e1
        by_cases e2 : t[i] = 46
        · have hsel2 : ((t[i].toNat : Int) == 46) = true := by rw [e2]; rfl
          clear e1 e2
          go_wp2_with fail
          exact ⟨⟨i + 1, x + 1, y, k, cD, D, xs, by omega, by omega, by omega, by omega, HXL.out, HO.out, rfl, by go_num, rfl, by go_num, hb⟩, by simp [intOf]; omega⟩
        · have hsel2 : ((t[i].toNat : Int) == 46) = false := u8_neq e2
          by_cases e3 : t[i] = 47
          · have hsel3 : ((t[i].toNat : Int) == 47) = true := by rw [e3]; rfl
            clear e1 e2 e3
            go_wp2_with fail
            exact ⟨⟨i + 1, 0, y + 1, k, cD, D, xs, by omega, by omega, by omega, by omega, HXL.out, HO.out, rfl, rfl, by go_num, by go_num, hb⟩, by simp [intOf]; omega⟩
          · have hsel3 : ((t[i].toNat : Int) == 47) = false := u8_neq e3
            clear e1 e2 e3
            go_wp2_with fail
            go_ret2
            exact ⟨_, 0, 0, [], _, rfl, .inl rfl, rfl, by omega, by omega, bel_alloc hb _, fun b e => by simp only [ob, Option.map_some, Option.some.injEq] at e; have := hb.size; omega⟩
    · have hi1 : ¬ (i : Int) < (t.size : Int) := by omega
      go_wp2_with fail
      · go_ret2
        exact ⟨_, 0, 0, [], _, rfl, .inl rfl, rfl, by omega, by omega, bel_alloc hb _, fun b e => by simp only [ob, Option.map_some, Option.some.injEq] at e; have := hb.size; omega⟩
      · refine (FormatShape_s D k cD xs wr (Rd.of_own HO.out) HXL.out (by omega)).mono ?_
        rintro e w2 ⟨t2, rfl, ht2, hb2⟩
        have HO2 := Lib.hid (own_keep HO.out hb2)
        have HB2 := Lib.hid (bel_trans hb hb2)
        clear hb2 ht2
        go_wp2_with fail
        all_goals go_ret2
        all_goals first | exact ⟨D, k, cD, xs, true, rfl, Rd.of_own HO2.out, HXL.out, by omega, hcap, HB2.out, fun b e => (own_lt HO2.out b e).1⟩ | exact ⟨_, 0, 0, [], _, rfl, .inl rfl, rfl, by omega, by omega, bel_alloc HB2.out _, fun b e => by simp only [ob, Option.map_some, Option.some.injEq] at e; have := HB2.out.size; omega⟩
end Go.Proofs.YtcgjnonlndaoeaaGreat

/- The draws of the law on growth. -/
namespace Go.Proofs.YtcgjnonlndaoeaaGreat
open Go.RowKit
set_option linter.unusedVariables false
attribute [local go_sem ↓] Go.wp_at_zero Go.wp_at_succ
/-- A number below a bound, less one; nothing that was there is written. -/
def RetNd (w : World) (m : Nat) (e : Ending) (w' : World) : Prop := ∃ q : Nat, e = .returned (.int .i64 ((q : Int) - 1)) ∧ q < m ∧ Below w.heap.size w w'
/-- A short list of cells; nothing that was there is written. -/
def RetCl (w : World) (e : Ending) (w' : World) : Prop := ∃ D k cD xs, e = .returned (.slice D k cD) ∧ Rd w' D (vC xs) ∧ xs.length = k ∧ k ≤ 1048576 ∧ k ≤ cD ∧ Below w.heap.size w w'
theorem grown_newD {w w1 w2 : World} {g : Nat} (h : Below w.heap.size w w1) (hg : w.heap.size ≤ g) (k : w1.grownBy w2 (some g)) : Below w.heap.size w w2 := h.grown k h.size (fun g' e => by injection e with e; omega)
theorem l1Once_s (A : Option Addr) (n c g k : Nat) (bs : List UInt8) (w : World) (hc : Cur w g A n c bs) (hn : n ≤ 1048576) (hk1 : 1 ≤ k) (hk : k ≤ 256) :
    Calls Tryz.prog 56 #[.pointer (some ⟨g, 0, none⟩), .int .i64 (k : Int)] w (fun e w' => ∃ b : Bool, e = .returned (.bool b) ∧ Cur w' g A n c bs ∧ w.grownBy w' (some g)) := by
  go_enter Tryz.func56, Tryz.ntmps56
  go_wp2_with fail
  refine (l1Below_s A n c g k bs w hc hn hk1 hk).mono ?_
  rintro e w2 ⟨q, rfl, hq, hc2, hg2⟩
  have HC2 := Lib.hid hc2
  have HG2 := Lib.hid hg2
  clear hc2 hg2 hc
  go_wp2_with fail
  go_ret
  exact ⟨_, rfl, HC2.out, HG2.out⟩
end Go.Proofs.YtcgjnonlndaoeaaGreat
