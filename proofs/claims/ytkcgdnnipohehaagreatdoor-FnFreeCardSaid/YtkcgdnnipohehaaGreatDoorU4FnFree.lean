/- Texts of this claim, one behind the other: part 4. -/
import Derived.Test.YtkcgdnnipohehaaGreatDoorU3FnFree
import Derived.Outline
import Derived.WalkLawsBesides
import Derived.WalkSpells
import Derived.BigQuiet
import Derived.Deep.QuietTactic
import Derived.Deep.RegionHeld3
import Derived.Deep.RegionWith
import Derived.Deep.DeepCutAuto
import Derived.Deep.CutBlock
import Derived.Deep.DrawnRows
import Derived.Shelf.Strings.Builder1
import Derived.Shelf.Strings.Builder2
import Derived.Shelf.Strings.OnBuilder
import Derived.Shelf.Small.Bits
import Derived.Shelf.Strings.BuilderF
import Derived.Shelf.Strings.BuilderK
import Derived.Shelf.Strings.Builder2Cap
import Derived.Shelf.Strconv.Itoa0
import Derived.Shelf.Strings.Search1
import Derived.Shelf.Strings.Search2
import Derived.Shelf.Strings.Search3
import Derived.Shelf.Strings.Count
import Derived.Shelf.LaysM
import Derived.Shelf.Strings.Shaped
import Derived.Shelf.Sort.Plain
import Derived.Ground.GgsProg
import Derived.Shelf.GgSortFunc.Insertion
import Derived.Shelf.GgSortFunc.Small
import Derived.Shelf.GgSortFunc.InsertionK
import Derived.Shelf.GgSortFunc.SmallK
import Derived.Shelf.GgSortFunc.Tiny
import Derived.Shelf.GgSortFunc.Compose
import Derived.Shelf.GgSortFunc.LotD
import Derived.Shelf.GgSortFunc.Pivot
import Derived.Shelf.GgSortFunc.Partition
import Derived.Shelf.GgSortFunc.Pdq
import Derived.Shelf.GgSortFunc.Whole
import Derived.Ground.GgtProg
import Derived.Shelf.GgSortMore.Stable
import Derived.Shelf.Strings.Prefix
import Derived.Shelf.Strings.Split
import Derived.Shelf.Strings.SplitShaped
import Derived.Shelf.Unicode.Decode
import Derived.Shelf.Strings.RuneCount
import Derived.Shelf.Strings.Explode
import Derived.Shelf.Bits.Mul64
import Derived.Shelf.Strings.Repeat
import Derived.Shelf.Unicode.DecodeSlow
import Derived.Shelf.Unicode.DecodeAny
import Derived.Shelf.Strings.BuilderCap
import Derived.Ground.Names2Prog
import Derived.Shelf.Slices.SearchI
import Derived.Shelf.Slices.In.SortNone
import Derived.Shelf.Slices.In.SortNone2
import Derived.Shelf.SlSortFunc.Xorshift
import Derived.Shelf.SlSortFuncK.ComposeK
import Derived.Shelf.SlSortFuncK.SiftDownK
import Derived.Shelf.SlSortFuncK.HeapSortK
import Derived.Shelf.SlSortFuncK.PartialInsertionK
import Derived.Shelf.SlSortFuncK.LotDK
import Derived.Shelf.SlSortFuncK.PivotK
import Derived.Shelf.SlSortFuncK.PartitionK
import Derived.Shelf.SlSortFunc.SiftDown
import Derived.Shelf.SlSortFunc.HeapSort
import Derived.Shelf.SlSortFunc.PartialInsertion
import Derived.Shelf.SlSortFuncK.PdqK
import Derived.Shelf.SlSortFuncK.WholeK
import Derived.Test.YtkcgdnnipohehaaGreatDoorProg
import Derived.Lib.SplitLaws
/- Cells and shapes turned, the orientations of a shape: the program. -/
namespace Go.Proofs.YtkcgdnnipohehaaGreatDoor
open Go.RowKit
set_option linter.unusedVariables false
attribute [local go_sem ↓] Go.wp_at_zero Go.wp_at_succ

set_option maxHeartbeats 1600000 in
theorem carry_i (x y : Int) (m : Nat) (w : World) (hq : in7 1000 (x, y)) (hm : m < 8) :
    Calls Tryz.prog 180 #[.agg #[.int .i64 x, .int .i64 y], .int .i64 (m : Int)] w (Ret w (.agg #[.int .i64 (motC m (x, y)).1, .int .i64 (motC m (x, y)).2])) := by
  obtain ⟨r, hr⟩ : ∃ r, m % 4 = r := ⟨_, rfl⟩
  have hr4 : r < 4 := by omega
  have hmr : (m : Int) % 4 = (r : Int) := by omega
  have hm0 : (0 : Int) ≤ (m : Int) := by omega
  have hm7 : (m : Int) ≤ 7 := by omega
  obtain ⟨⟨h1, h2⟩, h3, h4⟩ := id hq
  simp only at h1 h2 h3 h4
  have HOK := Lib.hid (in7_flip hq m)
  have HC : Hid (motC m (x, y) = rotC r (flipC m (x, y))) := by show motC m (x, y) = _; unfold motC; rw [hr]
  have ex : IntKind.i64.wrap (-x) = -x := Go.IntWalk.i64_in _ (by omega)
  clear hr hq
  by_cases h4m : 4 ≤ m
  · have HST : Hid (rotC 0 (flipC m (x, y)) = (-x, y)) := by show flipC m (x, y) = _; unfold flipC; rw [if_pos h4m]
    have h4i : (m : Int) ≥ 4 := by omega
    go_enter Tryz.func180, Tryz.ntmps180
    go_wp2
    go_loopw [13] (fun e13 wr => ∃ (j : Nat) (x' y' : Int), j ≤ r ∧ e13 = .int .i64 j ∧ rotC j (flipC m (x, y)) = (x', y') ∧ Blk wr w.heap.size 87 #[.int .i64 x', .int .i64 y'] ∧ Blk wr (w.heap.size + 1) 87 #[.int .i64 0, .int .i64 0] ∧ Below w.heap.size w wr) (fun e13 _ => r - (intOf e13).toNat)
    case atStart =>
      have hb1 : Blk ((w.alloc (.cells #[.int .i64 (-x), .int .i64 y] 87)).alloc (.cells #[.int .i64 0, .int .i64 0] 87)) w.heap.size 87 #[.int .i64 (-x), .int .i64 y] := (Blk.new w 87 #[.int .i64 (-x), .int .i64 y]).alloc _
      have hb2 : Blk ((w.alloc (.cells #[.int .i64 (-x), .int .i64 y] 87)).alloc (.cells #[.int .i64 0, .int .i64 0] 87)) (w.heap.size + 1) 87 #[.int .i64 0, .int .i64 0] := by
        have h := Blk.new (w.alloc (.cells #[.int .i64 (-x), .int .i64 y] 87)) 87 #[.int .i64 0, .int .i64 0]
        rw [show (w.alloc (.cells #[.int .i64 (-x), .int .i64 y] 87)).heap.size = w.heap.size + 1 from by simp] at h
        exact h
      exact ⟨0, (-x), y, Nat.zero_le _, rfl, HST.out, hb1, hb2, (by (repeat (first | with_reducible exact Below.refl _ _ | with_reducible assumption | with_reducible apply bel_alloc | with_reducible apply bel_drew | with_reducible apply bel_drewN | ((with_reducible refine bel_set ?_ ?_); rotate_left; (simp <;> omega)) | (with_reducible refine bel_trans ?_ (by with_reducible assumption)))))⟩
    case round =>
      obtain ⟨j, x', y', hj, rfl, hrot, hB, hB2, hb⟩ := hrel
      have ho : in7 1000 (x', y') := by rw [← hrot]; exact in7_rot HOK.out j
      obtain ⟨⟨k1, k2⟩, k3, k4⟩ := ho
      simp only at k1 k2 k3 k4
      have en : IntKind.i64.wrap (-y') = -y' := Go.IntWalk.i64_in _ (by omega)
      have c0 : wr.cell? ⟨w.heap.size, 0, none⟩ = some (.int .i64 x') := by simpa using hB.cell 0
      have c1 : wr.cell? ⟨w.heap.size, 1, none⟩ = some (.int .i64 y') := by simpa using hB.cell 1
      have f0 := hB.frozen 0
      have f1 := hB.frozen 1
      have d0 : wr.cell? ⟨w.heap.size + 1, 0, none⟩ = some (.int .i64 0) := by simpa using hB2.cell 0
      have d1 : wr.cell? ⟨w.heap.size + 1, 1, none⟩ = some (.int .i64 0) := by simpa using hB2.cell 1
      have fd0 := hB2.frozen 0
      have fd1 := hB2.frozen 1
      by_cases hlt : j < r
      · have hj1 : (j : Int) < (r : Int) := by omega
        have HR : Hid (rotC (j + 1) (flipC m (x, y)) = (-y', x')) := by show (-(rotC j _).2, (rotC j _).1) = _; rw [hrot]
        have hS : Blk ((wr.setCell ⟨w.heap.size, 0, none⟩ (.int .i64 (-y'))).setCell ⟨w.heap.size, 1, none⟩ (.int .i64 x')) w.heap.size 87 #[.int .i64 (-y'), .int .i64 x'] := by simpa using (hB.set_ 0 (.int .i64 (-y'))).set_ 1 (.int .i64 x')
        have hS2 : Blk ((wr.setCell ⟨w.heap.size, 0, none⟩ (.int .i64 (-y'))).setCell ⟨w.heap.size, 1, none⟩ (.int .i64 x')) (w.heap.size + 1) 87 #[.int .i64 0, .int .i64 0] := (hB2.far (by simp) _).far (by simp) _
        have HS := Lib.hid hS
        have HS2 := Lib.hid hS2
        clear hrot hB hB2 hS hS2
        go_wp2
        exact ⟨⟨j + 1, -y', x', by omega, by go_num, HR.out, HS.out, HS2.out, (by (repeat (first | with_reducible exact Below.refl _ _ | with_reducible assumption | with_reducible apply bel_alloc | with_reducible apply bel_drew | with_reducible apply bel_drewN | ((with_reducible refine bel_set ?_ ?_); rotate_left; (simp <;> omega)) | (with_reducible refine bel_trans ?_ (by with_reducible assumption)))))⟩, by simp [intOf]; omega⟩
      · have hjr : j = r := by omega
        subst hjr
        have HV : Hid (motC m (x, y) = (x', y')) := by show motC m (x, y) = _; rw [HC.out, hrot]
        have hj1 : ¬ (j : Int) < (j : Int) := by omega
        clear hrot hB hB2
        go_wp2
        exact bodyPost_ret (v := .agg #[.int .i64 x', .int .i64 y']) (by simp [results, Tryz.results180, go_sem, d0, d1]) rfl ⟨by rw [HV.out], (by (repeat (first | with_reducible exact Below.refl _ _ | with_reducible assumption | with_reducible apply bel_alloc | with_reducible apply bel_drew | with_reducible apply bel_drewN | ((with_reducible refine bel_set ?_ ?_); rotate_left; (simp <;> omega)) | (with_reducible refine bel_trans ?_ (by with_reducible assumption)))))⟩
  · have HST : Hid (rotC 0 (flipC m (x, y)) = (x, y)) := by show flipC m (x, y) = _; unfold flipC; rw [if_neg h4m]
    have h4i : ¬ (m : Int) ≥ 4 := by omega
    go_enter Tryz.func180, Tryz.ntmps180
    go_wp2
    go_loopw [13] (fun e13 wr => ∃ (j : Nat) (x' y' : Int), j ≤ r ∧ e13 = .int .i64 j ∧ rotC j (flipC m (x, y)) = (x', y') ∧ Blk wr w.heap.size 87 #[.int .i64 x', .int .i64 y'] ∧ Blk wr (w.heap.size + 1) 87 #[.int .i64 0, .int .i64 0] ∧ Below w.heap.size w wr) (fun e13 _ => r - (intOf e13).toNat)
    case atStart =>
      have hb1 : Blk ((w.alloc (.cells #[.int .i64 x, .int .i64 y] 87)).alloc (.cells #[.int .i64 0, .int .i64 0] 87)) w.heap.size 87 #[.int .i64 x, .int .i64 y] := (Blk.new w 87 #[.int .i64 x, .int .i64 y]).alloc _
      have hb2 : Blk ((w.alloc (.cells #[.int .i64 x, .int .i64 y] 87)).alloc (.cells #[.int .i64 0, .int .i64 0] 87)) (w.heap.size + 1) 87 #[.int .i64 0, .int .i64 0] := by
        have h := Blk.new (w.alloc (.cells #[.int .i64 x, .int .i64 y] 87)) 87 #[.int .i64 0, .int .i64 0]
        rw [show (w.alloc (.cells #[.int .i64 x, .int .i64 y] 87)).heap.size = w.heap.size + 1 from by simp] at h
        exact h
      exact ⟨0, x, y, Nat.zero_le _, rfl, HST.out, hb1, hb2, (by (repeat (first | with_reducible exact Below.refl _ _ | with_reducible assumption | with_reducible apply bel_alloc | with_reducible apply bel_drew | with_reducible apply bel_drewN | ((with_reducible refine bel_set ?_ ?_); rotate_left; (simp <;> omega)) | (with_reducible refine bel_trans ?_ (by with_reducible assumption)))))⟩
    case round =>
      obtain ⟨j, x', y', hj, rfl, hrot, hB, hB2, hb⟩ := hrel
      have ho : in7 1000 (x', y') := by rw [← hrot]; exact in7_rot HOK.out j
      obtain ⟨⟨k1, k2⟩, k3, k4⟩ := ho
      simp only at k1 k2 k3 k4
      have en : IntKind.i64.wrap (-y') = -y' := Go.IntWalk.i64_in _ (by omega)
      have c0 : wr.cell? ⟨w.heap.size, 0, none⟩ = some (.int .i64 x') := by simpa using hB.cell 0
      have c1 : wr.cell? ⟨w.heap.size, 1, none⟩ = some (.int .i64 y') := by simpa using hB.cell 1
      have f0 := hB.frozen 0
      have f1 := hB.frozen 1
      have d0 : wr.cell? ⟨w.heap.size + 1, 0, none⟩ = some (.int .i64 0) := by simpa using hB2.cell 0
      have d1 : wr.cell? ⟨w.heap.size + 1, 1, none⟩ = some (.int .i64 0) := by simpa using hB2.cell 1
      have fd0 := hB2.frozen 0
      have fd1 := hB2.frozen 1
      by_cases hlt : j < r
      · have hj1 : (j : Int) < (r : Int) := by omega
        have HR : Hid (rotC (j + 1) (flipC m (x, y)) = (-y', x')) := by show (-(rotC j _).2, (rotC j _).1) = _; rw [hrot]
        have hS : Blk ((wr.setCell ⟨w.heap.size, 0, none⟩ (.int .i64 (-y'))).setCell ⟨w.heap.size, 1, none⟩ (.int .i64 x')) w.heap.size 87 #[.int .i64 (-y'), .int .i64 x'] := by simpa using (hB.set_ 0 (.int .i64 (-y'))).set_ 1 (.int .i64 x')
        have hS2 : Blk ((wr.setCell ⟨w.heap.size, 0, none⟩ (.int .i64 (-y'))).setCell ⟨w.heap.size, 1, none⟩ (.int .i64 x')) (w.heap.size + 1) 87 #[.int .i64 0, .int .i64 0] := (hB2.far (by simp) _).far (by simp) _
        have HS := Lib.hid hS
        have HS2 := Lib.hid hS2
        clear hrot hB hB2 hS hS2
        go_wp2
        exact ⟨⟨j + 1, -y', x', by omega, by go_num, HR.out, HS.out, HS2.out, (by (repeat (first | with_reducible exact Below.refl _ _ | with_reducible assumption | with_reducible apply bel_alloc | with_reducible apply bel_drew | with_reducible apply bel_drewN | ((with_reducible refine bel_set ?_ ?_); rotate_left; (simp <;> omega)) | (with_reducible refine bel_trans ?_ (by with_reducible assumption)))))⟩, by simp [intOf]; omega⟩
      · have hjr : j = r := by omega
        subst hjr
        have HV : Hid (motC m (x, y) = (x', y')) := by show motC m (x, y) = _; rw [HC.out, hrot]
        have hj1 : ¬ (j : Int) < (j : Int) := by omega
        clear hrot hB hB2
        go_wp2
        exact bodyPost_ret (v := .agg #[.int .i64 x', .int .i64 y']) (by simp [results, Tryz.results180, go_sem, d0, d1]) rfl ⟨by rw [HV.out], (by (repeat (first | with_reducible exact Below.refl _ _ | with_reducible assumption | with_reducible apply bel_alloc | with_reducible apply bel_drew | with_reducible apply bel_drewN | ((with_reducible refine bel_set ?_ ?_); rotate_left; (simp <;> omega)) | (with_reducible refine bel_trans ?_ (by with_reducible assumption)))))⟩
theorem map_take {α β : Type} (f : α → β) (xs : List α) (k : Nat) (hk : k < xs.length) : (xs.take (k + 1)).map f = (xs.take k).map f ++ [f xs[k]] := by
  rw [List.take_succ_eq_append_getElem hk, List.map_append]; rfl
set_option maxHeartbeats 1600000 in
theorem turned_i (A : Option Addr) (n c : Nat) (xs : List C) (m : Nat) (w : World) (hr : Rd w A (vC xs)) (hl : xs.length = n) (hs : isShape xs = true) (hm : m < 8) :
    Calls Tryz.prog 139 #[.slice A n c, .int .i64 (m : Int)] w (RetS w 87 2 (vC (turnV xs m))) := by
  have hn8 := shape_len hs
  have hti := turn_in hs m
  have hob := shape_onB hs
  rw [hl] at hn8
  obtain ⟨hn1, hn8⟩ := hn8
  have HL := Lib.hid hl
  have HR := Lib.hid hr
  have HTI := Lib.hid hti
  have HOB := Lib.hid hob
  clear hl hr hs hti hob
  go_enter Tryz.func139, Tryz.ntmps139
  go_wp2
  go_loopw [10, 5] (fun e10 e5 wr => ∃ (k cq : Nat) (D : Option Addr), k ≤ n ∧ e10 = .int .i64 k ∧ e5 = .slice D k cq ∧ wr.ownsRow w.heap.size 87 2 (.slice D k cq) k (vC ((xs.take k).map (motC m))) ∧ Below w.heap.size w wr) (fun e10 _ _ => n - (intOf e10).toNat)
  case atStart => exact ⟨0, 0, none, Nat.zero_le _, rfl, rfl, own_nil _ _ _ _, Below.refl _ _⟩
  case round =>
    obtain ⟨k, cq, D, hk, rfl, rfl, hown, hb⟩ := hrel
    by_cases hlt : k < n
    · have hkl : k < xs.length := by rw [HL.out]; exact hlt
      have hk0 : (0 : Int) ≤ (k : Int) := by omega
      have hk1 : (k : Int) < (n : Int) := by omega
      obtain ⟨g, off, hA, hg, d1, d2⟩ := RdC.at_ (HR.out.below hb) hkl
      subst hA
      have hst := map_take (motC m) xs k hkl
      have h7 := in7_onB (HOB.out _ (List.getElem_mem hkl))
      obtain ⟨p, hp⟩ : ∃ p, xs[k].1 = p := ⟨_, rfl⟩
      obtain ⟨q, hq⟩ : ∃ q, xs[k].2 = q := ⟨_, rfl⟩
      rw [show xs[k] = (p, q) from Prod.ext hp hq] at hst h7
      rw [hp] at d1
      rw [hq] at d2
      have hK : in7 1000 (p, q) := by unfold in7 at h7 ⊢; simp only at h7 ⊢; omega
      obtain ⟨⟨x', y'⟩, hxy⟩ : ∃ z, motC m (p, q) = z := ⟨_, rfl⟩
      rw [hxy] at hst
      have HCA : Hid (∀ w0, Calls Tryz.prog 180 #[.agg #[.int .i64 p, .int .i64 q], .int .i64 (m : Int)] w0 (Ret w0 (.agg #[.int .i64 x', .int .i64 y']))) := fun w0 => by
        have h := carry_i p q m w0 hK hm
        rw [hxy] at h
        exact h
      have HST := Lib.hid hst
      have HO := Lib.hid hown
      clear hst hown hp hq h7 hxy hK
      go_wp2_with fail
      refine (HCA.out _).mono ?_
      rintro e w2 ⟨rfl, hb2⟩
      have hb02 := bel_trans (bel_alloc hb (.cells #[.int .i64 p, .int .i64 q] 87)) hb2
      have HO2 := Lib.hid (own_keep (HO.out.alloc (.cells #[.int .i64 p, .int .i64 q] 87)) hb2)
      have hbz := hb02.size
      clear d1 d2
      go_wp2_with (at_builtin; go_must (refine app_C _ rfl _ _ rfl w.heap.size _ _ _ _ rfl (HO2.out.alloc _) _ _ _ [(x', y')] rfl (rd_newC _ _ _ _) rfl (by omega) (by simp; omega) ?_); intro D2 cp2 w8 ho8 hg8 hat8; have HO8 := Lib.hid ho8; have HG8 := Lib.hid hg8; clear ho8 hg8 hat8)
      exact ⟨⟨k + 1, cp2, D2, by omega, by go_num, rfl, by rw [HST.out]; exact HO8.out, bel_app (bel_alloc hb02 _) HG8.out (fun g' hg1 => ((own_lt HO2.out) g' hg1).1)⟩, by simp [intOf]; omega⟩
    · obtain rfl : k = n := by omega
      rw [List.take_of_length_le (by rw [HL.out]; omega)] at hown
      have HO := Lib.hid hown
      have hk1 : ¬ (k : Int) < (k : Int) := by omega
      clear hown
      go_wp2_with fail
      refine (corner_i D k cq (xs.map (motC m)) _ (Rd.of_own HO.out) (by rw [List.length_map]; exact HL.out) hn1 (by omega) (fun d hd => by have := HTI.out d hd; unfold in7 at this; unfold small; omega)).mono ?_
      rintro e w2 ⟨E, q, ce, rfl, hO2, hb2⟩
      have HO2 := Lib.hid hO2
      have hbz := hb.size
      clear hO2
      go_wp2_with fail
      go_ret
      exact ⟨E, q, ce, rfl, own_base HO2.out hbz, bel_trans hb hb2⟩
theorem putV_eq {F : List (List C)} (h : IncG ltS F) (f : List C) : putB ltS F f = putG ltS F f := by
  obtain ⟨h1, h2⟩ := putB_inc ltS_sto h f
  obtain ⟨h3, h4⟩ := putG_inc ltS_sto h f
  exact incG_eq ltS_sto _ _ h1 h3 fun x => by rw [h2, h4]
set_option maxHeartbeats 1600000 in
theorem OrientationsOf_i (A : Option Addr) (n c : Nat) (xs : List C) (w : World) (hr : Rd w A (vC xs)) (hl : xs.length = n) (hs : isShape xs = true) :
    Calls Tryz.prog 176 #[.slice A n c] w (RetF w (orV xs)) := by
  have hn8 := (shape_len hs).2
  rw [hl] at hn8
  have hV : orV xs = orTo xs 8 := by unfold orV; rw [if_pos hs]
  have HTL : Hid (∀ m, 1 ≤ (turnV xs m).length ∧ (turnV xs m).length ≤ 8) := fun m => turn_len hs m
  have hmem := orTo_mem xs
  have HME : Hid (∀ k, ∀ x ∈ orTo xs k, x.length ≤ 1048576) := fun k x hx => by
    obtain ⟨m, _, rfl⟩ := hmem k x hx
    have := (turn_len hs m).2
    omega
  have HV := Lib.hid hV
  have HL := Lib.hid hl
  have HR := Lib.hid hr
  have HS := Lib.hid hs
  clear hl hr hs hV hmem
  go_enter Tryz.func176, Tryz.ntmps176
  go_wp2_with fail
  refine (IsShape_i A n c xs _ HR.out HL.out (by omega)).mono ?_
  rw [HS.out]
  rintro e w1 ⟨rfl, hb1⟩
  have hbz := hb1.size
  go_wp2_with fail
  go_loopw [8, 3] (fun e8 e3 wr => ∃ (m q cq : Nat) (D : Option Addr) (hs : List H), m ≤ 8 ∧ e8 = .int .i64 m ∧ e3 = .slice D q cq ∧ OwnF w1.heap.size wr D q cq hs (orTo xs m) ∧ Below w1.heap.size w1 wr) (fun e8 _ _ => 8 - (intOf e8).toNat)
  case atStart => exact ⟨0, 0, 0, none, [], Nat.zero_le _, rfl, rfl, OwnF.nil _ _, Below.refl _ _⟩
  case round =>
    obtain ⟨m, q, cq, D, hs, hm, rfl, rfl, hO, hb⟩ := hrel
    have hql : (orTo xs m).length = q := hO.flen
    have hol := orTo_len xs m
    have hinc := orTo_inc xs m
    have HINC := Lib.hid hinc
    have hb01 := bel_trans hb1 hb
    have HO := Lib.hid hO
    clear hO hinc
    by_cases hlt : m < 8
    · have hm0 : (0 : Int) ≤ (m : Int) := by omega
      have hm1 : (m : Int) < 8 := by omega
      have hst : orTo xs (m + 1) = putB ltS (orTo xs m) (turnV xs m) := by show putG ltS _ _ = _; rw [putV_eq HINC.out]
      have hme := HME.out m
      have htl := HTL.out m
      obtain ⟨F, hF⟩ : ∃ F, orTo xs m = F := ⟨_, rfl⟩
      obtain ⟨t, ht⟩ : ∃ t, turnV xs m = t := ⟨_, rfl⟩
      have HTU : Hid (∀ w0, Rd w0 A (vC xs) → Calls Tryz.prog 139 #[.slice A n c, .int .i64 (m : Int)] w0 (RetS w0 87 2 (vC t))) := fun w0 h => by
        have h2 := turned_i A n c xs m w0 h HL.out HS.out hlt
        rw [ht] at h2
        exact h2
      rw [hF, ht] at hst
      rw [hF] at hme hql HO HINC hol
      rw [ht] at htl
      have HST := Lib.hid hst
      have HMF := Lib.hid hme
      clear hst hF ht hme
      go_wp2_with fail
      refine (HTU.out _ (HR.out.below hb01)).mono ?_
      rintro e w2 ⟨E, q2, c2, rfl, hT, hb2⟩
      have hq2 : t.length = q2 := by have := own_len hT; rw [vC_length] at this; omega
      have hO2 := HO.out.below hb2
      have hb12 := bel_trans hb hb2
      have HO2 := Lib.hid hO2
      have HCR := Lib.hid (CRow.of_own hT)
      have hz2 := hb12.size
      clear hO2 hT HO
      go_wp2_with fail
      refine (putShape_i D q cq hs F E q2 c2 t w1.heap.size _ HO2.out HCR.out HINC.out HMF.out (by omega) (by omega) hz2).mono ?_
      rintro e w3 ⟨D3, n3, c3, hs3, rfl, hO3, hg3, hD3⟩
      have HO3 := Lib.hid hO3
      have hb13 : Below w1.heap.size w1 w3 := bel_app hb12 hg3 (fun g e => (own_lt HO2.out.own g e).1)
      clear hO3 hD3
      go_wp2_with fail
      exact ⟨⟨m + 1, n3, c3, D3, hs3, by omega, by go_num, rfl, by rw [HST.out]; exact HO3.out, hb13⟩, by simp [intOf]; omega⟩
    · obtain rfl : m = 8 := by omega
      rw [← HV.out] at HO
      have hm1 : ¬ ((8 : Nat) : Int) < 8 := by omega
      go_wp2_with fail
      go_ret
      exact ⟨D, q, cq, hs, rfl, HO.out.mono hbz, hb01⟩
end Go.Proofs.YtkcgdnnipohehaaGreatDoor

/-
  DERIVED: THE SHELF's CONTRACTS AT THIS DUMP, IN PLAIN WORDS (tools/lay-plain.mjs out of 'TryzShelf.lean', which tools/lay-shelf.mjs wrote): THE SAME DECLARATIONS UNDER THE SAME NAMES: 'import', 'namespace', 'open', 'def', 'theorem' AND NOTHING ELSE: no command of the shelf's: FOR A HAND-IN. Each laying: the table of numbers ('.._ren') and one theorem, a field a fact of the dump's own or the kernel's comparison; each contract: ONE APPLICATION.
-/
namespace Go.Proofs
open Go.Shelf
def Tryz.lays156_ren : Go.Shelf.Ren := ⟨fun | 156 => 188 | 165 => 202 | 166 => 203 | 169 => 205 | 240 => 225 | 241 => 226 | 276 => 246 | 277 => 247 | n => n, fun | 31 => 97 | 9 => 9 | 3 => 3 | 4 => 4 | 0 => 0 | 20 => 20 | 72 => 175 | 76 => 179 | 70 => 173 | 37 => 22 | 75 => 178 | 127 => 198 | 164 => 111 | 5 => 5 | 80 => 181 | n => n, fun | n => n⟩
theorem Tryz.lays156 : Go.Proofs.Lays.n156 Tryz.prog Tryz.lays156_ren := {
  mixed := by kernel_rfl
  f156 := Tryz.func188.trans (congrArg some (by kernel_rfl))
  f165 := Tryz.func202.trans (congrArg some (by kernel_rfl))
  f166 := Tryz.func203.trans (congrArg some (by kernel_rfl))
  f169 := Tryz.func205.trans (congrArg some (by kernel_rfl))
  f240 := Tryz.func225.trans (congrArg some (by kernel_rfl))
  f241 := Tryz.func226.trans (congrArg some (by kernel_rfl))
  f276 := Tryz.func246.trans (congrArg some (by kernel_rfl))
  f277 := Tryz.func247.trans (congrArg some (by kernel_rfl))
  t0 := Tryz.underlying0
  a0 := Tryz.isAgg0
  z0 := Tryz.sizeOf0
  v0 := Tryz.zeroValue0
  t3 := Tryz.underlying3
  a3 := Tryz.isAgg3
  z3 := Tryz.sizeOf3
  v3 := Tryz.zeroValue3
  t4 := Tryz.underlying4
  a4 := Tryz.isAgg4
  z4 := Tryz.sizeOf4
  v4 := Tryz.zeroValue4
  t9 := Tryz.underlying9
  a9 := Tryz.isAgg9
  z9 := Tryz.sizeOf9
  v9 := Tryz.zeroValue9
  t20 := Tryz.underlying20
  a20 := Tryz.isAgg20
  z20 := Tryz.sizeOf20
  v20 := Tryz.zeroValue20
  t31 := Tryz.underlying97
  a31 := Tryz.isAgg97
  z31 := Tryz.sizeOf97
  v31 := Tryz.zeroValue97
  t37 := Tryz.underlying22
  a37 := Tryz.isAgg22
  z37 := Tryz.sizeOf22
  v37 := Tryz.zeroValue22
  t70 := Tryz.underlying173
  a70 := Tryz.isAgg173
  z70 := Tryz.sizeOf173
  v70 := Tryz.zeroValue173
  t72 := Tryz.underlying175
  a72 := Tryz.isAgg175
  z72 := Tryz.sizeOf175
  v72 := Tryz.zeroValue175
  t75 := Tryz.underlying178
  a75 := Tryz.isAgg178
  z75 := Tryz.sizeOf178
  v75 := Tryz.zeroValue178
  t76 := Tryz.underlying179
  a76 := Tryz.isAgg179
  z76 := Tryz.sizeOf179
  v76 := Tryz.zeroValue179
  t127 := Tryz.underlying198
  a127 := Tryz.isAgg198
  z127 := Tryz.sizeOf198
  v127 := Tryz.zeroValue198
  t164 := Tryz.underlying111
  a164 := Tryz.isAgg111
  z164 := Tryz.sizeOf111
  v164 := Tryz.zeroValue111 }
theorem Tryz.Builder_Extra_156 : Builder.Extra Tryz.prog Tryz.lays156_ren := {
  sizeBuilder := by kernel_rfl
  liesBuilder := by kernel_rfl
  t5 := Tryz.underlying5
  a5 := Tryz.isAgg5
  z5 := Tryz.sizeOf5
  v5 := Tryz.zeroValue5
  infoByte := by kernel_rfl
  cellsByte := by kernel_rfl
  sizeByte := by kernel_rfl
  neB5 := by decide }
open Go.RowKit in
theorem Tryz.strings_Join (bk o c : Nat) (xs : List ByteArray) (sep : ByteArray) (w : World) (hcells : ∀ (j : Nat) x, xs[j]? = some x → w.cell? ⟨bk, o + j, none⟩ = some (.string x)) (hbk : bk < w.heap.size) (hN : xs.length ≤ 140737488355328) (hcap : xs.length ≤ c) (hlen : (Lib.join (xs.map (·.data.toList)) sep.data.toList).length ≤ 140737488355328) :
    Calls Tryz.prog 188 #[.slice (some ⟨bk, o, none⟩) xs.length c, .string sep] w fun e w' => e = .returned (.string ⟨(Lib.join (xs.map (·.data.toList)) sep.data.toList).toArray⟩) ∧ Below w.heap.size w w' := Any.strings_Join Tryz.lays156 Tryz.Builder_Extra_156 bk o c xs sep w hcells hbk hN hcap hlen
def Tryz.lays146_ren : Go.Shelf.Ren := ⟨fun | 146 => 155 | 221 => 184 | 268 => 197 | 138 => 198 | 143 => 199 | 195 => 218 | 197 => 219 | 218 => 220 | 219 => 221 | 260 => 241 | 217 => 242 | 225 => 243 | 224 => 244 | 267 => 245 | 266 => 255 | 314 => 256 | n => n, fun | 9 => 9 | 31 => 97 | 3 => 3 | 4 => 4 | 0 => 0 | 105 => 191 | 21 => 21 | 5 => 5 | 46 => 105 | 119 => 219 | 139 => 222 | 138 => 221 | 146 => 194 | 51 => 148 | n => n, fun | 1 => 2 | 3 => 3 | 4 => 4 | n => n⟩
theorem Tryz.lays146 : Go.Proofs.Lays.n146 Tryz.prog Tryz.lays146_ren := {
  mixed := by kernel_rfl
  f138 := Tryz.func198.trans (congrArg some (by kernel_rfl))
  f143 := Tryz.func199.trans (congrArg some (by kernel_rfl))
  f146 := Tryz.func155.trans (congrArg some (by kernel_rfl))
  f195 := Tryz.func218.trans (congrArg some (by kernel_rfl))
  f197 := Tryz.func219.trans (congrArg some (by kernel_rfl))
  f217 := Tryz.func242.trans (congrArg some (by kernel_rfl))
  f218 := Tryz.func220.trans (congrArg some (by kernel_rfl))
  f219 := Tryz.func221.trans (congrArg some (by kernel_rfl))
  f221 := Tryz.func184.trans (congrArg some (by kernel_rfl))
  f224 := Tryz.func244.trans (congrArg some (by kernel_rfl))
  f225 := Tryz.func243.trans (congrArg some (by kernel_rfl))
  f260 := Tryz.func241.trans (congrArg some (by kernel_rfl))
  f266 := Tryz.func255.trans (congrArg some (by kernel_rfl))
  f267 := Tryz.func245.trans (congrArg some (by kernel_rfl))
  f268 := Tryz.func197.trans (congrArg some (by kernel_rfl))
  f314 := Tryz.func256.trans (congrArg some (by kernel_rfl))
  t0 := Tryz.underlying0
  a0 := Tryz.isAgg0
  z0 := Tryz.sizeOf0
  v0 := Tryz.zeroValue0
  t3 := Tryz.underlying3
  a3 := Tryz.isAgg3
  z3 := Tryz.sizeOf3
  v3 := Tryz.zeroValue3
  t4 := Tryz.underlying4
  a4 := Tryz.isAgg4
  z4 := Tryz.sizeOf4
  v4 := Tryz.zeroValue4
  t5 := Tryz.underlying5
  a5 := Tryz.isAgg5
  z5 := Tryz.sizeOf5
  v5 := Tryz.zeroValue5
  t9 := Tryz.underlying9
  a9 := Tryz.isAgg9
  z9 := Tryz.sizeOf9
  v9 := Tryz.zeroValue9
  t21 := Tryz.underlying21
  a21 := Tryz.isAgg21
  z21 := Tryz.sizeOf21
  v21 := Tryz.zeroValue21
  t31 := Tryz.underlying97
  a31 := Tryz.isAgg97
  z31 := Tryz.sizeOf97
  v31 := Tryz.zeroValue97
  t46 := Tryz.underlying105
  a46 := Tryz.isAgg105
  z46 := Tryz.sizeOf105
  v46 := Tryz.zeroValue105
  t51 := Tryz.underlying148
  a51 := Tryz.isAgg148
  z51 := Tryz.sizeOf148
  v51 := Tryz.zeroValue148
  t105 := Tryz.underlying191
  a105 := Tryz.isAgg191
  z105 := Tryz.sizeOf191
  v105 := Tryz.zeroValue191
  t119 := Tryz.underlying219
  a119 := Tryz.isAgg219
  z119 := Tryz.sizeOf219
  t138 := Tryz.underlying221
  a138 := Tryz.isAgg221
  z138 := Tryz.sizeOf221
  v138 := Tryz.zeroValue221
  t139 := Tryz.underlying222
  a139 := Tryz.isAgg222
  z139 := Tryz.sizeOf222
  v139 := Tryz.zeroValue222
  t146 := Tryz.underlying194
  a146 := Tryz.isAgg194
  z146 := Tryz.sizeOf194
  v146 := Tryz.zeroValue194
  g1 := by kernel_rfl
  g3 := by kernel_rfl
  g4 := by kernel_rfl }
open Go.RowKit Go.Lib in
theorem Tryz.strings_Split (s sep : ByteArray) (m : Int) (w : World) (hs : s.size < 4294967281) (hm : w.cell? ⟨2, 0, none⟩ = some (.int .i64 m)) (h1 : 1 ≤ sep.size) :
    Calls Tryz.prog 155 #[.string s, .string sep] w fun e w' =>
      e = .returned (.slice (some ⟨w.heap.size, 0, none⟩) (Lib.countB s sep + 1) (Lib.countB s sep + 1)) ∧ w' = w.alloc (.cells ((Lib.splitB sep 0 (Lib.countB s sep) s).map Value.string).toArray 9) := Any.strings_Split Tryz.lays146 (by kernel_rfl) s sep m w hs hm h1
def Tryz.lays105_ren : Go.Shelf.Ren := ⟨fun | 105 => 187 | 212 => 200 | 99 => 201 | 165 => 202 | 166 => 203 | 170 => 204 | 169 => 205 | 263 => 222 | 264 => 223 | 206 => 224 | 240 => 225 | 241 => 226 | 276 => 246 | 277 => 247 | n => n, fun | 9 => 9 | 3 => 3 | 4 => 4 | 20 => 20 | 0 => 0 | 46 => 105 | 109 => 170 | 5 => 5 | 72 => 175 | 76 => 179 | 51 => 148 | 146 => 194 | 53 => 150 | 148 => 196 | 70 => 173 | 37 => 22 | 75 => 178 | 127 => 198 | 164 => 111 | 80 => 181 | n => n, fun | n => n⟩
theorem Tryz.lays105 : Go.Proofs.Lays.n105 Tryz.prog Tryz.lays105_ren := {
  mixed := by kernel_rfl
  f99 := Tryz.func201.trans (congrArg some (by kernel_rfl))
  f105 := Tryz.func187.trans (congrArg some (by kernel_rfl))
  f165 := Tryz.func202.trans (congrArg some (by kernel_rfl))
  f166 := Tryz.func203.trans (congrArg some (by kernel_rfl))
  f169 := Tryz.func205.trans (congrArg some (by kernel_rfl))
  f170 := Tryz.func204.trans (congrArg some (by kernel_rfl))
  f206 := Tryz.func224.trans (congrArg some (by kernel_rfl))
  f212 := Tryz.func200.trans (congrArg some (by kernel_rfl))
  f240 := Tryz.func225.trans (congrArg some (by kernel_rfl))
  f241 := Tryz.func226.trans (congrArg some (by kernel_rfl))
  f263 := Tryz.func222.trans (congrArg some (by kernel_rfl))
  f264 := Tryz.func223.trans (congrArg some (by kernel_rfl))
  f276 := Tryz.func246.trans (congrArg some (by kernel_rfl))
  f277 := Tryz.func247.trans (congrArg some (by kernel_rfl))
  t0 := Tryz.underlying0
  a0 := Tryz.isAgg0
  z0 := Tryz.sizeOf0
  v0 := Tryz.zeroValue0
  t3 := Tryz.underlying3
  a3 := Tryz.isAgg3
  z3 := Tryz.sizeOf3
  v3 := Tryz.zeroValue3
  t4 := Tryz.underlying4
  a4 := Tryz.isAgg4
  z4 := Tryz.sizeOf4
  v4 := Tryz.zeroValue4
  t5 := Tryz.underlying5
  a5 := Tryz.isAgg5
  z5 := Tryz.sizeOf5
  v5 := Tryz.zeroValue5
  t9 := Tryz.underlying9
  a9 := Tryz.isAgg9
  z9 := Tryz.sizeOf9
  v9 := Tryz.zeroValue9
  t20 := Tryz.underlying20
  a20 := Tryz.isAgg20
  z20 := Tryz.sizeOf20
  v20 := Tryz.zeroValue20
  t37 := Tryz.underlying22
  a37 := Tryz.isAgg22
  z37 := Tryz.sizeOf22
  v37 := Tryz.zeroValue22
  t46 := Tryz.underlying105
  a46 := Tryz.isAgg105
  z46 := Tryz.sizeOf105
  v46 := Tryz.zeroValue105
  t51 := Tryz.underlying148
  a51 := Tryz.isAgg148
  z51 := Tryz.sizeOf148
  v51 := Tryz.zeroValue148
  t53 := Tryz.underlying150
  a53 := Tryz.isAgg150
  z53 := Tryz.sizeOf150
  v53 := Tryz.zeroValue150
  t70 := Tryz.underlying173
  a70 := Tryz.isAgg173
  z70 := Tryz.sizeOf173
  v70 := Tryz.zeroValue173
  t72 := Tryz.underlying175
  a72 := Tryz.isAgg175
  z72 := Tryz.sizeOf175
  v72 := Tryz.zeroValue175
  t75 := Tryz.underlying178
  a75 := Tryz.isAgg178
  z75 := Tryz.sizeOf178
  v75 := Tryz.zeroValue178
  t76 := Tryz.underlying179
  a76 := Tryz.isAgg179
  z76 := Tryz.sizeOf179
  v76 := Tryz.zeroValue179
  t109 := Tryz.underlying170
  a109 := Tryz.isAgg170
  z109 := Tryz.sizeOf170
  v109 := Tryz.zeroValue170
  t127 := Tryz.underlying198
  a127 := Tryz.isAgg198
  z127 := Tryz.sizeOf198
  v127 := Tryz.zeroValue198
  t146 := Tryz.underlying194
  a146 := Tryz.isAgg194
  z146 := Tryz.sizeOf194
  v146 := Tryz.zeroValue194
  t148 := Tryz.underlying196
  a148 := Tryz.isAgg196
  z148 := Tryz.sizeOf196
  v148 := Tryz.zeroValue196
  t164 := Tryz.underlying111
  a164 := Tryz.isAgg111
  z164 := Tryz.sizeOf111
  v164 := Tryz.zeroValue111 }
theorem Tryz.Builder_Extra_105 : Builder.Extra Tryz.prog Tryz.lays105_ren := {
  sizeBuilder := by kernel_rfl
  liesBuilder := by kernel_rfl
  t5 := Tryz.underlying5
  a5 := Tryz.isAgg5
  z5 := Tryz.sizeOf5
  v5 := Tryz.zeroValue5
  infoByte := by kernel_rfl
  cellsByte := by kernel_rfl
  sizeByte := by kernel_rfl
  neB5 := by decide }
open Go.RowKit Go.Lib in
theorem Tryz.strings_Repeat (s : ByteArray) (c : Nat) (w : World) (hc : c ≤ 9223372036854775807) (hlen : s.size * c ≤ 140737488355328) :
    Calls Tryz.prog 187 #[.string s, .int .i64 c] w fun e w' => e = .returned (.string ⟨(Lib.repeatL s.data.toList c).toArray⟩) ∧ Below w.heap.size w w' := Any.strings_Repeat Tryz.lays105 Tryz.Builder_Extra_105 s c w hc hlen
end Go.Proofs

/- The program's pieces: shapes written and read, named. -/
namespace Go.Proofs.YtkcgdnnipohehaaGreatDoor
open Go.RowKit
set_option linter.unusedVariables false
attribute [local go_sem ↓] Go.wp_at_zero Go.wp_at_succ

set_option maxHeartbeats 800000 in
theorem CornerShape_i (A : Option Addr) (n c : Nat) (xs : List C) (w : World) (hr : Rd w A (vC xs)) (hl : xs.length = n) (hs : isShape xs = true) :
    Calls Tryz.prog 185 #[.slice A n c] w (RetS w 87 2 (vC (cornI xs))) := by
  have hn8 := shape_len hs
  have hsm := shape_small hs
  have HL := Lib.hid hl
  have HR := Lib.hid hr
  have HS := Lib.hid hs
  have HSM := Lib.hid hsm
  rw [hl] at hn8
  clear hl hr hs hsm
  go_enter Tryz.func185, Tryz.ntmps185
  go_wp2_with fail
  refine (IsShape_i A n c xs _ HR.out HL.out (by omega)).mono ?_
  rw [HS.out]
  rintro e w1 ⟨rfl, hb1⟩
  have hbz := hb1.size
  go_wp2_with fail
  refine (corner_i A n c xs _ (HR.out.below hb1) HL.out (by omega) (by omega) HSM.out).mono ?_
  rintro e w2 ⟨D, m, cd, rfl, hO, hb2⟩
  have HO := Lib.hid hO
  have HB := Lib.hid (bel_trans hb1 hb2)
  clear hO hb1 hb2
  go_wp2_with fail
  go_ret
  exact ⟨D, m, cd, rfl, own_base HO.out hbz, HB.out⟩
/-- Cells near the corner. -/
def cor9 (c : C) : Prop := (0 ≤ c.1 ∧ c.1 ≤ 7) ∧ (0 ≤ c.2 ∧ c.2 ≤ 7)
theorem ext_bd (l : List C) (h : ∀ c ∈ l, cor9 c) : ∀ k, k ≤ l.length → (0 ≤ extW l k ∧ extW l k ≤ 8) ∧ (0 ≤ extH l k ∧ extH l k ≤ 8)
  | 0, _ => by simp [extW, extH]
  | k + 1, hk => by
    obtain ⟨⟨h1, h2⟩, h3, h4⟩ := ext_bd l h k (by omega)
    obtain ⟨⟨h5, h6⟩, h7, h8⟩ := h _ (List.getElem_mem (show k < l.length by omega))
    rw [extW_succ l k (by omega), extH_succ l k (by omega)]
    omega
set_option maxHeartbeats 1600000 in
theorem extent_i (A : Option Addr) (n c : Nat) (xs : List C) (w : World) (hr : Rd w A (vC xs)) (hl : xs.length = n) (hn : n ≤ 1048576) (hs : ∀ d ∈ xs, cor9 d) :
    Calls Tryz.prog 186 #[.slice A n c] w (Ret w (.tuple #[.int .i64 (extW xs n), .int .i64 (extH xs n)])) := by
  have hbd := ext_bd xs hs
  rw [hl] at hbd
  have HL := Lib.hid hl
  have HR := Lib.hid hr
  have HBD := Lib.hid hbd
  have HS := Lib.hid hs
  clear hl hr hbd hs
  go_enter Tryz.func186, Tryz.ntmps186
  go_wp2_with fail
  go_loopw [10, 4, 5] (fun e10 e4 e5 wr => ∃ (k : Nat) (px py : Int), k ≤ n ∧ e10 = .int .i64 k ∧ e4 = .int .i64 px ∧ e5 = .int .i64 py ∧ extW xs k = px ∧ extH xs k = py ∧ Below w.heap.size w wr) (fun e10 _ _ _ => n - (intOf e10).toNat)
  case atStart => exact ⟨0, 0, 0, Nat.zero_le _, rfl, rfl, rfl, rfl, rfl, Below.refl _ _⟩
  case round =>
    obtain ⟨k, px, py, hk, rfl, rfl, rfl, hpx, hpy, hb⟩ := hrel
    have hbd := HBD.out k hk
    rw [hpx, hpy] at hbd
    have HPX := Lib.hid hpx
    have HPY := Lib.hid hpy
    clear hpx hpy
    by_cases hlt : k < n
    · have hkl : k < xs.length := by rw [HL.out]; exact hlt
      have hk0 : (0 : Int) ≤ (k : Int) := by omega
      have hk1 : (k : Int) < (n : Int) := by omega
      obtain ⟨g, off, he, hg, d1, d2⟩ := RdC.at_ (HR.out.below hb) hkl
      subst he
      obtain ⟨⟨q1, q2⟩, q3, q4⟩ := HS.out _ (List.getElem_mem hkl)
      have S1 := extW_succ xs k hkl
      have S2 := extH_succ xs k hkl
      obtain ⟨p, hp⟩ : ∃ p, xs[k].1 = p := ⟨_, rfl⟩
      obtain ⟨q, hq⟩ : ∃ q, xs[k].2 = q := ⟨_, rfl⟩
      rw [hp] at d1 S1 q1 q2
      rw [hq] at d2 S2 q3 q4
      rw [HPX.out] at S1
      rw [HPY.out] at S2
      have e1 : IntKind.i64.wrap (p + 1) = p + 1 := Go.IntWalk.i64_in _ (by omega)
      have e2 : IntKind.i64.wrap (q + 1) = q + 1 := Go.IntWalk.i64_in _ (by omega)
      have HS1 := Lib.hid S1
      have HS2 := Lib.hid S2
      clear hp hq S1 S2
      by_cases h1 : px < p + 1
      · by_cases h2 : py < q + 1
        · have m1 : max px (p + 1) = p + 1 := by omega
          have m2 : max (p + 1) px = p + 1 := by omega
          have m3 : max py (q + 1) = q + 1 := by omega
          have m4 : max (q + 1) py = q + 1 := by omega
          have T1 := HS1.out
          have T2 := HS2.out
          rw [m1] at T1
          rw [m3] at T2
          have HT1 := Lib.hid T1
          have HT2 := Lib.hid T2
          clear T1 T2 HS1 HS2
          go_wp2_with fail
          (refine wp_region_below (by kernel_rfl) (by kernel_rfl) ?_; (repeat (first | go_big_quiet_skip | (refine quietV (v := ?_) (by rfl) rfl (fun w' hbw => ?_) ?_; rotate_left; ((try dsimp only at hbw); have hbc := (bcell hbw).1; have hbf := (bcell hbw).2; go_simp; first | done | with_reducible rfl | fail); simp only [List.setIfInBounds_toArray, List.set_cons_zero, List.set_cons_succ]))); refine wpQuiet_nil ?_; intro wq hbq)
          go_wp2_with fail
          exact ⟨⟨k + 1, p + 1, q + 1, by omega, by go_num, by first | rfl | (simp <;> omega), by first | rfl | (simp <;> omega), HT1.out, HT2.out, bel_trans (bel_alloc hb _) hbq⟩, by simp [intOf]; omega⟩
        · have m1 : max px (p + 1) = p + 1 := by omega
          have m2 : max (p + 1) px = p + 1 := by omega
          have m3 : max py (q + 1) = py := by omega
          have m4 : max (q + 1) py = py := by omega
          have T1 := HS1.out
          have T2 := HS2.out
          rw [m1] at T1
          rw [m3] at T2
          have HT1 := Lib.hid T1
          have HT2 := Lib.hid T2
          clear T1 T2 HS1 HS2
          go_wp2_with fail
          (refine wp_region_below (by kernel_rfl) (by kernel_rfl) ?_; (repeat (first | go_big_quiet_skip | (refine quietV (v := ?_) (by rfl) rfl (fun w' hbw => ?_) ?_; rotate_left; ((try dsimp only at hbw); have hbc := (bcell hbw).1; have hbf := (bcell hbw).2; go_simp; first | done | with_reducible rfl | fail); simp only [List.setIfInBounds_toArray, List.set_cons_zero, List.set_cons_succ]))); refine wpQuiet_nil ?_; intro wq hbq)
          go_wp2_with fail
          exact ⟨⟨k + 1, p + 1, py, by omega, by go_num, by first | rfl | (simp <;> omega), by first | rfl | (simp <;> omega), HT1.out, HT2.out, bel_trans (bel_alloc hb _) hbq⟩, by simp [intOf]; omega⟩
      · by_cases h2 : py < q + 1
        · have m1 : max px (p + 1) = px := by omega
          have m2 : max (p + 1) px = px := by omega
          have m3 : max py (q + 1) = q + 1 := by omega
          have m4 : max (q + 1) py = q + 1 := by omega
          have T1 := HS1.out
          have T2 := HS2.out
          rw [m1] at T1
          rw [m3] at T2
          have HT1 := Lib.hid T1
          have HT2 := Lib.hid T2
          clear T1 T2 HS1 HS2
          go_wp2_with fail
          (refine wp_region_below (by kernel_rfl) (by kernel_rfl) ?_; (repeat (first | go_big_quiet_skip | (refine quietV (v := ?_) (by rfl) rfl (fun w' hbw => ?_) ?_; rotate_left; ((try dsimp only at hbw); have hbc := (bcell hbw).1; have hbf := (bcell hbw).2; go_simp; first | done | with_reducible rfl | fail); simp only [List.setIfInBounds_toArray, List.set_cons_zero, List.set_cons_succ]))); refine wpQuiet_nil ?_; intro wq hbq)
          go_wp2_with fail
          exact ⟨⟨k + 1, px, q + 1, by omega, by go_num, by first | rfl | (simp <;> omega), by first | rfl | (simp <;> omega), HT1.out, HT2.out, bel_trans (bel_alloc hb _) hbq⟩, by simp [intOf]; omega⟩
        · have m1 : max px (p + 1) = px := by omega
          have m2 : max (p + 1) px = px := by omega
          have m3 : max py (q + 1) = py := by omega
          have m4 : max (q + 1) py = py := by omega
          have T1 := HS1.out
          have T2 := HS2.out
          rw [m1] at T1
          rw [m3] at T2
          have HT1 := Lib.hid T1
          have HT2 := Lib.hid T2
          clear T1 T2 HS1 HS2
          go_wp2_with fail
          (refine wp_region_below (by kernel_rfl) (by kernel_rfl) ?_; (repeat (first | go_big_quiet_skip | (refine quietV (v := ?_) (by rfl) rfl (fun w' hbw => ?_) ?_; rotate_left; ((try dsimp only at hbw); have hbc := (bcell hbw).1; have hbf := (bcell hbw).2; go_simp; first | done | with_reducible rfl | fail); simp only [List.setIfInBounds_toArray, List.set_cons_zero, List.set_cons_succ]))); refine wpQuiet_nil ?_; intro wq hbq)
          go_wp2_with fail
          exact ⟨⟨k + 1, px, py, by omega, by go_num, by first | rfl | (simp <;> omega), by first | rfl | (simp <;> omega), HT1.out, HT2.out, bel_trans (bel_alloc hb _) hbq⟩, by simp [intOf]; omega⟩
    · obtain rfl : k = n := by omega
      have hk1 : ¬ (k : Int) < (k : Int) := by omega
      go_wp2_with fail
      go_ret2
      exact ⟨by rw [HPX.out, HPY.out]; rfl, hb⟩
set_option maxHeartbeats 1600000 in
theorem CanonicalShape_i (A : Option Addr) (n c : Nat) (xs : List C) (w : World) (hr : Rd w A (vC xs)) (hl : xs.length = n) (hs : isShape xs = true) :
    Calls Tryz.prog 158 #[.slice A n c] w (RetCan w (canS xs)) := by
  obtain ⟨h1, h8, hx⟩ := or_facts hs
  have hO := OrientationsOf_i A n c xs w hr hl hs
  unfold canS
  obtain ⟨F, hF⟩ : ∃ F, orV xs = F := ⟨_, rfl⟩
  rw [hF] at h1 h8 hx hO ⊢
  have HO := Lib.hid hO
  have HX := Lib.hid hx
  clear hO hx hF hr hl hs
  go_enter Tryz.func158, Tryz.ntmps158
  go_wp2_with fail
  refine HO.out.mono ?_
  rintro e w1 ⟨B, m, cm, hs, rfl, ho, hb1⟩
  obtain ⟨x, f, g, off, hx, hf, hA, hg, d1, hcr⟩ := ho.rd.at_ (show 0 < m by have := ho.flen; omega)
  subst hA
  rw [Nat.add_zero] at d1
  have hm : F.length = m := ho.flen
  have hm1 : ((m : Int) == 0) = false := by rw [beq_eq_false_iff_ne]; omega
  have hm0 : (0 : Int) < (m : Int) := by omega
  have hfl := HX.out f (List.mem_of_getElem? hf)
  have hhd : F.headD [] = f := by
    cases F with
    | nil => simp at hf
    | cons a l => simpa using hf
  obtain ⟨E, q, k⟩ := x
  dsimp only at d1
  have HC := Lib.hid hcr
  have HB := Lib.hid hb1
  have HH := Lib.hid hhd
  have hk8 : q ≤ 8 := by have := hcr.1; dsimp only at this; omega
  clear ho hx hf hfl hcr hb1 hhd HO HX h1 h8
  go_wp2_with fail
  go_ret
  exact ⟨E, q, k, rfl, by rw [HH.out]; exact HC.out.2.1, by rw [HH.out]; exact HC.out.1, hk8, HB.out⟩
set_option maxHeartbeats 1600000 in
theorem IsCongruent_i (A B : Option Addr) (n c m d : Nat) (xs ys : List C) (w : World) (hr : Rd w A (vC xs)) (hl : xs.length = n) (hn : n ≤ 1048576) (hr2 : Rd w B (vC ys)) (hl2 : ys.length = m) (hs2 : isShape ys = true) :
    Calls Tryz.prog 113 #[.slice A n c, .slice B m d] w (Ret w (.bool (congB xs ys))) := by
  have HR := Lib.hid hr
  have HL := Lib.hid hl
  have HR2 := Lib.hid hr2
  have HL2 := Lib.hid hl2
  have HS2 := Lib.hid hs2
  have hm8 : m ≤ 8 := by have := (shape_len hs2).2; omega
  clear hr hl hr2 hl2 hs2
  cases hs : isShape xs with
  | false =>
    have hv : congB xs ys = false := by unfold congB; rw [hs]; simp
    rw [hv]
    have HS := Lib.hid hs
    clear hs hv
    go_enter Tryz.func113, Tryz.ntmps113
    go_wp2_with fail
    refine (IsShape_i A n c xs _ HR.out HL.out (by omega)).mono ?_
    rw [HS.out]
    rintro e w1 ⟨rfl, hb1⟩
    go_wp2_with fail
    go_ret
    exact ⟨rfl, hb1⟩
  | true =>
    have hv : congB xs ys = decide (canS xs = canS ys) := by unfold congB; rw [hs, HS2.out]; rfl
    rw [hv]
    have HS := Lib.hid hs
    clear hs hv
    go_enter Tryz.func113, Tryz.ntmps113
    go_wp2_with fail
    refine (IsShape_i A n c xs _ HR.out HL.out (by omega)).mono ?_
    rw [HS.out]
    rintro e w1 ⟨rfl, hb1⟩
    have HB1 := Lib.hid hb1
    clear hb1
    go_wp2_with fail
    refine (IsShape_i B m d ys _ (HR2.out.below HB1.out) HL2.out (by omega)).mono ?_
    rw [HS2.out]
    rintro e w2 ⟨rfl, hb2⟩
    have HB2 := Lib.hid (bel_trans HB1.out hb2)
    clear hb2
    go_wp2_with fail
    refine (CanonicalShape_i A n c xs _ (HR.out.below HB2.out) HL.out HS.out).mono ?_
    rintro e w3 ⟨D, k, cD, rfl, h3, hk, hk8, hb3⟩
    have HB3 := Lib.hid (bel_trans HB2.out hb3)
    have H3 := Lib.hid h3
    have HK := Lib.hid hk
    clear h3 hk hb3
    go_wp2_with fail
    refine (CanonicalShape_i B m d ys _ (HR2.out.below HB3.out) HL2.out HS2.out).mono ?_
    rintro e w4 ⟨D2, k2, cD2, rfl, h4, hk2, hk28, hb4⟩
    have H34 := Lib.hid (H3.out.below hb4)
    have HB4 := Lib.hid (bel_trans HB3.out hb4)
    have H4 := Lib.hid h4
    have HK2 := Lib.hid hk2
    clear h4 hk2 hb4
    go_wp2_with fail
    refine (EqualShapes_i D D2 k cD k2 cD2 _ _ _ H34.out H4.out HK.out HK2.out (by omega) (by omega)).mono ?_
    rintro e w5 ⟨rfl, hb5⟩
    go_wp2_with fail
    go_ret
    exact ⟨rfl, bel_trans HB4.out hb5⟩
/-! ## Shapes written -/
theorem infoTx : (Tryz.prog.info? 9).map (fun i => (i.zero, i.size, i.bytes)) = some (some (.string ByteArray.empty), 1, 16) := by kernel_rfl
theorem mk_Tx (w : World) (n : Nat) (hn : n ≤ 1048576) : (Instr.makeSlice 97 (.int .i64 (n : Int)) (.int .i64 (n : Int))).run Tryz.prog w = .ok (.slice (some ⟨w.heap.size, 0, none⟩) n n) (w.alloc (.cells (vTx (List.replicate n ⟨#[]⟩)).toArray 9)) := by
  obtain ⟨i0, hi, hz0, hz1, hz2⟩ := info_parts infoTx
  have h := run_make (P := Tryz.prog) w 97 9 i0 _ Tryz.underlying97 hi hz0 .i64 .i64 (n : Int) (n : Int) (by omega) (Int.le_refl _) (by rw [hz2]; omega) (by omega)
  rw [h, hz1]
  have e : madeCells (Value.string ByteArray.empty).cells ((n : Int).toNat * 1) = (vTx (List.replicate n ⟨#[]⟩)).toArray := by
    apply Array.ext'
    rw [show (Value.string ByteArray.empty).cells = #[.string ByteArray.empty] from rfl, toList_madeCells_one]
    simp [vTx]
    exact .inr rfl
  rw [e]
  simp
theorem blkT_cell {w : World} {g : Nat} {t : TypeId} {ys : List ByteArray} (h : Blk w g t (vTx ys).toArray) {k : Nat} (hk : k < ys.length) : w.cell? ⟨g, k, none⟩ = some (.string (ys.getD k ⟨#[]⟩)) := by
  rw [h.cell k]; simp [vTx, hk, List.getD_eq_getElem?_getD]
theorem blkT_set {w : World} {g : Nat} {t : TypeId} {ys : List ByteArray} (h : Blk w g t (vTx ys).toArray) (k : Nat) (v : ByteArray) : Blk (w.setCell ⟨g, k, none⟩ (.string v)) g t (vTx (ys.set k v)).toArray := by
  have e : (vTx (ys.set k v)).toArray = (vTx ys).toArray.setIfInBounds k (.string v) := by simp [vTx, List.map_set]
  rw [e]
  exact h.set_ k _
theorem rep_size (m : Nat) : (⟨(Lib.repeatL [46] m).toArray⟩ : ByteArray).size = m := by
  show ((Lib.repeatL [46] m).toArray).size = m
  rw [List.size_toArray, Lib.repeatL_length]
  simp
theorem rOk_at {h : Nat} {l : List C} (hk : rOk h l = true) {k : Nat} (hl : k < l.length) : 0 ≤ l[k].2 ∧ l[k].2 < (h : Int) ∧ ((((rTo h l k).getD l[k].2.toNat ⟨#[]⟩).size : Nat) : Int) ≤ l[k].1 ∧ l[k].1 ≤ 7 := by
  unfold rOk at hk
  rw [List.all_eq_true] at hk
  have h2 := hk k (List.mem_range.2 hl)
  have e : l.getD k (0, 0) = l[k] := by rw [List.getD_eq_getElem?_getD, List.getElem?_eq_getElem hl]; rfl
  rw [e] at h2
  simpa [Bool.and_eq_true, and_assoc] using h2
theorem rTo_succ (h : Nat) (l : List C) (k : Nat) (hl : k < l.length) : rTo h l (k + 1) = (rTo h l k).set l[k].2.toNat (addB ((rTo h l k).getD l[k].2.toNat ⟨#[]⟩) l[k].1) := by
  have e : l.getD k (0, 0) = l[k] := by rw [List.getD_eq_getElem?_getD, List.getElem?_eq_getElem hl]; rfl
  show (rTo h l k).set (l.getD k (0, 0)).2.toNat _ = _
  rw [e]
theorem Rd.setO {w : World} {A : Option Addr} {vs : List Value} {p : Addr} {u : Value} (h : Rd w A vs) (hp : ∀ g, ob A = some g → g ≠ p.block) : Rd (w.setCell p u) A vs := by
  rcases h with h | ⟨g, off, e, h⟩
  · exact .inl h
  · exact .inr ⟨g, off, e, fun k v hk => keep_set (h k v hk) (fun e2 => hp g (by rw [e]; rfl) (by rw [e2]))⟩
end Go.Proofs.YtkcgdnnipohehaaGreatDoor

/- The program's shapes written. -/
namespace Go.Proofs.YtkcgdnnipohehaaGreatDoor
open Go.RowKit
set_option linter.unusedVariables false
attribute [local go_sem ↓] Go.wp_at_zero Go.wp_at_succ

set_option maxHeartbeats 3200000 in
theorem FormatShape_i (A : Option Addr) (n c : Nat) (xs : List C) (w : World) (hr : Rd w A (vC xs)) (hl : xs.length = n) (hs : isShape xs = true) (hok : rOk (extH (cornI xs) (cornI xs).length).toNat (cornI xs) = true) (hj : (fmtI (cornI xs)).size ≤ 1000) :
    Calls Tryz.prog 156 #[.slice A n c] w (Ret w (.string (fmtI (cornI xs)))) := by
  have hce : cornI xs = cornS xs := cornI_shape hs
  have hcor : ∀ d ∈ cornI xs, cor9 d := fun d hd => by rw [hce] at hd; exact cornS_cor hs d hd
  have hcl : (cornI xs).length = xs.length := by rw [hce]; exact mv_len _ _ _
  have hn8 := (shape_len hs).2
  have hCS := CornerShape_i A n c xs w hr hl hs
  obtain ⟨ys, hys⟩ : ∃ ys, cornI xs = ys := ⟨_, rfl⟩
  rw [hys] at hcor hcl hCS hok hj ⊢
  obtain ⟨k, hk⟩ : ∃ k, ys.length = k := ⟨_, rfl⟩
  have hbd := ext_bd ys hcor k (by omega)
  rw [hk] at hok
  obtain ⟨h, hh⟩ : ∃ h : Nat, extH ys k = (h : Int) := ⟨(extH ys k).toNat, by omega⟩
  rw [hh] at hok
  simp only [Int.toNat_natCast] at hok
  have hfm : fmtI ys = ⟨(Lib.join ((rTo h ys k).map (·.data.toList)) [47]).toArray⟩ := by unfold fmtI; rw [hk, hh]; simp only [Int.toNat_natCast]
  have hh8 : h ≤ 8 := by omega
  have hk8 : k ≤ 8 := by omega
  obtain ⟨Wd, hWd⟩ : ∃ Wd, extW ys k = Wd := ⟨_, rfl⟩
  have HEX : Hid (∀ w' D cD, Rd w' D (vC ys) → Calls Tryz.prog 186 #[.slice D k cD] w' (Ret w' (.tuple #[.int .i64 Wd, .int .i64 (h : Int)]))) := fun w' D cD hrd => by
    have h2 := extent_i D k cD ys w' hrd hk (by omega) hcor
    rw [hh, hWd] at h2
    exact h2
  have HOK := Lib.hid hok
  have HCS := Lib.hid hCS
  have HYL := Lib.hid hk
  have HFM := Lib.hid hfm
  have HJ := Lib.hid hj
  clear hr hl hs hok hj hce hcor hcl hn8 hCS hys hk hbd hh hfm hWd
  go_enter Tryz.func156, Tryz.ntmps156
  go_wp2_with fail
  refine HCS.out.mono ?_
  rintro e w1 ⟨D, m, cD, rfl, hO, hb1⟩
  obtain rfl : m = k := by have := own_len hO; rw [vC_length, HYL.out] at this; omega
  have HR := Lib.hid (Rd.of_own hO)
  have HDL := Lib.hid (fun b e => (own_lt hO b e).2 : ∀ b, ob D = some b → b < w1.heap.size)
  have HB1 := Lib.hid hb1
  clear hO hb1 HCS
  go_wp2_with fail
  refine (HEX.out _ _ _ HR.out).mono ?_
  rintro e w2 ⟨rfl, hb2⟩
  have HR2 := Lib.hid (HR.out.below hb2)
  have HDR := Lib.hid (fun b e => Nat.lt_of_lt_of_le (HDL.out b e) hb2.size : ∀ b, ob D = some b → b < w2.heap.size)
  have HB2 := Lib.hid (bel_trans HB1.out hb2)
  have hmk := mk_Tx w2 h (by omega)
  have HN0 := Lib.hid (Blk.new w2 9 (vTx (List.replicate h ⟨#[]⟩)).toArray)
  have HB3 := Lib.hid (bel_alloc HB2.out (.cells (vTx (List.replicate h ⟨#[]⟩)).toArray 9))
  have HR3 := Lib.hid (HR2.out.alloc (.cells (vTx (List.replicate h ⟨#[]⟩)).toArray 9))
  clear hb2 HEX HR HR2
  go_wp2_with fail
  obtain ⟨w3, hw3⟩ : ∃ w3, w2.alloc (.cells (vTx (List.replicate h ⟨#[]⟩)).toArray 9) = w3 := ⟨_, rfl⟩
  rw [hw3] at HN0 HB3 HR3 ⊢
  have hR : w.heap.size ≤ w2.heap.size := HB2.out.size
  obtain ⟨R, hRR⟩ : ∃ R, w2.heap.size = R := ⟨_, rfl⟩
  rw [hRR] at HN0 hR HDR ⊢
  clear hmk hw3 hRR HB2 HB1
  go_loopw [20] (fun e20 wr => ∃ i : Nat, i ≤ m ∧ e20 = .int .i64 i ∧ Blk wr R 9 (vTx (rTo h ys i)).toArray ∧ Below w.heap.size w wr ∧ Rd wr D (vC ys)) (fun e20 _ => m - (intOf e20).toNat)
  case atStart => exact ⟨0, Nat.zero_le _, rfl, HN0.out, HB3.out, HR3.out⟩
  case round =>
    clear HN0 HB3 HR3
    obtain ⟨i, hi, rfl, hB, hb, hrd⟩ := hrel
    have HB := Lib.hid hB
    have HBL := Lib.hid hb
    have HRD := Lib.hid hrd
    clear hB hb hrd
    by_cases hlt : i < m
    · have hi0 : (0 : Int) ≤ (i : Int) := by omega
      have hi1 : (i : Int) < (m : Int) := by omega
      have hky : i < ys.length := by rw [HYL.out]; exact hlt
      obtain ⟨g, off, hD, hg, d1, d2⟩ := RdC.at_ HRD.out hky
      obtain ⟨r0, r1, r2, r3⟩ := rOk_at HOK.out hky
      have hst := rTo_succ h ys i hky
      have hrl := rTo_len h ys i
      obtain ⟨⟨x, y⟩, hxy⟩ : ∃ p, ys[i] = p := ⟨_, rfl⟩
      rw [hxy] at d1 d2 r0 r1 r2 r3 hst
      dsimp only at d1 d2 r0 r1 r2 r3 hst
      obtain ⟨yn, rfl⟩ : ∃ yn : Nat, y = (yn : Int) := ⟨y.toNat, by omega⟩
      simp only [Int.toNat_natCast] at r2 hst
      have cR := blkT_cell HB.out (k := yn) (by rw [hrl]; omega)
      obtain ⟨r, hr⟩ : ∃ r, (rTo h ys i).getD yn ⟨#[]⟩ = r := ⟨_, rfl⟩
      have HRQ := Lib.hid hr
      rw [hr] at cR r2 hst
      obtain ⟨q, hq⟩ : ∃ q : Nat, x - (r.size : Int) = (q : Int) := ⟨(x - (r.size : Int)).toNat, by omega⟩
      have hw : IntKind.i64.wrap (x - (r.size : Int)) = (q : Int) := by rw [Go.IntWalk.i64_in _ (by omega)]; exact hq
      unfold addB at hst
      rw [hq] at hst
      simp only [Int.toNat_natCast] at hst
      have hus := rep_size q
      have hq7 : q ≤ 7 := by omega
      have HREP : Hid (∀ w', Calls Tryz.prog 187 #[.string ⟨#[46]⟩, .int .i64 (q : Int)] w' (Ret w' (.string ⟨(Lib.repeatL [46] q).toArray⟩))) := fun w' => (Tryz.strings_Repeat ⟨#[46]⟩ q w' (by omega) (by show 1 * q ≤ _; omega)).mono fun e w2 hq => hq
      obtain ⟨u, hu⟩ : ∃ u, (⟨(Lib.repeatL [46] q).toArray⟩ : ByteArray) = u := ⟨_, rfl⟩
      rw [hu] at hst hus HREP
      have fR := HB.out.frozen yn
      have hRl := HB.out.lt
      have HST := Lib.hid hst
      have hgR : g < R := HDR.out g (by rw [hD]; rfl)
      subst hD
      have ba := bel_alloc (Below.refl wr.heap.size wr) (.cells #[.int .i64 x, .int .i64 (yn : Int)] 87)
      have HNC := Lib.hid (Blk.new wr 87 #[.int .i64 x, .int .i64 (yn : Int)])
      have HBV := Lib.hid (HB.out.below ba)
      have HBLV := Lib.hid (bel_trans HBL.out ba)
      have HRV := Lib.hid (HRD.out.below ba)
      obtain ⟨v, hv⟩ : ∃ v, wr.alloc (.cells #[.int .i64 x, .int .i64 (yn : Int)] 87) = v := ⟨_, rfl⟩
      rw [hv] at HNC HBV HBLV HRV ba
      have HV := Lib.hid hv
      have bz := ba.size
      clear hu hxy hr hq hst hv hrl ba
      go_upto_region 7 with fail
      rw [HV.out]
      clear HV d1 d2 cR fR
      have c0 : v.cell? ⟨wr.heap.size, 0, none⟩ = some (.int .i64 x) := by simpa using HNC.out.cell 0
      have c1 : v.cell? ⟨wr.heap.size, 1, none⟩ = some (.int .i64 (yn : Int)) := by simpa using HNC.out.cell 1
      have cR := blkT_cell HBV.out (k := yn) (by rw [rTo_len]; omega)
      rw [HRQ.out] at cR
      have fR := HBV.out.frozen yn
      have gl := HBV.out.lt
      have gc := HNC.out.lt
      have hne : R ≠ wr.heap.size := by omega
      have hne2 : wr.heap.size ≠ R := fun h => hne h.symm
      obtain ⟨gC, hgC⟩ : ∃ gC, wr.heap.size = gC := ⟨_, rfl⟩
      rw [hgC] at c0 c1 gc hne hne2 ⊢
      clear hgC bz hRl
      go_region_with (go_at_call 187; refine (HREP.out _).mono ?_; rintro e w5 ⟨rfl, hb5⟩; have k0 := keep_below hb5 c0; have k1 := keep_below hb5 c1; have k2 := keep_below hb5 cR; have k3 := (hb5.frozen (p := ⟨R, yn, none⟩) gl).trans fR; have k4 : R < w5.heap.size := World.block_lt_of_cell? w5 _ k2; have HB5 := Lib.hid (bel_trans (bel_drew (Below.refl v.heap.size v)) hb5))
      all_goals go_wp2_with fail
      all_goals exact ⟨⟨i + 1, by omega, by go_num, by rw [HST.out]; exact blkT_set ((HBV.out.below (bel_drew (Below.refl v.heap.size v))).below hb5) yn _, bel_set (bel_trans HBLV.out HB5.out) hR, (HRV.out.below HB5.out).setO (fun g2 e => by simp only [ob, Option.map_some, Option.some.injEq] at e; simp only; omega)⟩, by simp [intOf]; omega⟩
    · obtain rfl : i = m := by omega
      have hi1 : ¬ (i : Int) < (i : Int) := by omega
      have hJ : Calls Tryz.prog 188 #[.slice (some ⟨R, 0, none⟩) h h, .string ⟨#[47]⟩] wr (Ret wr (.string (fmtI ys))) := by
        have hrl := rTo_len h ys i
        have h2 := Tryz.strings_Join R 0 h (rTo h ys i) ⟨#[47]⟩ wr (fun j x hx => by
          obtain ⟨hj, rfl⟩ := List.getElem?_eq_some_iff.1 hx
          rw [Nat.zero_add, blkT_cell HB.out hj, List.getD_eq_getElem?_getD, List.getElem?_eq_getElem hj]
          rfl) HB.out.lt (by omega) (by omega) (by
          have h3 := HJ.out
          rw [HFM.out] at h3
          have h4 : (Lib.join ((rTo h ys i).map (·.data.toList)) [47]).length ≤ 1000 := by
            have : ((Lib.join ((rTo h ys i).map (·.data.toList)) [47]).toArray).size ≤ 1000 := h3
            rwa [List.size_toArray] at this
          show (Lib.join ((rTo h ys i).map (·.data.toList)) [47]).length ≤ _
          omega)
        rw [hrl] at h2
        rw [HFM.out]
        exact h2
      have HJN := Lib.hid hJ
      clear hJ
      go_wp2_with fail
      refine HJN.out.mono ?_
      rintro e w4 ⟨rfl, hb4⟩
      have HB4 := Lib.hid (bel_trans HBL.out hb4)
      clear hb4
      go_wp2_with fail
      go_ret
      exact ⟨rfl, HB4.out⟩
end Go.Proofs.YtkcgdnnipohehaaGreatDoor

/- The program's pieces: texts read, names. -/
namespace Go.Proofs.YtkcgdnnipohehaaGreatDoor
open Go.RowKit
set_option linter.unusedVariables false
attribute [local go_sem ↓] Go.wp_at_zero Go.wp_at_succ

/-- The library's bound holds a number. -/
def Mx (w : World) : Prop := ∃ m, w.cell? ⟨2, 0, none⟩ = some (.int .i64 m)
theorem Mx.below {w w' : World} (h : Mx w) (hb : Below w.heap.size w w') : Mx w' := by
  obtain ⟨m, hm⟩ := h
  exact ⟨m, keep_below hb hm⟩
/-- What the program makes of a piece's text. -/
structure TxI (t : ByteArray) : Prop where
  rows : pRows (rowsT t) (rowsT t).length = parsV t
  nine : ∀ r ∈ rowsT t, r.size ≤ 9
  few : (rowsT t).length ≤ 9
  cnt : Lib.countB t ⟨#[47]⟩ + 1 = (rowsT t).length
  ok : rOk (extH (cornI (parsV t)) (cornI (parsV t)).length).toNat (cornI (parsV t)) = true
  fmt : fmtI (cornI (parsV t)) = t
theorem TxI.of {t : ByteArray} (h : txOkI t = true) : TxI t := by
  unfold txOkI at h
  simp only [Bool.and_eq_true, decide_eq_true_eq, List.all_eq_true] at h
  obtain ⟨h1, h2, h3, h4, h5, h6⟩ := h
  exact ⟨h1, h2, h3, h4, h5, h6⟩
theorem tx_atI (k : Nat) (h : k < 12) : TxI (txL.getD k ⟨#[]⟩) := by
  rw [List.getD_eq_getElem?_getD, List.getElem?_eq_getElem (by rw [tx_len]; exact h)]
  have h2 := tx_okI
  rw [List.all_eq_true] at h2
  exact TxI.of (h2 _ (List.getElem_mem _))
theorem pRow_len (y : Nat) (row : List UInt8) (xs : List C) (h : xs.length ≤ 9) : ∀ k, (pRow y row xs k).length ≤ 9
  | 0 => h
  | k + 1 => by
    have := pRow_len y row xs h k
    unfold pRow
    split
    · next h2 => rw [List.length_append]; simp; omega
    · exact this
theorem pRows_len (P : List ByteArray) : ∀ k, (pRows P k).length ≤ 9
  | 0 => by simp [pRows]
  | k + 1 => pRow_len _ _ _ (pRows_len P k) _
theorem pRow_succ (y : Nat) (row : List UInt8) (xs : List C) (k : Nat) : pRow y row xs (k + 1) = if row.getD k 0 = 35 ∧ (pRow y row xs k).length ≤ 8 then pRow y row xs k ++ [((k : Int), (y : Int))] else pRow y row xs k := rfl
theorem pRows_succ (P : List ByteArray) (k : Nat) : pRows P (k + 1) = pRow k (P.getD k ⟨#[]⟩).data.toList (pRows P k) (P.getD k ⟨#[]⟩).size := rfl
set_option maxHeartbeats 3200000 in
theorem ParseShape_i (t : ByteArray) (w : World) (hmx : Mx w) (htx : TxOk t) (hti : TxI t) :
    Calls Tryz.prog 111 #[.string t] w (RetPX w (parsV t) true) := by
  obtain ⟨mx, hmx⟩ := hmx
  have hSP := Tryz.strings_Split t ⟨#[47]⟩ mx w (by have := htx.nine; omega) hmx (by decide)
  have hdl : t.data.toList ≠ [] := fun h => by
    have h1 := htx.one
    rw [← data_lenP, h] at h1
    simp at h1
  have hne : t.toList.isEmpty = false := by
    rw [ByteArray.toList_eq]
    cases h : t.data.toList with
    | nil => exact absurd h hdl
    | cons a l => rfl
  have hne2 : (t.toList == []) = false := by
    rw [ByteArray.toList_eq, beq_eq_false_iff_ne]
    exact hdl
  have hne3 : ¬ t.toList = [] := by rw [ByteArray.toList_eq]; exact hdl
  clear hdl
  obtain ⟨P, hP⟩ : ∃ P, rowsT t = P := ⟨_, rfl⟩
  have hP2 : Lib.splitB ⟨#[47]⟩ 0 (Lib.countB t ⟨#[47]⟩) t = P := hP
  have hc := hti.cnt
  have h9 := hti.nine
  have hf := hti.few
  have hrw := hti.rows
  rw [hP] at hc h9 hf hrw
  rw [hP2, hc] at hSP
  obtain ⟨q, hq⟩ : ∃ q, P.length = q := ⟨_, rfl⟩
  rw [hq] at hSP hf hrw
  have HFS : Hid (∀ w' A n c, Rd w' A (vC (parsV t)) → (parsV t).length = n → Calls Tryz.prog 156 #[.slice A n c] w' (Ret w' (.string t))) := fun w' A n c hrd hl => by
    have h2 := FormatShape_i A n c (parsV t) w' hrd hl htx.shp hti.ok (by rw [hti.fmt]; have := htx.nine; omega)
    rw [hti.fmt] at h2
    exact h2
  obtain ⟨V, hV⟩ : ∃ V, parsV t = V := ⟨_, rfl⟩
  rw [hV] at HFS hrw ⊢
  have HSP := Lib.hid hSP
  have HQ := Lib.hid hq
  have H9 := Lib.hid h9
  have HRW := Lib.hid hrw
  have htt : (t.toList == t.toList) = true := by simp
  have hsz : (t.size : Int) ≤ 1000 := by have := htx.nine; omega
  clear hSP hP hP2 hc h9 hrw hq hV hmx htx hti
  go_enter Tryz.func111, Tryz.ntmps111
  go_wp2_with fail
  refine HSP.out.mono ?_
  rintro e w1 ⟨rfl, hw1⟩
  have HE := Lib.hid (by rw [hw1]; exact rd_new w 9 (vTx P).toArray : Rd w1 (some ⟨w.heap.size, 0, none⟩) (vTx P))
  have HB1 := Lib.hid (by rw [hw1]; exact bel_alloc (Below.refl _ _) _ : Below w.heap.size w w1)
  obtain ⟨E, hE⟩ : ∃ E, (some ⟨w.heap.size, 0, none⟩ : Option Addr) = E := ⟨_, rfl⟩
  rw [hE] at HE ⊢
  clear hw1 hE HSP
  go_wp2_with fail
  go_loopw [11, 4] (fun e11 e4 wr => ∃ (y k cD : Nat) (D : Option Addr), y ≤ q ∧ e11 = .int .i64 y ∧ e4 = .slice D k cD ∧ wr.ownsRow w1.heap.size 87 2 (.slice D k cD) k (vC (pRows P y)) ∧ Below w1.heap.size w1 wr) (fun e11 _ _ => q - (intOf e11).toNat)
  case atStart => exact ⟨0, 0, 0, none, Nat.zero_le _, rfl, rfl, own_nil _ _ _ _, Below.refl _ _⟩
  case round =>
    obtain ⟨y, k, cD, D, hy, rfl, rfl, hO, hb⟩ := hrel
    have HO := Lib.hid hO
    have HB := Lib.hid hb
    clear hO hb
    by_cases hlt : y < q
    · have hy0 : (0 : Int) ≤ (y : Int) := by omega
      have hy1 : (y : Int) < (q : Int) := by omega
      have hyP : y < P.length := by rw [HQ.out]; exact hlt
      obtain ⟨g1, o1, hA1, hg1, hx⟩ := RdTx.at_ (HE.out.below HB.out) hyP
      have hst := pRows_succ P y
      have hr9 : (P.getD y ⟨#[]⟩).size ≤ 9 := by rw [List.getD_eq_getElem?_getD, List.getElem?_eq_getElem hyP]; exact H9.out _ (List.getElem_mem hyP)
      obtain ⟨r, hr⟩ : ∃ r, P.getD y ⟨#[]⟩ = r := ⟨_, rfl⟩
      have hl9 := pRows_len P y
      rw [hr] at hx hst hr9
      obtain ⟨xs0, hxs0⟩ : ∃ xs0, pRows P y = xs0 := ⟨_, rfl⟩
      rw [hxs0] at hst hl9 HO
      have HST := Lib.hid hst
      have HEA := Lib.hid hA1
      subst hA1
      clear hr hxs0 hst
      go_wp2_with fail
      clear hx
      go_loopw [7, 4] (fun e7 e4 wq => ∃ (x k2 c2 : Nat) (D2 : Option Addr), x ≤ r.size ∧ e7 = .int .i64 x ∧ e4 = .slice D2 k2 c2 ∧ wq.ownsRow w1.heap.size 87 2 (.slice D2 k2 c2) k2 (vC (pRow y r.data.toList xs0 x)) ∧ Below w1.heap.size w1 wq) (fun e7 _ _ => r.size - (intOf e7).toNat)
      case atStart => exact ⟨0, k, cD, D, Nat.zero_le _, rfl, rfl, HO.out, HB.out⟩
      case round =>
        clear HO HB
        obtain ⟨x, k2, c2, D2, hx, rfl, rfl, hO, hb⟩ := hrel
        have hl2 := pRow_len y r.data.toList xs0 hl9 x
        have hstx := pRow_succ y r.data.toList xs0 x
        obtain ⟨xs, hxs⟩ : ∃ xs, pRow y r.data.toList xs0 x = xs := ⟨_, rfl⟩
        rw [hxs] at hO hl2 hstx
        have hkl : xs.length = k2 := by have := own_len hO; rw [vC_length] at this; omega
        have HO := Lib.hid hO
        have HB := Lib.hid hb
        have HKL := Lib.hid hkl
        have hk9 : k2 ≤ 9 := by omega
        by_cases hltx : x < r.size
        · have hx0 : (0 : Int) ≤ (x : Int) := by omega
          have hx1 : (x : Int) < (r.size : Int) := by omega
          have hge : r.data.toList.getD x 0 = r[x] := by rw [List.getD_eq_getElem?_getD, List.getElem?_eq_getElem (by rw [data_lenP]; exact hltx)]; rfl
          rw [hge, hkl] at hstx
          by_cases e1 : r[x] = 35
          · have hsel : ((r[x].toNat : Int) == 35) = true := by rw [e1]; rfl
            by_cases h8 : k2 ≤ 8
            · have h8i : (k2 : Int) ≤ 8 := by omega
              have hnx : pRow y r.data.toList xs0 (x + 1) = xs ++ [((x : Int), (y : Int))] := by rw [hstx, if_pos ⟨e1, h8⟩]
              have HNX := Lib.hid hnx
              have hlo := own_lt hO
              have hsw : w1.heap.size ≤ wr.heap.size := hb.size
              clear e1 hge hstx hnx hO hb hkl hxs
              go_wp2_with (at_builtin; go_must (refine app_C _ rfl _ _ rfl w1.heap.size _ _ _ xs rfl (HO.out.alloc _) _ _ _ [((x : Int), (y : Int))] rfl (rd_newC _ _ _ _) rfl (by omega) (by simp; omega) ?_); intro D6 c6 w8 ho6 hg6 hat6; have HO8 := Lib.hid ho6; have HG8 := Lib.hid hg6; clear ho6 hg6 hat6)
              exact ⟨⟨x + 1, k2 + 1, c6, D6, by omega, by go_num, rfl, by rw [HNX.out]; exact HO8.out, bel_app (bel_alloc HB.out _) HG8.out (fun b e => (hlo b e).1)⟩, by simp [intOf]; omega⟩
            · have h8i : ¬ (k2 : Int) ≤ 8 := by omega
              have hnx : pRow y r.data.toList xs0 (x + 1) = xs := by rw [hstx, if_neg (fun h => h8 h.2)]
              have HNX := Lib.hid hnx
              clear e1 hge hstx hnx hO hb hkl hxs
              go_wp2_with fail
              exact ⟨⟨x + 1, k2, c2, D2, by omega, by go_num, rfl, by rw [HNX.out]; exact HO.out, HB.out⟩, by simp [intOf]; omega⟩
          · have hsel : ((r[x].toNat : Int) == 35) = false := u8_neq e1
            have hnx : pRow y r.data.toList xs0 (x + 1) = xs := by rw [hstx, if_neg (fun h => e1 h.1)]
            have HNX := Lib.hid hnx
            clear e1 hge hstx hnx hO hb hkl hxs
            go_wp2_with fail
            exact ⟨⟨x + 1, k2, c2, D2, by omega, by go_num, rfl, by rw [HNX.out]; exact HO.out, HB.out⟩, by simp [intOf]; omega⟩
        · obtain rfl : x = r.size := by omega
          have hx1 : ¬ (r.size : Int) < (r.size : Int) := by omega
          have hnx : pRows P (y + 1) = xs := by rw [HST.out, hxs]
          have HNX := Lib.hid hnx
          clear hstx hnx hO hb hkl hxs
          go_wp2_with fail
          exact ⟨⟨y + 1, k2, c2, D2, by omega, by go_num, rfl, by rw [HNX.out]; exact HO.out, HB.out⟩, by simp [intOf]; omega⟩
    · obtain rfl : y = q := by omega
      have hy1 : ¬ (y : Int) < (y : Int) := by omega
      rw [HRW.out] at HO
      have hkl : V.length = k := by have := own_len HO.out; rw [vC_length] at this; omega
      have HKL := Lib.hid hkl
      clear hkl
      go_wp2_with fail
      refine (HFS.out _ D k cD (Rd.of_own HO.out) HKL.out).mono ?_
      rintro e w2 ⟨rfl, hb2⟩
      have HO2 := Lib.hid (own_keep HO.out hb2)
      have HB2 := Lib.hid (bel_trans HB1.out (bel_trans HB.out hb2))
      have hz1 := HB1.out.size
      clear hb2
      go_wp2_with fail
      go_ret2
      exact ⟨D, k, cD, rfl, own_base HO2.out hz1, HB2.out⟩
end Go.Proofs.YtkcgdnnipohehaaGreatDoor

/- The program's pieces by their names. -/
namespace Go.Proofs.YtkcgdnnipohehaaGreatDoor
open Go.RowKit
set_option linter.unusedVariables false
attribute [local go_sem ↓] Go.wp_at_zero Go.wp_at_succ

def vP2 : List (ByteArray × ByteArray) → List Value
  | [] => []
  | p :: l => .string p.1 :: .string p.2 :: vP2 l
theorem vP2_get : ∀ (l : List (ByteArray × ByteArray)) (k : Nat), k < l.length → (vP2 l)[k * 2]? = some (.string (l.getD k (⟨#[]⟩, ⟨#[]⟩)).1) ∧ (vP2 l)[k * 2 + 1]? = some (.string (l.getD k (⟨#[]⟩, ⟨#[]⟩)).2)
  | [], k, h => absurd h (Nat.not_lt_zero _)
  | p :: l, 0, _ => ⟨rfl, rfl⟩
  | p :: l, k + 1, h => by
    have h2 := vP2_get l k (by simpa using h)
    rw [show (k + 1) * 2 = k * 2 + 1 + 1 by omega]
    simpa [vP2] using h2
def pcs12 : List (ByteArray × ByteArray) := nmL.zip txL
theorem pcs_at : ∀ k : Fin 12, pcs12.getD k.val (⟨#[]⟩, ⟨#[]⟩) = (nmL.getD k.val ⟨#[]⟩, txL.getD k.val ⟨#[]⟩) := by decide +kernel
theorem nm_ne : ∀ i k : Fin 12, i ≠ k → nmL.getD i.val ⟨#[]⟩ ≠ nmL.getD k.val ⟨#[]⟩ := by decide +kernel
theorem nm_no : ∀ t ∈ ([⟨#[]⟩, ⟨#[105, 50]⟩, ⟨#[90, 57]⟩] : List ByteArray), ∀ i : Fin 12, nmL.getD i.val ⟨#[]⟩ ≠ t := by decide +kernel
theorem tl_ne {a b : ByteArray} (h : a ≠ b) : (a.toList == b.toList) = false := by
  rw [ByteArray.toList_eq, ByteArray.toList_eq, beq_eq_false_iff_ne]
  intro e
  obtain ⟨x⟩ := a
  obtain ⟨y⟩ := b
  exact h (congrArg ByteArray.mk (Array.toList_inj.1 e))
theorem RdP2.at_ {w : World} {A : Option Addr} {k : Nat} (h : Rd w A (vP2 pcs12)) (hk : k < 12) :
    ∃ g off, A = some ⟨g, off, none⟩ ∧ g < w.heap.size ∧ w.cell? ⟨g, off + k * 2, none⟩ = some (.string (nmL.getD k ⟨#[]⟩)) ∧ w.cell? ⟨g, off + k * 2 + 1, none⟩ = some (.string (txL.getD k ⟨#[]⟩)) := by
  obtain ⟨h1, h2⟩ := vP2_get pcs12 k hk
  rw [pcs_at ⟨k, hk⟩] at h1 h2
  rcases h with h | ⟨g, off, e, h⟩
  · rw [h] at h1
    simp at h1
  · have h3 := h _ _ h1
    have h4 := h _ _ h2
    exact ⟨g, off, e, World.block_lt_of_cell? w _ h3, h3, by rw [Nat.add_assoc]; exact h4⟩
theorem pieces_i (w : World) : Calls Tryz.prog 110 #[] w (fun e w' => ∃ A, e = .returned (.slice A 12 12) ∧ Rd w' A (vP2 pcs12) ∧ Below w.heap.size w w') := by
  have hr := rd_new w 103 (vP2 pcs12).toArray
  have HR := Lib.hid hr
  clear hr
  go_enter Tryz.func110, Tryz.ntmps110
  go_wp2_with fail
  go_ret
  exact ⟨_, rfl, HR.out, bel_alloc (Below.refl _ _) _⟩
set_option maxHeartbeats 1600000 in
theorem PieceNamed_i (t : ByteArray) (K : Nat) (w : World) (hmx : Mx w) (hK : K ≤ 12) (hno : ∀ i, i < K → nmL.getD i ⟨#[]⟩ ≠ t) (hat : K < 12 → nmL.getD K ⟨#[]⟩ = t) :
    Calls Tryz.prog 47 #[.string t] w (RetPX w (pcL.getD K []) (decide (K < 12))) := by
  have HMX := Lib.hid hmx
  have HNO := Lib.hid hno
  have HAT := Lib.hid hat
  clear hmx hno hat
  go_enter Tryz.func47, Tryz.ntmps47
  go_wp2_with fail
  refine (pieces_i w).mono ?_
  rintro e w1 ⟨A, rfl, hA, hb1⟩
  have HA := Lib.hid hA
  have HB1 := Lib.hid hb1
  clear hA hb1
  go_wp2_with fail
  go_loopw [8] (fun e8 wr => ∃ i : Nat, i ≤ K ∧ e8 = .int .i64 i ∧ Below w1.heap.size w1 wr) (fun e8 _ => 12 - (intOf e8).toNat)
  case atStart => exact ⟨0, Nat.zero_le _, rfl, Below.refl _ _⟩
  case round =>
    obtain ⟨i, hi, rfl, hb⟩ := hrel
    by_cases h12 : i < 12
    · have hi0 : (0 : Int) ≤ (i : Int) := by omega
      have hi1 : (i : Int) < 12 := by omega
      obtain ⟨g, off, hAe, hg, d1, d2⟩ := RdP2.at_ (HA.out.below hb) h12
      subst hAe
      by_cases hlt : i < K
      · have hne := tl_ne (HNO.out i hlt)
        obtain ⟨u, hu⟩ : ∃ u, nmL.getD i ⟨#[]⟩ = u := ⟨_, rfl⟩
        obtain ⟨x, hx⟩ : ∃ x, txL.getD i ⟨#[]⟩ = x := ⟨_, rfl⟩
        rw [hu] at d1 hne
        rw [hx] at d2
        clear hu hx
        go_wp2_with fail
        exact ⟨⟨i + 1, by omega, by go_num, bel_alloc hb _⟩, by simp [intOf]; omega⟩
      · obtain rfl : i = K := by omega
        have hu := HAT.out h12
        have hPS : Hid (∀ w', Mx w' → Calls Tryz.prog 111 #[.string (txL.getD i ⟨#[]⟩)] w' (RetPX w' (pcL.getD i []) true)) := fun w' hm => by rw [pc_at i h12]; exact ParseShape_i _ w' hm (tx_at i h12) (tx_atI i h12)
        obtain ⟨x, hx⟩ : ∃ x, txL.getD i ⟨#[]⟩ = x := ⟨_, rfl⟩
        obtain ⟨p, hp⟩ : ∃ p, pcL.getD i [] = p := ⟨_, rfl⟩
        rw [hu] at d1
        rw [hx] at d2 hPS
        rw [hp] at hPS ⊢
        have htt : (t.toList == t.toList) = true := by simp
        have hdd : decide (i < 12) = true := decide_eq_true h12
        rw [hdd]
        have HMR := Lib.hid (HMX.out.below (bel_trans HB1.out hb))
        have HB2 := Lib.hid (bel_trans HB1.out hb)
        clear hu hx hp hb hdd
        go_wp2_with fail
        refine (hPS.out _ (HMR.out.below (bel_alloc (Below.refl _ _) _))).mono ?_
        rintro e w2 ⟨D, k, cD, rfl, hO, hb2⟩
        have HB3 := Lib.hid (bel_trans (bel_alloc HB2.out _) hb2)
        have hz := (bel_alloc HB2.out (.cells #[.string t, .string x] 103)).size
        have HO := Lib.hid (own_base hO hz)
        clear hO hb2 hz
        go_wp2_with fail
        go_ret2
        exact ⟨D, k, cD, rfl, HO.out, HB3.out⟩
    · obtain rfl : i = 12 := by omega
      obtain rfl : K = 12 := by omega
      have hi1 : ¬ ((12 : Nat) : Int) < 12 := by omega
      go_wp2_with fail
      go_ret2
      exact ⟨none, 0, 0, rfl, own_nil _ _ _ _, bel_trans HB1.out hb⟩
set_option maxHeartbeats 1600000 in
theorem NameOfPiece_i (A : Option Addr) (n c : Nat) (xs : List C) (w : World) (hmx : Mx w) (hr : Rd w A (vC xs)) (hl : xs.length = n) (hn : n ≤ 1048576) :
    Calls Tryz.prog 49 #[.slice A n c] w (Ret w (.string (nameV xs))) := by
  have HR := Lib.hid hr
  have HL := Lib.hid hl
  have HMX := Lib.hid hmx
  clear hr hl hmx
  go_enter Tryz.func49, Tryz.ntmps49
  go_wp2_with fail
  refine (pieces_i w).mono ?_
  rintro e w1 ⟨E, rfl, hE, hb1⟩
  have HE := Lib.hid hE
  have HB1 := Lib.hid hb1
  clear hE hb1
  go_wp2_with fail
  go_loopw [9] (fun e9 wr => ∃ i : Nat, i ≤ 12 ∧ e9 = .int .i64 i ∧ (∀ j, j < i → congB xs (pcL.getD j []) = false) ∧ Below w1.heap.size w1 wr) (fun e9 _ => 12 - (intOf e9).toNat)
  case atStart => exact ⟨0, Nat.zero_le _, rfl, fun j h => absurd h (Nat.not_lt_zero _), Below.refl _ _⟩
  case round =>
    obtain ⟨i, hi, rfl, hno, hb⟩ := hrel
    have HNO := Lib.hid hno
    have HB := Lib.hid hb
    clear hno hb
    by_cases hlt : i < 12
    · have hi0 : (0 : Int) ≤ (i : Int) := by omega
      have hi1 : (i : Int) < 12 := by omega
      obtain ⟨g1, o1, hA1, hg1, d1, d2⟩ := RdP2.at_ (HE.out.below HB.out) hlt
      subst hA1
      have hPS : Hid (∀ w', Mx w' → Calls Tryz.prog 111 #[.string (txL.getD i ⟨#[]⟩)] w' (RetPX w' (pcL.getD i []) true)) := fun w' hm => by rw [pc_at i hlt]; exact ParseShape_i _ w' hm (tx_at i hlt) (tx_atI i hlt)
      have hsh := pc_shape i hlt
      have hhit := piece_hit (xs := xs) hlt HNO.out
      obtain ⟨t, ht⟩ : ∃ t, nmL.getD i ⟨#[]⟩ = t := ⟨_, rfl⟩
      obtain ⟨x, hx⟩ : ∃ x, txL.getD i ⟨#[]⟩ = x := ⟨_, rfl⟩
      obtain ⟨p, hp⟩ : ∃ p, pcL.getD i [] = p := ⟨_, rfl⟩
      rw [ht] at d1 hhit
      rw [hx] at d2 hPS
      rw [hp] at hPS hsh hhit
      obtain ⟨b, hbq⟩ : ∃ b, congB xs p = b := ⟨_, rfl⟩
      rw [hbq] at hhit
      have HSH := Lib.hid hsh
      have HHI := Lib.hid hhit
      have HBQ := Lib.hid hbq
      have HP := Lib.hid hp
      have HMR := Lib.hid (HMX.out.below (bel_trans HB1.out HB.out))
      have HBA := Lib.hid (bel_alloc HB.out (.cells #[.string t, .string x] 103))
      have HNC := Lib.hid (Blk.new wr 103 #[.string t, .string x])
      clear ht hx hp hbq hsh hhit
      go_wp2_with fail
      refine (hPS.out _ (HMR.out.below (bel_alloc (Below.refl _ _) _))).mono ?_
      rintro e w2 ⟨D, k, cD, rfl, hO, hb2⟩
      have hpk : p.length = k := by have := own_len hO; rw [vC_length] at this; omega
      have HO := Lib.hid (Rd.of_own hO)
      have HPK := Lib.hid hpk
      have HB2 := Lib.hid (bel_trans HBA.out hb2)
      have HN2 := Lib.hid (HNC.out.below hb2)
      clear hO hpk hb2 hPS d1 d2
      go_wp2_with fail
      refine (IsCongruent_i A D n c k cD xs p _ (HR.out.below (bel_trans HB1.out HB2.out)) HL.out hn HO.out HPK.out HSH.out).mono ?_
      rw [HBQ.out]
      rintro e w3 ⟨rfl, hb3⟩
      have HB3 := Lib.hid (bel_trans HB2.out hb3)
      have c0 : w3.cell? ⟨wr.heap.size, 0, none⟩ = some (.string t) := by simpa using (HN2.out.below hb3).cell 0
      clear hb3
      cases b with
      | true =>
        have HH := Lib.hid (HHI.out rfl)
        clear HHI HBQ HP
        go_wp2_with fail
        go_ret
        exact ⟨by rw [HH.out]; rfl, bel_trans HB1.out HB3.out⟩
      | false =>
        clear HHI
        go_wp2_with fail
        exact ⟨⟨i + 1, by omega, by go_num, fun j hj => by
          by_cases h : j < i
          · exact HNO.out j h
          · obtain rfl : j = i := by omega
            rw [HP.out]
            exact HBQ.out, HB3.out⟩, by simp [intOf]; omega⟩
    · obtain rfl : i = 12 := by omega
      have HV := Lib.hid (piece_none HNO.out)
      go_wp2_with fail
      go_ret
      exact ⟨by rw [HV.out]; rfl, bel_trans HB1.out HB.out⟩
end Go.Proofs.YtkcgdnnipohehaaGreatDoor

/- The draws of the law on growth. -/
namespace Go.Proofs.YtkcgdnnipohehaaGreatDoor
open Go.RowKit
set_option linter.unusedVariables false
attribute [local go_sem ↓] Go.wp_at_zero Go.wp_at_succ
/-- A number below a bound, less one; nothing that was there is written. -/
def RetNd (w : World) (m : Nat) (e : Ending) (w' : World) : Prop := ∃ q : Nat, e = .returned (.int .i64 ((q : Int) - 1)) ∧ q < m ∧ Below w.heap.size w w'
/-- A short list of cells; nothing that was there is written. -/
def RetCl (w : World) (e : Ending) (w' : World) : Prop := ∃ D k cD xs, e = .returned (.slice D k cD) ∧ Rd w' D (vC xs) ∧ xs.length = k ∧ k ≤ 1048576 ∧ k ≤ cD ∧ Below w.heap.size w w'
theorem grown_newD {w w1 w2 : World} {g : Nat} (h : Below w.heap.size w w1) (hg : w.heap.size ≤ g) (k : w1.grownBy w2 (some g)) : Below w.heap.size w w2 := h.grown k h.size (fun g' e => by injection e with e; omega)
theorem l1Once_s (A : Option Addr) (n c g k : Nat) (bs : List UInt8) (w : World) (hc : Cur w g A n c bs) (hn : n ≤ 1048576) (hk1 : 1 ≤ k) (hk : k ≤ 256) :
    Calls Tryz.prog 106 #[.pointer (some ⟨g, 0, none⟩), .int .i64 (k : Int)] w (fun e w' => ∃ b : Bool, e = .returned (.bool b) ∧ Cur w' g A n c bs ∧ w.grownBy w' (some g)) := by
  go_enter Tryz.func106, Tryz.ntmps106
  go_wp2_with fail
  refine (l1Below_s A n c g k bs w hc hn hk1 hk).mono ?_
  rintro e w2 ⟨q, rfl, hq, hc2, hg2⟩
  have HC2 := Lib.hid hc2
  have HG2 := Lib.hid hg2
  clear hc2 hg2 hc
  go_wp2_with fail
  go_ret
  exact ⟨_, rfl, HC2.out, HG2.out⟩
end Go.Proofs.YtkcgdnnipohehaaGreatDoor

/- The draws of the law on free shapes. -/
namespace Go.Proofs.YtkcgdnnipohehaaGreatDoor
open Go.RowKit
set_option linter.unusedVariables false
attribute [local go_sem ↓] Go.wp_at_zero Go.wp_at_succ
theorem DrawFreeShapes_s (A : Option Addr) (n c : Nat) (bs : List UInt8) (w : World) (hr : Rd w A (vB bs)) (hl : bs.length = n) (hn : n ≤ 1048576) :
    Calls Tryz.prog 26 #[.slice A n c] w (RetNd w 6) := by
  go_enter Tryz.func26, Tryz.ntmps26
  go_wp2_with fail
  refine (l1New_s A n c bs w hr hl hn).mono ?_
  rintro e w1 ⟨g, rfl, hc, hg, hb⟩
  have HC := Lib.hid hc
  have HB := Lib.hid hb
  clear hc hb hr hl
  go_wp2_with fail
  refine (l1Below_s A n c g 6 bs w1 HC.out hn (by omega) (by omega)).mono ?_
  rintro e w2 ⟨q, rfl, hq, hc2, hg2⟩
  have HG2 := Lib.hid hg2
  have eq1 : IntKind.i64.wrap ((q : Int) - 1) = (q : Int) - 1 := Go.IntWalk.i64_in _ (by omega)
  clear hc2 hg2
  go_wp2_with fail
  go_ret
  exact ⟨q, rfl, hq, grown_newD HB.out hg HG2.out⟩
theorem DrawExtensionsOf_s (A : Option Addr) (n c : Nat) (bs : List UInt8) (w : World) (hr : Rd w A (vB bs)) (hl : bs.length = n) (hn : n ≤ 1048576) :
    Calls Tryz.prog 37 #[.slice A n c] w (RetCl w) := by
  go_enter Tryz.func37, Tryz.ntmps37
  go_wp2_with fail
  refine (l1New_s A n c bs w hr hl hn).mono ?_
  rintro e w1 ⟨g, rfl, hc, hg, hb⟩
  have HC := Lib.hid hc
  have HB := Lib.hid hb
  clear hc hb hr hl
  go_wp2_with fail
  refine (l2Any_s A n c g bs w1 HC.out hn).mono ?_
  rintro e w2 ⟨D, k, cD, xs, rfl, hr2, hl2, hk, hkc, hc2, hg2, hD2⟩
  have HR2 := Lib.hid hr2
  have HL2 := Lib.hid hl2
  have HG2 := Lib.hid (grown_newD HB.out hg hg2)
  clear hr2 hl2 hc2 hg2 hD2
  go_wp2_with fail
  go_ret
  exact ⟨D, k, cD, xs, rfl, HR2.out, HL2.out, by omega, hkc, HG2.out⟩
/-- One of the pieces was drawn. -/
def RetPcX (w : World) (g : Nat) (A : Option Addr) (n c : Nat) (bs : List UInt8) (e : Ending) (w' : World) : Prop :=
  ∃ (j : Nat) (D : Option Addr) (k cD : Nat), j < 12 ∧ e = .returned (.slice D k cD) ∧ w'.ownsRow w.heap.size 87 2 (.slice D k cD) k (vC (pcL.getD j [])) ∧ Cur w' g A n c bs ∧ w.grownBy w' (some g)
set_option maxRecDepth 100000 in
set_option maxHeartbeats 1600000 in
theorem l4Piece_x (A : Option Addr) (n c g : Nat) (bs : List UInt8) (w : World) (hc : Cur w g A n c bs) (hn : n ≤ 1048576) :
    Calls Tryz.prog 107 #[.pointer (some ⟨g, 0, none⟩)] w (RetPcX w g A n c bs) := by
  have hgl : g < w.heap.size := by obtain ⟨i, x, hi, hB⟩ := hc.blk; exact hB.lt
  have HC := Lib.hid hc
  clear hc
  go_enter Tryz.func107, Tryz.ntmps107
  go_wp2_with fail
  refine (l4Names_x w).mono ?_
  rintro e w1 ⟨E, rfl, hE, hEl, hb1⟩
  have HE := Lib.hid hE
  have HB1 := Lib.hid hb1
  have HC1 := Lib.hid (HC.out.below hb1)
  clear hE hb1 HC
  go_wp2_with fail
  refine (l1Below_s A n c g 12 bs w1 HC1.out hn (by omega) (by omega)).mono ?_
  rintro e w2 ⟨q, rfl, hq, hc2, hg2⟩
  have hE2 := HE.out.grown hg2 (fun b e r => by simp only [ob, Option.map_some, Option.some.injEq] at e; injection r with r; omega)
  obtain ⟨g1, o1, hA1, hg1, hx⟩ := RdTx.at_ hE2 (show q < nmL.length from hq)
  injection hA1 with hA1
  injection hA1 with e1 e2
  subst e1 e2
  rw [Nat.zero_add] at hx
  have hPN : Hid (∀ w', Calls Tryz.prog 48 #[.string (nmL.getD q ⟨#[]⟩)] w' (RetPX w' (pcL.getD q []) true)) := fun w' => PieceNamed_x q hq w'
  obtain ⟨t, ht⟩ : ∃ t, nmL.getD q ⟨#[]⟩ = t := ⟨_, rfl⟩
  rw [ht] at hx hPN
  have hq0 : (0 : Int) ≤ (q : Int) := by omega
  have hq1 : (q : Int) < 12 := by omega
  have HC2 := Lib.hid hc2
  have HF2 := Lib.hid (((FrG.refl w.heap.size g w).below HB1.out (Nat.le_refl _)).draw hg2 HB1.out.size)
  have hs2 : w.heap.size ≤ w2.heap.size := by have := HB1.out.size; have := hg2.size; omega
  clear ht hE2 hc2 hg2
  go_wp2_with fail
  refine (hPN.out w2).mono ?_
  rintro e w3 ⟨D, k, cD, rfl, hO, hb3⟩
  have HO := Lib.hid (own_base hO hs2)
  have HB3 := Lib.hid hb3
  clear hO hb3 hx hPN
  go_wp2_with fail
  go_ret
  exact ⟨q, D, k, cD, hq, rfl, HO.out, HC2.out.below HB3.out, (HF2.out.below HB3.out hs2).grown⟩
set_option maxHeartbeats 1600000 in
theorem DrawNameOfPiece_s (A : Option Addr) (n c : Nat) (bs : List UInt8) (w : World) (hr : Rd w A (vB bs)) (hl : bs.length = n) (hn : n ≤ 1048576) :
    Calls Tryz.prog 45 #[.slice A n c] w (RetCl w) := by
  go_enter Tryz.func45, Tryz.ntmps45
  go_wp2_with fail
  refine (l1New_s A n c bs w hr hl hn).mono ?_
  rintro e w1 ⟨g, rfl, hc, hg, hb⟩
  have HC := Lib.hid hc
  have HB := Lib.hid hb
  clear hc hb hr hl
  go_wp2_with fail
  refine (l1Once_s A n c g 2 bs w1 HC.out hn (by omega) (by omega)).mono ?_
  rintro e w2 ⟨b, rfl, hc2, hg2⟩
  have HC2 := Lib.hid hc2
  have HG2 := Lib.hid (grown_newD HB.out hg hg2)
  have hgl : g < w2.heap.size := by obtain ⟨i, x, hi, hB⟩ := hc2.blk; exact hB.lt
  clear hc2 hg2
  cases b with
  | true =>
    go_wp2_with fail
    refine (l4Piece_x A n c g bs w2 HC2.out hn).mono ?_
    rintro e w3 ⟨j, D, k, cD, hj, rfl, hO, hc3, hg3⟩
    have HC3 := Lib.hid hc3
    have HG3 := Lib.hid (grown_newD HG2.out hg hg3)
    have hdl := own_lt hO
    have HO3 := Lib.hid hO
    clear hO hc3 hg3
    go_wp2_with fail
    refine (l1Below_s A n c g 8 bs w3 HC3.out hn (by omega) (by omega)).mono ?_
    rintro e w4 ⟨q, rfl, hq, hc4, hg4⟩
    have HO4 := Lib.hid (Rd.of_own (own_keptD HO3.out hg4 (fun b e r => by have := (hdl b e).1; injection r with r; omega)))
    have HG4 := Lib.hid (grown_newD HG3.out hg hg4)
    have hpl : (pcL.getD j []).length = k := by have := own_len HO3.out; rw [vC_length] at this; omega
    have HPL := Lib.hid hpl
    have HPS := Lib.hid (pc_shape j hj)
    have htl := turn_len (pc_shape j hj) q
    obtain ⟨p, hp⟩ : ∃ p, pcL.getD j [] = p := ⟨_, rfl⟩
    rw [hp] at HO4 HPL HPS htl
    clear hpl hp hc4 hg4 HO3 HC3 hdl
    go_wp2_with fail
    refine (l3Turn_s D k cD p q w4 HO4.out HPL.out HPS.out hq).mono ?_
    rintro e w5 ⟨E, m, cE, rfl, h5, hb5⟩
    have hm : (turnV p q).length = m := by have := own_len h5; rw [vC_length] at this; omega
    have hcap := own_capD h5
    have H5 := Lib.hid (Rd.of_own h5)
    have HM := Lib.hid hm
    have HB5 := Lib.hid (bel_trans HG4.out hb5)
    clear h5 hb5 hm
    go_wp2_with fail
    go_ret
    exact ⟨E, m, cE, _, rfl, H5.out, HM.out, by have := HM.out; omega, hcap, HB5.out⟩
  | false =>
    go_wp2_with fail
    refine (l2Any_s A n c g bs w2 HC2.out hn).mono ?_
    rintro e w3 ⟨D, k, cD, xs, rfl, hr2, hl2, hk, hkc, hc3, hg3, hD2⟩
    have HR2 := Lib.hid hr2
    have HL2 := Lib.hid hl2
    have HG3 := Lib.hid (grown_newD HG2.out hg hg3)
    clear hr2 hl2 hc3 hg3 hD2
    go_wp2_with fail
    go_ret
    exact ⟨D, k, cD, xs, rfl, HR2.out, HL2.out, by omega, hkc, HG3.out⟩
/-- One of a list's strings was drawn. -/
def RetPickX (w : World) (g : Nat) (A : Option Addr) (n c : Nat) (bs : List UInt8) (l : List ByteArray) (e : Ending) (w' : World) : Prop :=
  ∃ v, e = .returned (.string v) ∧ v ∈ l ∧ Cur w' g A n c bs ∧ w.grownBy w' (some g)
theorem l1Pick_x (A B : Option Addr) (n c g m d : Nat) (l : List ByteArray) (bs : List UInt8) (w : World) (hc : Cur w g A n c bs) (hn : n ≤ 1048576) (hr : Rd w B (vTx l)) (hl : l.length = m) (hm : 1 ≤ m) (hm2 : m ≤ 256) (hB : ∀ b, ob B = some b → b ≠ g) :
    Calls Tryz.prog 109 #[.pointer (some ⟨g, 0, none⟩), .slice B m d] w (RetPickX w g A n c bs l) := by
  have HC := Lib.hid hc
  have HR := Lib.hid hr
  have HL := Lib.hid hl
  clear hc hr hl
  go_enter Tryz.func109, Tryz.ntmps109
  go_wp2_with fail
  refine (l1Below_s A n c g m bs w HC.out hn hm hm2).mono ?_
  rintro e w2 ⟨q, rfl, hq, hc2, hg2⟩
  have hr2 := HR.out.grown hg2 (fun b e r => hB b e (Option.some.inj r))
  have hql : q < l.length := by rw [HL.out]; exact hq
  obtain ⟨g1, o1, rfl, hg1, hx⟩ := RdTx.at_ hr2 hql
  have hmem : l.getD q ⟨#[]⟩ ∈ l := by rw [List.getD_eq_getElem?_getD, List.getElem?_eq_getElem hql]; exact List.getElem_mem hql
  obtain ⟨v, hv⟩ : ∃ v, l.getD q ⟨#[]⟩ = v := ⟨_, rfl⟩
  rw [hv] at hx hmem
  have HM := Lib.hid hmem
  have hq0 : (0 : Int) ≤ (q : Int) := by omega
  have hq1 : (q : Int) < (m : Int) := by omega
  have HC2 := Lib.hid hc2
  have HG2 := Lib.hid hg2
  clear hc2 hg2 hr2 hv hq hmem hql
  go_wp2_with fail
  go_ret
  exact ⟨v, rfl, HM.out, HC2.out, HG2.out⟩
/-- A name, or none of them, was drawn. -/
def noN : List ByteArray := [⟨#[]⟩, ⟨#[105, 50]⟩, ⟨#[90, 57]⟩]
def RetName (w : World) (e : Ending) (w' : World) : Prop := ∃ t : ByteArray, e = .returned (.string t) ∧ (t ∈ noN ∨ ∃ k, k < 12 ∧ t = nmL.getD k ⟨#[]⟩) ∧ Below w.heap.size w w'
set_option maxRecDepth 100000 in
set_option maxHeartbeats 1600000 in
theorem DrawPieceNamed_s (A : Option Addr) (n c : Nat) (bs : List UInt8) (w : World) (hr : Rd w A (vB bs)) (hl : bs.length = n) (hn : n ≤ 1048576) :
    Calls Tryz.prog 46 #[.slice A n c] w (RetName w) := by
  go_enter Tryz.func46, Tryz.ntmps46
  go_wp2_with fail
  refine (l1New_s A n c bs w hr hl hn).mono ?_
  rintro e w1 ⟨g, rfl, hc, hg, hb⟩
  have HC := Lib.hid hc
  have HB := Lib.hid hb
  clear hc hb hr hl
  go_wp2_with fail
  refine (l4Names_x w1).mono ?_
  rintro e w2 ⟨E, rfl, hE, hEl, hb2⟩
  have hgl1 : g < w1.heap.size := by obtain ⟨i, x, hi, hB⟩ := HC.out.blk; exact hB.lt
  have HE := Lib.hid hE
  have HB2 := Lib.hid (bel_trans HB.out hb2)
  have HC2 := Lib.hid (HC.out.below hb2)
  clear hE hb2 HC
  go_wp2_with fail
  refine (l1Once_s A n c g 6 bs w2 HC2.out hn (by omega) (by omega)).mono ?_
  rintro e w3 ⟨b, rfl, hc3, hg3⟩
  have HC3 := Lib.hid hc3
  have HB3 := Lib.hid (grown_newD HB2.out hg hg3)
  have HE3 := Lib.hid (HE.out.grown hg3 (fun b e r => by simp only [ob, Option.map_some, Option.some.injEq] at e; injection r with r; omega))
  have hgl : g < w3.heap.size := by obtain ⟨i, x, hi, hB⟩ := hc3.blk; exact hB.lt
  clear hc3 hg3 HE
  cases b with
  | true =>
    go_wp2_with fail
    refine (l1Pick_x A (some ⟨w3.heap.size, 0, none⟩) n c g 3 3 noN bs _ (HC3.out.below (bel_alloc (Below.refl _ _) _)) hn (rd_new w3 9 _) rfl (by omega) (by omega) (fun b e => by simp only [ob, Option.map_some, Option.some.injEq] at e; omega)).mono ?_
    rintro e w4 ⟨v, rfl, hv, hc4, hg4⟩
    have HG4 := Lib.hid (grown_newD (bel_alloc HB3.out _) hg hg4)
    have HV := Lib.hid hv
    clear hc4 hg4 hv
    go_wp2_with fail
    go_ret
    exact ⟨v, rfl, .inl HV.out, HG4.out⟩
  | false =>
    go_wp2_with fail
    refine (l1Below_s A n c g 12 bs w3 HC3.out hn (by omega) (by omega)).mono ?_
    rintro e w4 ⟨q, rfl, hq, hc4, hg4⟩
    have hE4 := HE3.out.grown hg4 (fun b e r => by simp only [ob, Option.map_some, Option.some.injEq] at e; injection r with r; omega)
    obtain ⟨g1, o1, hA1, hg1, hx⟩ := RdTx.at_ hE4 (show q < nmL.length from hq)
    injection hA1 with hA1
    injection hA1 with e1 e2
    subst e1 e2
    rw [Nat.zero_add] at hx
    obtain ⟨t, ht⟩ : ∃ t, nmL.getD q ⟨#[]⟩ = t := ⟨_, rfl⟩
    have HT := Lib.hid ht
    rw [ht] at hx
    have hq0 : (0 : Int) ≤ (q : Int) := by omega
    have hq1 : (q : Int) < 12 := by omega
    have HG4 := Lib.hid (grown_newD HB3.out hg hg4)
    have HQ := Lib.hid hq
    clear ht hc4 hg4 hE4 hq
    go_wp2_with fail
    go_ret
    exact ⟨t, rfl, .inr ⟨q, HQ.out, HT.out.symm⟩, HG4.out⟩
end Go.Proofs.YtkcgdnnipohehaaGreatDoor

/- The shapes with one cell more: the program. -/
namespace Go.Proofs.YtkcgdnnipohehaaGreatDoor
open Go.RowKit
set_option linter.unusedVariables false
attribute [local go_sem ↓] Go.wp_at_zero Go.wp_at_succ

theorem sides_i (x y : Int) (w : World) (h : -100 ≤ x ∧ x ≤ 100 ∧ -100 ≤ y ∧ y ≤ 100) : Calls Tryz.prog 147 #[.agg #[.int .i64 x, .int .i64 y]] w (RetS w 87 2 (vC (sidesV (x, y)))) := by
  obtain ⟨h1, h2, h3, h4⟩ := h
  have e1 : IntKind.i64.wrap (y - 1) = y - 1 := Go.IntWalk.i64_in _ (by omega)
  have e2 : IntKind.i64.wrap (x - 1) = x - 1 := Go.IntWalk.i64_in _ (by omega)
  have e3 : IntKind.i64.wrap (x + 1) = x + 1 := Go.IntWalk.i64_in _ (by omega)
  have e4 : IntKind.i64.wrap (y + 1) = y + 1 := Go.IntWalk.i64_in _ (by omega)
  have ho : ((w.alloc (.cells #[.int .i64 x, .int .i64 y] 87)).alloc (.cells #[.int .i64 x, .int .i64 (y - 1), .int .i64 (x - 1), .int .i64 y, .int .i64 (x + 1), .int .i64 y, .int .i64 x, .int .i64 (y + 1)] 87)).ownsRow w.heap.size 87 2 (.slice (some ⟨w.heap.size + 1, 0, none⟩) 4 4) 4 (vC (sidesV (x, y))) := by
    have := own_new (w.alloc (.cells #[.int .i64 x, .int .i64 y] 87)) 87 2 4 #[.int .i64 x, .int .i64 (y - 1), .int .i64 (x - 1), .int .i64 y, .int .i64 (x + 1), .int .i64 y, .int .i64 x, .int .i64 (y + 1)] rfl (by simp [maxLen]) (base := w.heap.size) (by simp)
    simpa [sidesV, vC] using this
  have HO := Lib.hid ho
  clear ho
  go_enter Tryz.func147, Tryz.ntmps147
  go_wp2
  go_ret
  exact ⟨_, 4, 4, by simp, HO.out, (by (repeat (first | with_reducible exact Below.refl _ _ | with_reducible assumption | with_reducible apply bel_alloc | with_reducible apply bel_drew | with_reducible apply bel_drewN | ((with_reducible refine bel_set ?_ ?_); rotate_left; (simp <;> omega)) | (with_reducible refine bel_trans ?_ (by with_reducible assumption)))))⟩
set_option maxRecDepth 100000 in
set_option maxHeartbeats 6400000 in
theorem extensions_i (A : Option Addr) (n c : Nat) (xs : List C) (w : World) (hr : Rd w A (vC xs)) (hl : xs.length = n) (hs : isShape xs = true) :
    Calls Tryz.prog 97 #[.slice A n c] w (RetF w (extV xs)) := by
  have hn8 := (shape_len hs).2
  have hV : extV xs = extTo sidesV xs n := by unfold extV; rw [hl]
  have HV := Lib.hid hV
  have HL := Lib.hid hl
  have HR := Lib.hid hr
  have HSH := Lib.hid hs
  rw [hl] at hn8
  have hnn : n ≤ 1099511627776 := by omega
  have hn7 : n ≤ 1048576 := by omega
  clear hl hr hs hV
  go_enter Tryz.func97, Tryz.ntmps97
  go_wp2
  go_loopw [11, 3] (fun e11 e3 wr => ∃ (k q cq : Nat) (D : Option Addr) (hs : List H), k ≤ n ∧ e11 = .int .i64 k ∧ e3 = .slice D q cq ∧ OwnF w.heap.size wr D q cq hs (extTo sidesV xs k) ∧ Below w.heap.size w wr) (fun e11 _ _ => n - (intOf e11).toNat)
  case atStart => exact ⟨0, 0, 0, none, [], Nat.zero_le _, rfl, rfl, OwnF.nil _ _, Below.refl _ _⟩
  case round =>
    obtain ⟨k, q, cq, D, hs, hk, rfl, rfl, hO, hb⟩ := hrel
    by_cases hlt : k < n
    · have hkl : k < xs.length := by rw [HL.out]; exact hlt
      have hk0 : (0 : Int) ≤ (k : Int) := by omega
      have hk1 : (k : Int) < (n : Int) := by omega
      obtain ⟨g, off, hA, hg, d1, d2⟩ := RdC.at_ (HR.out.below hb) hkl
      subst hA
      have hon := shape_onB HSH.out _ (List.getElem_mem hkl)
      have hst := extTo_succ sidesV xs k hkl
      have hsl := extTo_len sidesV (fun _ => rfl) xs k (by omega)
      obtain ⟨p, hp⟩ : ∃ p, xs[k].1 = p := ⟨_, rfl⟩
      obtain ⟨r, hrr⟩ : ∃ r, xs[k].2 = r := ⟨_, rfl⟩
      rw [show xs[k] = (p, r) from Prod.ext hp hrr] at hon hst
      rw [hp] at d1
      rw [hrr] at d2
      have hsv := sidesV_small hon
      have hpr : -1 ≤ p ∧ p ≤ 8 ∧ -1 ≤ r ∧ r ≤ 8 := by simp [onB] at hon; omega
      have hfine := extTo_fine sidesV xs k
      obtain ⟨F0, hF0⟩ : ∃ F0, extTo sidesV xs k = F0 := ⟨_, rfl⟩
      rw [hF0] at hst hsl hO hfine
      have HST := Lib.hid hst
      have HFI := Lib.hid hfine
      have HSV := Lib.hid hsv
      have HO := Lib.hid hO
      have hFl : F0.length ≤ 4 * k := hsl
      have HPR := Lib.hid hpr
      clear hst hfine hsv hO hp hrr hon hF0 hpr hsl
      go_wp2_with fail
      refine (sides_i p r _ (by have := HPR.out; omega)).mono ?_
      rintro e w1 ⟨S, ms, cs, rfl, hoS, hb1⟩
      have hms : ms = 4 := by have := own_len hoS; rw [vC_length] at this; simp [sidesV] at this; omega
      subst hms
      have HCS := Lib.hid (CRow.of_own hoS)
      have HO1 := Lib.hid (HO.out.below (bel_trans (bel_alloc (Below.refl _ _) _) hb1))
      have hb01 : Below w.heap.size w w1 := (by (repeat (first | with_reducible exact Below.refl _ _ | with_reducible assumption | with_reducible apply bel_alloc | with_reducible apply bel_drew | with_reducible apply bel_drewN | ((with_reducible refine bel_set ?_ ?_); rotate_left; (simp <;> omega)) | (with_reducible refine bel_trans ?_ (by with_reducible assumption)))))
      clear hoS HO
      go_wp2_with fail
      go_loopw [18, 3] (fun e18 e3 wr => ∃ (j q cq : Nat) (D : Option Addr) (hs : List H) (F : List (List C)), j ≤ 4 ∧ e18 = .int .i64 j ∧ e3 = .slice D q cq ∧ F = ((sidesV (p, r)).take j).foldl (extStep xs) F0 ∧ OwnF w.heap.size wr D q cq hs F ∧ FineF F ∧ F.length ≤ 4 * k + j ∧ CRow wr (S, 4, cs) (sidesV (p, r)) ∧ Below w.heap.size w wr) (fun e18 _ _ => 4 - (intOf e18).toNat)
      case atStart => exact ⟨0, q, cq, D, hs, F0, Nat.zero_le _, rfl, rfl, rfl, HO1.out, HFI.out, by omega, HCS.out, hb01⟩
      case round =>
        clear HO1 HCS hb01 hb hb1 d1 d2 hg
        obtain ⟨j, q, cq, D, hs, F, hj, rfl, rfl, hF, hO, hfi, hfl, hcr, hb⟩ := hrel
        by_cases hj4 : j < 4
        · have hjl : j < (sidesV (p, r)).length := hj4
          have hj0 : (0 : Int) ≤ (j : Int) := by omega
          have hj1 : (j : Int) < 4 := by omega
          obtain ⟨g2, o2, hS, hg2, d1, d2⟩ := RdC.at_ hcr.2.1 hjl
          simp only at hS
          have hsm := HSV.out _ (List.getElem_mem hjl)
          have hstep : ((sidesV (p, r)).take (j + 1)).foldl (extStep xs) F0 = extStep xs F (sidesV (p, r))[j] := by
            rw [List.take_succ_eq_append_getElem hjl, List.foldl_append, ← hF]
            rfl
          obtain ⟨x, hx⟩ : ∃ x, (sidesV (p, r))[j].1 = x := ⟨_, rfl⟩
          obtain ⟨y, hy⟩ : ∃ y, (sidesV (p, r))[j].2 = y := ⟨_, rfl⟩
          rw [show (sidesV (p, r))[j] = (x, y) from Prod.ext hx hy] at hsm hstep
          rw [hx] at d1
          rw [hy] at d2
          have hsmall := app_small HSH.out hsm
          have HSM := Lib.hid hsmall
          have HF := Lib.hid hF
          have HO := Lib.hid hO
          have HFI2 := Lib.hid hfi
          have HCR := Lib.hid hcr
          have HQF := Lib.hid hO.flen
          have hq33 : q ≤ 4 * k + j := by rw [← hO.flen]; exact hfl
          have HX := Lib.hid (HR.out.below hb)
          subst hS
          clear hF hO hfi hcr hx hy hsm hsmall
          cases hh : hasC xs x y with
          | true =>
            have HN : Hid (((sidesV (p, r)).take (j + 1)).foldl (extStep xs) F0 = F) := by show _ = F; rw [hstep]; unfold extStep; simp only [hh, if_true]
            have HH := Lib.hid hh
            clear hh hstep
            go_wp2_with fail
            refine (HasCell_i _ n c xs x y _ ((HX.out).alloc _) HL.out hnn).mono ?_
            rw [show hasC xs x y = true from HH.out]
            rintro e w2 ⟨rfl, hb2⟩
            have hb3 := bel_trans (bel_alloc (Below.refl _ _) _) hb2
            go_wp2_with fail
            exact ⟨⟨j + 1, q, cq, D, hs, F, by omega, by go_num, rfl, HN.out.symm, HO.out.below hb3, HFI2.out, by have := HQF.out; omega, HCR.out.below hb3, bel_trans hb hb3⟩, by simp [intOf]; omega⟩
          | false =>
            have HH := Lib.hid hh
            go_wp2_with fail
            refine (HasCell_i _ n c xs x y _ ((HX.out).alloc _) HL.out hnn).mono ?_
            rw [show hasC xs x y = false from HH.out]
            rintro e w2 ⟨rfl, hb2⟩
            have hb3 := bel_trans (bel_alloc (Below.refl _ _) _) hb2
            have hCB := (Blk.new wr 87 #[.int .i64 x, .int .i64 y]).below hb2
            have z0 : w2.cell? ⟨wr.heap.size, 0, none⟩ = some (.int .i64 x) := by simpa using hCB.cell 0
            have z1 : w2.cell? ⟨wr.heap.size, 1, none⟩ = some (.int .i64 y) := by simpa using hCB.cell 1
            have zl := hCB.lt
            clear hCB d1 d2
            go_wp2_with fail
            refine wp_region_rg 7 rfl (by kernel_rfl) ?_
            (refine rgT (i := 0) (v := ?_) rfl rfl (by kernel_rfl) (by kernel_rfl) (by kernel_rfl) (by rfl) (fun w' hcw => ?_) ?_; rotate_left; ((try dsimp only at hcw); have hbc := hcw.cells; go_simp; first | done | with_reducible rfl); simp only [List.setIfInBounds_toArray, List.set_cons_zero, List.set_cons_succ])
            (refine rgT (i := 2) (v := ?_) rfl rfl (by kernel_rfl) (by kernel_rfl) (by kernel_rfl) (by rfl) (fun w' hcw => ?_) ?_; rotate_left; ((try dsimp only at hcw); have hbc := hcw.cells; go_simp; first | done | with_reducible rfl); simp only [List.setIfInBounds_toArray, List.set_cons_zero, List.set_cons_succ])
            refine rgK_two (i := 1) (k := 3) (by kernel_rfl) rfl rfl rfl rfl (fun u1 hc1 he1 K hK => ?_) (fun u1 hc1 he1 K hK => ?_)
            · go_simp
              refine (copyCells_i2 _ n c xs _ ((HX.out).below (bel_trans hb3 hc1)) HL.out hn7).mono ?_
              rintro e u2 ⟨C1, m1, cD, rfl, hod, hbd⟩
              obtain rfl : n = m1 := by have := own_len hod; rw [vC_length] at this; have := HL.out; omega
              have hec : Below w2.heap.size w2 u2 := bel_trans hc1 hbd
              refine hK _ _ hec ?_
              clear hK K
              have HOD := Lib.hid (own_base (base' := w2.heap.size) hod hc1.size)
              clear hod
              refine rgK_one (i := 3) (by kernel_rfl) rfl rfl (fun u3 hc3 he3 K hK => ?_)
              go_simp
              refine hK _ _ (bel_alloc hc3 _) ?_
              clear hK K
              refine rgK_one (i := 4) (by kernel_rfl) rfl rfl (fun u4 hc4 he4 K hK => ?_)
              refine wpC _ _ _ rfl w2.heap.size C1 n cD xs rfl (own_keep (own_keep HOD.out (bel_trans he3 (bel_alloc (Below.refl _ _) _))) he4) _ 1 1 [(x, y)] rfl ((rd_newC u3 _ x y).below he4) rfl (by omega) (hc4.size) ?_
              intro D2 c2 w5 ho5 hg5 _
              have hx5 : Below w2.heap.size w2 w5 := bel_app hc4 hg5 (fun g h => (own_lt HOD.out g h).1)
              refine hK _ _ hx5 ?_
              clear hK K
              simp only [Act.put, List.setIfInBounds_toArray]
              have HO5 := Lib.hid ho5
              clear ho5 hg5
              refine rgK_one (i := 5) (by kernel_rfl) rfl rfl (fun u5 hc5 he5 K hK => ?_)
              go_simp
              refine (corner_i D2 (n + 1) c2 (xs ++ [(x, y)]) _ (Rd.of_own (own_keep HO5.out he5)) (by simp [HL.out]) (by omega) (by omega) HSM.out).mono ?_
              rintro e w6 ⟨E, m, cE, rfl, ho6, hb6⟩
              have hx6 : Below w2.heap.size w2 w6 := bel_trans hc5 hb6
              refine hK _ _ hx6 ?_
              clear hK K
              have HO6 := Lib.hid ho6
              clear ho6
              refine rgK_one (i := 6) (by kernel_rfl) rfl rfl (fun u6 hc6 he6 K hK => ?_)
              go_simp
              refine hK _ _ hc6 ?_
              clear hK K
              refine ⟨by kernel_rfl, fun wz hcz hez => NoPanic.normal ?_⟩
              have HO7 := Lib.hid (own_keep (own_keep HO6.out he6) hez)
              have hbz : Below w2.heap.size w2 wz := hcz
              have hb9 : Below w.heap.size w wz := bel_trans hb (bel_trans hb3 hbz)
              have hb39 : Below wr.heap.size wr wz := bel_trans hb3 hbz
              clear HO6 HO5 HOD hc4 he4 hx5 hc5 he5 hb6 hx6 hc6 he6 hcz hez z0 z1 zl
              have hml : (cornI (xs ++ [(x, y)])).length = m := by have := own_len HO7.out; rw [vC_length] at this; omega
              have hm13 : m ≤ 9 := by have := cornI_len (xs ++ [(x, y)]); rw [hml] at this; simp [HL.out] at this; omega
              have hdef : extStep xs F (x, y) = if isShape (cornI (xs ++ [(x, y)])) then putG ltS F (cornI (xs ++ [(x, y)])) else F := by unfold extStep; simp only [hh, Bool.false_eq_true, if_false]
              rw [hdef] at hstep
              obtain ⟨s2, hs2⟩ : ∃ s2, cornI (xs ++ [(x, y)]) = s2 := ⟨_, rfl⟩
              rw [hs2] at hml hstep HO7
              have HML := Lib.hid hml
              cases hsh : isShape s2 with
              | true =>
                rw [hsh, if_pos rfl] at hstep
                have HSTEP := Lib.hid hstep
                have HS2 := Lib.hid hsh
                clear hstep hsh hml hs2 hdef hh
                go_wp2_with fail
                refine (IsShape_i E m cE s2 _ (Rd.of_own HO7.out) HML.out (by omega)).mono ?_
                rw [HS2.out]
                rintro e w7 ⟨rfl, hb7⟩
                have HOF := Lib.hid (HO.out.below (bel_trans hb39 hb7))
                have HOE := Lib.hid (own_keep HO7.out hb7)
                have HPB : Hid (putB ltS F s2 = putG ltS F s2) := putB_eq ltS_sto HFI2.out.1 s2
                go_wp2_with fail
                refine (putShape_i D q cq hs F E m cE s2 w.heap.size _ HOF.out (CRow.of_own HOE.out) HFI2.out.1 (fun x hx => by have := HFI2.out.len x hx; omega) (by omega) (by omega) (by have := hb9.size; have := hb7.size; omega)).mono ?_
                rw [HPB.out, ← HSTEP.out]
                rintro e w8 ⟨D3, q3, c3, hs3, rfl, hO8, hg8, hD8⟩
                have HO8 := Lib.hid hO8
                have HG8 := Lib.hid hg8
                have hq8 : q3 ≤ 4 * k + (j + 1) := by
                  rw [← hO8.flen, HSTEP.out]
                  have := putG_len (lt := ltS) F s2
                  have := HQF.out
                  omega
                have HFL8 : Hid ((((sidesV (p, r)).take (j + 1)).foldl (extStep xs) F0).length ≤ 4 * k + (j + 1)) := by show _ ≤ _; rw [hO8.flen]; exact hq8
                have HCR8 := Lib.hid (((HCR.out.below hb39).below hb7).grown hg8 (fun g e => ((HCR.out.below hb39).below hb7).apart HOF.out.own g e))
                have HB8 : Hid (Below w.heap.size w w8) := bel_app (bel_trans hb9 hb7) hg8 (fun g e => (own_lt HOF.out.own g e).1)
                have HF8 : Hid (FineF (((sidesV (p, r)).take (j + 1)).foldl (extStep xs) F0)) := by show FineF _; rw [HSTEP.out]; exact HFI2.out.put HS2.out
                clear hO8 hg8 hD8
                go_wp2_with fail
                exact ⟨⟨j + 1, q3, c3, D3, hs3, _, by omega, by go_num, rfl, rfl, HO8.out, HF8.out, HFL8.out, HCR8.out, HB8.out⟩, by simp [intOf]; omega⟩
              | false =>
                rw [hsh] at hstep
                have HSTEP : Hid (((sidesV (p, r)).take (j + 1)).foldl (extStep xs) F0 = F) := by show _ = F; rw [hstep]; rfl
                have HS2 := Lib.hid hsh
                clear hstep hsh hml hs2 hdef hh
                go_wp2_with fail
                refine (IsShape_i E m cE s2 _ (Rd.of_own HO7.out) HML.out (by omega)).mono ?_
                rw [HS2.out]
                rintro e w7 ⟨rfl, hb7⟩
                go_wp2_with fail
                exact ⟨⟨j + 1, q, cq, D, hs, F, by omega, by go_num, rfl, HSTEP.out.symm, HO.out.below (bel_trans hb39 hb7), HFI2.out, by have := HQF.out; omega, HCR.out.below (bel_trans hb39 hb7), bel_trans hb9 hb7⟩, by simp [intOf]; omega⟩
            · go_simp
              refine hK _ _ (bel_alloc hc1 _) ?_
              clear hK K
              refine rgK_one (i := 1) (by kernel_rfl) rfl rfl (fun u3 hc3 he3 K hK => ?_)
              go_simp
              refine (copyCells_i2 _ n c xs _ ((HX.out).below (bel_trans hb3 hc3)) HL.out hn7).mono ?_
              rintro e u2 ⟨C1, m1, cD, rfl, hod, hbd⟩
              obtain rfl : n = m1 := by have := own_len hod; rw [vC_length] at this; have := HL.out; omega
              have hec : Below w2.heap.size w2 u2 := bel_trans hc3 hbd
              refine hK _ _ hec ?_
              clear hK K
              have HOD := Lib.hid (own_base (base' := w2.heap.size) hod hc3.size)
              clear hod
              refine rgK_one (i := 4) (by kernel_rfl) rfl rfl (fun u4 hc4 he4 K hK => ?_)
              refine wpC _ _ _ rfl w2.heap.size C1 n cD xs rfl (own_keep HOD.out he4) _ 1 1 [(x, y)] rfl ((((rd_newC u1 _ x y).below he3).below hbd).below he4) rfl (by omega) (hc4.size) ?_
              intro D2 c2 w5 ho5 hg5 _
              have hx5 : Below w2.heap.size w2 w5 := bel_app hc4 hg5 (fun g h => (own_lt HOD.out g h).1)
              refine hK _ _ hx5 ?_
              clear hK K
              simp only [Act.put, List.setIfInBounds_toArray]
              have HO5 := Lib.hid ho5
              clear ho5 hg5
              refine rgK_one (i := 5) (by kernel_rfl) rfl rfl (fun u5 hc5 he5 K hK => ?_)
              go_simp
              refine (corner_i D2 (n + 1) c2 (xs ++ [(x, y)]) _ (Rd.of_own (own_keep HO5.out he5)) (by simp [HL.out]) (by omega) (by omega) HSM.out).mono ?_
              rintro e w6 ⟨E, m, cE, rfl, ho6, hb6⟩
              have hx6 : Below w2.heap.size w2 w6 := bel_trans hc5 hb6
              refine hK _ _ hx6 ?_
              clear hK K
              have HO6 := Lib.hid ho6
              clear ho6
              refine rgK_one (i := 6) (by kernel_rfl) rfl rfl (fun u6 hc6 he6 K hK => ?_)
              go_simp
              refine hK _ _ hc6 ?_
              clear hK K
              refine ⟨by kernel_rfl, fun wz hcz hez => NoPanic.normal ?_⟩
              have HO7 := Lib.hid (own_keep (own_keep HO6.out he6) hez)
              have hbz : Below w2.heap.size w2 wz := hcz
              have hb9 : Below w.heap.size w wz := bel_trans hb (bel_trans hb3 hbz)
              have hb39 : Below wr.heap.size wr wz := bel_trans hb3 hbz
              clear HO6 HO5 HOD hc4 he4 hx5 hc5 he5 hb6 hx6 hc6 he6 hcz hez z0 z1 zl
              have hml : (cornI (xs ++ [(x, y)])).length = m := by have := own_len HO7.out; rw [vC_length] at this; omega
              have hm13 : m ≤ 9 := by have := cornI_len (xs ++ [(x, y)]); rw [hml] at this; simp [HL.out] at this; omega
              have hdef : extStep xs F (x, y) = if isShape (cornI (xs ++ [(x, y)])) then putG ltS F (cornI (xs ++ [(x, y)])) else F := by unfold extStep; simp only [hh, Bool.false_eq_true, if_false]
              rw [hdef] at hstep
              obtain ⟨s2, hs2⟩ : ∃ s2, cornI (xs ++ [(x, y)]) = s2 := ⟨_, rfl⟩
              rw [hs2] at hml hstep HO7
              have HML := Lib.hid hml
              cases hsh : isShape s2 with
              | true =>
                rw [hsh, if_pos rfl] at hstep
                have HSTEP := Lib.hid hstep
                have HS2 := Lib.hid hsh
                clear hstep hsh hml hs2 hdef hh
                go_wp2_with fail
                refine (IsShape_i E m cE s2 _ (Rd.of_own HO7.out) HML.out (by omega)).mono ?_
                rw [HS2.out]
                rintro e w7 ⟨rfl, hb7⟩
                have HOF := Lib.hid (HO.out.below (bel_trans hb39 hb7))
                have HOE := Lib.hid (own_keep HO7.out hb7)
                have HPB : Hid (putB ltS F s2 = putG ltS F s2) := putB_eq ltS_sto HFI2.out.1 s2
                go_wp2_with fail
                refine (putShape_i D q cq hs F E m cE s2 w.heap.size _ HOF.out (CRow.of_own HOE.out) HFI2.out.1 (fun x hx => by have := HFI2.out.len x hx; omega) (by omega) (by omega) (by have := hb9.size; have := hb7.size; omega)).mono ?_
                rw [HPB.out, ← HSTEP.out]
                rintro e w8 ⟨D3, q3, c3, hs3, rfl, hO8, hg8, hD8⟩
                have HO8 := Lib.hid hO8
                have HG8 := Lib.hid hg8
                have hq8 : q3 ≤ 4 * k + (j + 1) := by
                  rw [← hO8.flen, HSTEP.out]
                  have := putG_len (lt := ltS) F s2
                  have := HQF.out
                  omega
                have HFL8 : Hid ((((sidesV (p, r)).take (j + 1)).foldl (extStep xs) F0).length ≤ 4 * k + (j + 1)) := by show _ ≤ _; rw [hO8.flen]; exact hq8
                have HCR8 := Lib.hid (((HCR.out.below hb39).below hb7).grown hg8 (fun g e => ((HCR.out.below hb39).below hb7).apart HOF.out.own g e))
                have HB8 : Hid (Below w.heap.size w w8) := bel_app (bel_trans hb9 hb7) hg8 (fun g e => (own_lt HOF.out.own g e).1)
                have HF8 : Hid (FineF (((sidesV (p, r)).take (j + 1)).foldl (extStep xs) F0)) := by show FineF _; rw [HSTEP.out]; exact HFI2.out.put HS2.out
                clear hO8 hg8 hD8
                go_wp2_with fail
                exact ⟨⟨j + 1, q3, c3, D3, hs3, _, by omega, by go_num, rfl, rfl, HO8.out, HF8.out, HFL8.out, HCR8.out, HB8.out⟩, by simp [intOf]; omega⟩
              | false =>
                rw [hsh] at hstep
                have HSTEP : Hid (((sidesV (p, r)).take (j + 1)).foldl (extStep xs) F0 = F) := by show _ = F; rw [hstep]; rfl
                have HS2 := Lib.hid hsh
                clear hstep hsh hml hs2 hdef hh
                go_wp2_with fail
                refine (IsShape_i E m cE s2 _ (Rd.of_own HO7.out) HML.out (by omega)).mono ?_
                rw [HS2.out]
                rintro e w7 ⟨rfl, hb7⟩
                go_wp2_with fail
                exact ⟨⟨j + 1, q, cq, D, hs, F, by omega, by go_num, rfl, HSTEP.out.symm, HO.out.below (bel_trans hb39 hb7), HFI2.out, by have := HQF.out; omega, HCR.out.below (bel_trans hb39 hb7), bel_trans hb9 hb7⟩, by simp [intOf]; omega⟩
        · obtain rfl : j = 4 := by omega
          have HN : Hid (extTo sidesV xs (k + 1) = F) := by show _ = F; rw [HST.out, hF]; rfl
          rw [← HN.out] at hO
          have HO := Lib.hid hO
          clear hO hF
          go_wp2_with fail
          exact ⟨⟨k + 1, q, cq, D, hs, by omega, by go_num, rfl, HO.out, hb⟩, by simp [intOf]; omega⟩
    · obtain rfl : k = n := by omega
      rw [← HV.out] at hO
      have HO := Lib.hid hO
      have hk1 : ¬ (k : Int) < (k : Int) := by omega
      clear hO
      go_wp2
      go_ret
      exact ⟨D, q, cq, hs, rfl, HO.out, hb⟩
end Go.Proofs.YtkcgdnnipohehaaGreatDoor

/- All shapes of some cells: the program. -/
namespace Go.Proofs.YtkcgdnnipohehaaGreatDoor
open Go.RowKit
set_option linter.unusedVariables false
attribute [local go_sem ↓] Go.wp_at_zero Go.wp_at_succ

theorem RdF.grown {w w' : World} {A : Option Addr} {n : Nat} {hs : List H} {F : List (List C)} (h : RdF w A n hs F) {D : Option Addr} {q cq base sz : Nat} {vs : List Value} (ho : w.ownsRow base 52 sz (.slice D q cq) q vs)
    (hg : w.grownBy w' (ob D)) (hn : ∀ g, ob A = some g → ob D ≠ some g) : RdF w' A n hs F :=
  ⟨h.top.grown hg (fun g e r => hn g e r.symm), h.hlen, h.flen, fun i x f a b => (h.row i x f a b).grown hg (fun g e => (h.row i x f a b).apart ho g e)⟩
theorem pow32 (k : Nat) (h : k ≤ 4) : 32 ^ k ≤ 1048576 := by
  have : 32 ^ k ≤ 32 ^ 4 := Nat.pow_le_pow_right (by omega) h
  simpa using this
set_option maxRecDepth 100000 in
set_option maxHeartbeats 3200000 in
theorem grown_i (n : Nat) (w : World) (hn1 : 1 ≤ n) (hn6 : n ≤ 6) : Calls Tryz.prog 94 #[.int .i64 (n : Int)] w (RetF w (fixV (n - 1))) := by
  have hini : OwnF w.heap.size ((w.alloc (.cells #[.int .i64 0, .int .i64 0] 87)).alloc (.cells #[.slice (some ⟨w.heap.size, 0, none⟩) 1 1] 52)) (some ⟨w.heap.size + 1, 0, none⟩) 1 1 [(some ⟨w.heap.size, 0, none⟩, 1, 1)] (fixV 0) := by
    refine ⟨?_, rfl, fun i x f h1 h2 => ?_⟩
    · have := own_new (w.alloc (.cells #[.int .i64 0, .int .i64 0] 87)) 52 1 1 #[.slice (some ⟨w.heap.size, 0, none⟩) 1 1] rfl (by simp [maxLen]) (base := w.heap.size) (by simp)
      simpa [vS, hd] using this
    · have hi : i = 0 := by have := (List.getElem?_eq_some_iff.1 h1).1; simp at this; exact this
      subst hi
      simp at h1
      simp [fixV] at h2
      subst h1 h2
      have := (own_new w 87 2 1 #[.int .i64 0, .int .i64 0] rfl (by simp [maxLen]) (base := w.heap.size) (Nat.le_refl _)).alloc (.cells #[.slice (some ⟨w.heap.size, 0, none⟩) 1 1] 52)
      exact CRow.of_own (by simpa [vC] using this)
  have HI := Lib.hid hini
  clear hini
  go_enter Tryz.func94, Tryz.ntmps94
  go_wp2
  go_loopw [4, 3] (fun e4 e3 wr => ∃ (k m c : Nat) (A : Option Addr) (hs : List H), 1 ≤ k ∧ k ≤ n ∧ e4 = .int .i64 k ∧ e3 = .slice A m c ∧ OwnF w.heap.size wr A m c hs (fixV (k - 1)) ∧ Below w.heap.size w wr) (fun e4 _ _ => n - (intOf e4).toNat)
  case atStart => exact ⟨1, 1, 1, _, _, Nat.le_refl _, hn1, by simp, by simp, HI.out, (by (repeat (first | with_reducible exact Below.refl _ _ | with_reducible assumption | with_reducible apply bel_alloc | with_reducible apply bel_drew | with_reducible apply bel_drewN | ((with_reducible refine bel_set ?_ ?_); rotate_left; (simp <;> omega)) | (with_reducible refine bel_trans ?_ (by with_reducible assumption)))))⟩
  case round =>
    obtain ⟨k, m, c, A, hs, hk1, hkn, rfl, rfl, hO, hb⟩ := hrel
    obtain ⟨v, hv⟩ : ∃ v, v = wr := ⟨_, rfl⟩
    subst hv
    by_cases hlt : k < n
    · have hkI : (k : Int) < (n : Int) := by omega
      obtain ⟨k0, hk0⟩ : ∃ k0, k = k0 + 1 := ⟨k - 1, by omega⟩
      have hkk : k - 1 = k0 := by omega
      rw [hkk] at hO
      have HNX : Hid (fixV (k + 1 - 1) = growN (fixV k0) m) := by show fixV (k + 1 - 1) = _; rw [Nat.add_sub_cancel, hk0, ← hO.flen]; rfl
      have hml : m ≤ 1048576 := by have h1 := fixV_len k0; have h2 := pow32 k0 (by omega); rw [hO.flen] at h1; omega
      have hsh := (fixV_fine k0).2
      obtain ⟨F, hF⟩ : ∃ F, fixV k0 = F := ⟨_, rfl⟩
      rw [hF] at hO hsh
      rw [hF] at HNX
      have HO := Lib.hid hO
      have HFL := Lib.hid hO.flen
      have HSH := Lib.hid hsh
      have HKK := Lib.hid hk0
      have hbz := hb.size
      clear hO hF hsh hk0 hkk
      go_wp2
      go_loopw [20, 5] (fun e20 e5 wr2 => ∃ (i q cq : Nat) (D : Option Addr) (hs2 : List H), i ≤ m ∧ e20 = .int .i64 i ∧ e5 = .slice D q cq ∧ OwnF v.heap.size wr2 D q cq hs2 (growN F i) ∧ Below v.heap.size v wr2) (fun e20 _ _ => m - (intOf e20).toNat)
      case atStart => exact ⟨0, 0, 0, none, [], Nat.zero_le _, rfl, rfl, OwnF.nil _ _, Below.refl _ _⟩
      case round =>
        obtain ⟨i, q, cq, D, hs2, hi, rfl, rfl, hO2, hb2⟩ := hrel
        by_cases him : i < m
        · have hi0 : (0 : Int) ≤ (i : Int) := by omega
          have hi1 : (i : Int) < (m : Int) := by omega
          have hRF := (HO.out.below hb2).rd
          obtain ⟨x, t, g, off, hsx, hfx, hAe, hg, d1, hrow⟩ := hRF.at_ him
          have htsh := HSH.out t (List.mem_of_getElem? hfx)
          have hiF : i < F.length := by rw [HFL.out]; exact him
          have hgs := growN_succ F i hiF
          rw [show F[i] = t from by rw [List.getElem?_eq_getElem hiF] at hfx; injection hfx] at hgs
          have hgl := growN_len F HSH.out i (by omega)
          have hgf := growN_fine F i (by omega)
          obtain ⟨C1, m1, k1⟩ := x
          have hl1 : t.length = m1 := hrow.1
          obtain ⟨G0, hG0⟩ : ∃ G0, growN F i = G0 := ⟨_, rfl⟩
          rw [hG0] at hgs hgl hgf hO2
          have HL1 := Lib.hid hl1
          have HT := Lib.hid htsh
          have HROW := Lib.hid hrow
          have HGS := Lib.hid hgs
          have HGF := Lib.hid hgf
          have HO2 := Lib.hid hO2
          have hql : q ≤ 32 * i := by rw [← hO2.flen]; exact hgl
          have hDlt := own_lt hO2.own
          have HDL := Lib.hid hDlt
          dsimp only at d1
          subst hAe
          clear hsx hfx hrow htsh hgs hgf hgl hO2 hG0 hl1 hRF hDlt
          go_wp2_with fail
          refine (extensions_i C1 m1 k1 t _ HROW.out.2.1 HL1.out HT.out).mono ?_
          rintro e w1 ⟨E, me, ce, hsE, rfl, hoE, hb3⟩
          have hel : me ≤ 32 := by rw [← hoE.flen]; have h1 := extV_len t; have h2 := (shape_len HT.out).2; omega
          have HRE := Lib.hid hoE.rd
          have HEL := Lib.hid (own_lt hoE.own)
          have HFE := Lib.hid hoE.flen
          have HO3 := Lib.hid (HO2.out.below hb3)
          have hb23 : Below v.heap.size v w1 := bel_trans hb2 hb3
          have HSEP : Hid (∀ g, ob D = some g → ob E ≠ some g) := fun g e r => by have h1 := (HDL.out g e).2; have h2 := (HEL.out g r).1; omega
          clear hoE HO2 HROW hb2 hb3 d1
          go_wp2_with fail
          go_loopw [27, 5] (fun e27 e5 wr3 => ∃ (j q cq : Nat) (D : Option Addr) (hs2 : List H) (G : List (List C)), j ≤ me ∧ e27 = .int .i64 j ∧ e5 = .slice D q cq ∧ G = ((extV t).take j).foldl (putG ltS) G0 ∧ OwnF v.heap.size wr3 D q cq hs2 G ∧ FineF G ∧ G.length ≤ 32 * i + j ∧ RdF wr3 E me hsE (extV t) ∧ (∀ g, ob D = some g → ob E ≠ some g) ∧ Below v.heap.size v wr3) (fun e27 _ _ => me - (intOf e27).toNat)
          case atStart => exact ⟨0, q, cq, D, hs2, G0, Nat.zero_le _, rfl, rfl, rfl, HO3.out, HGF.out, by rw [HO3.out.flen]; omega, HRE.out, HSEP.out, hb23⟩
          case round =>
            clear HSEP HO3 HRE HDL hb23 hg
            obtain ⟨j, q, cq, D, hs2, G, hj, rfl, rfl, hG, hO, hfi, hgl, hre, hsep, hb3⟩ := hrel
            by_cases hjm : j < me
            · have hj0 : (0 : Int) ≤ (j : Int) := by omega
              have hj1 : (j : Int) < (me : Int) := by omega
              obtain ⟨x, s2, g2, o2, hsx, hfx, hEe, hg2, d1, hrow⟩ := hre.at_ hjm
              have hs2sh := (extTo_fine sidesV t t.length).2 s2 (List.mem_of_getElem? hfx)
              have hjE : j < (extV t).length := by rw [HFE.out]; exact hjm
              have hstep : ((extV t).take (j + 1)).foldl (putG ltS) G0 = putG ltS G s2 := by
                rw [List.take_succ_eq_append_getElem hjE, List.foldl_append, ← hG, show (extV t)[j] = s2 from by rw [List.getElem?_eq_getElem hjE] at hfx; injection hfx]
                rfl
              obtain ⟨B, m2, k2⟩ := x
              have hl2 : s2.length = m2 := hrow.1
              have hm28 : m2 ≤ 8 := by have := (shape_len hs2sh).2; omega
              have hqG : q ≤ 32 * i + j := by rw [← hO.flen]; exact hgl
              have HQL := Lib.hid hO.flen
              have HO := Lib.hid hO
              have HFI := Lib.hid hfi
              have HRE := Lib.hid hre
              have HSEP := Lib.hid hsep
              have HROW := Lib.hid hrow
              have HS2 := Lib.hid hs2sh
              have HST := Lib.hid hstep
              have HPB : Hid (putB ltS G s2 = putG ltS G s2) := putB_eq ltS_sto hfi.1 s2
              dsimp only at d1
              have HEE := Lib.hid hEe
              subst hEe
              clear hG hO hfi hre hsep hsx hfx hrow hs2sh hstep hl2 hgl
              go_wp2_with fail
              refine (putShape_i D q cq hs2 G B m2 k2 s2 v.heap.size _ HO.out HROW.out HFI.out.1 (fun x hx => by have := HFI.out.len x hx; omega) (by omega) (by omega) hb3.size).mono ?_
              rw [HPB.out, ← HST.out]
              rintro e w8 ⟨D3, q3, c3, hs3, rfl, hO8, hg8, hD8⟩
              have HO8 := Lib.hid hO8
              have hq8 : q3 ≤ 32 * i + (j + 1) := by
                rw [← hO8.flen, HST.out]
                have := putG_len (lt := ltS) G s2
                have := HQL.out
                omega
              have HFL8 : Hid ((((extV t).take (j + 1)).foldl (putG ltS) G0).length ≤ 32 * i + (j + 1)) := by show _ ≤ _; rw [hO8.flen]; exact hq8
              have HRE8 := Lib.hid (HRE.out.grown HO.out.own hg8 (fun g e r => HSEP.out g r e))
              have HB8 : Hid (Below v.heap.size v w8) := bel_app hb3 hg8 (fun g e => (own_lt HO.out.own g e).1)
              have HF8 : Hid (FineF (((extV t).take (j + 1)).foldl (putG ltS) G0)) := by show FineF _; rw [HST.out]; exact HFI.out.put HS2.out
              have HSEP8 : Hid (∀ g, ob D3 = some g → ob (some (⟨g2, o2, none⟩ : Addr)) ≠ some g) := fun g e r => by
                rcases hD8 g e with h1 | h1
                · exact HSEP.out g h1 r
                · simp only [ob, Option.map_some, Option.some.injEq] at r; omega
              clear hO8 hg8 hD8
              go_wp2_with fail
              exact ⟨⟨j + 1, q3, c3, D3, hs3, _, by omega, by go_num, rfl, rfl, HO8.out, HF8.out, HFL8.out, HRE8.out, HSEP8.out, HB8.out⟩, by simp [intOf]; omega⟩
            · obtain rfl : j = me := by omega
              have hGe : growN F (i + 1) = G := by rw [HGS.out, hG, List.take_of_length_le (by rw [HFE.out]; omega)]
              rw [← hGe] at hO
              have HO := Lib.hid hO
              have hj1 : ¬ (j : Int) < (j : Int) := by omega
              clear hO hG hGe hre hsep
              go_wp2_with fail
              exact ⟨⟨i + 1, q, cq, D, hs2, by omega, by go_num, rfl, HO.out, hb3⟩, by simp [intOf]; omega⟩
        · obtain rfl : i = m := by omega
          rw [← HNX.out] at hO2
          have HO2 := Lib.hid (hO2.mono hbz)
          have hi1 : ¬ (i : Int) < (i : Int) := by omega
          clear hO2
          go_wp2_with fail
          exact ⟨⟨k + 1, q, cq, D, hs2, by omega, by omega, by go_num, rfl, HO2.out, bel_trans hb hb2⟩, by simp [intOf]; omega⟩
    · obtain rfl : k = n := by omega
      have HO := Lib.hid hO
      have hkI : ¬ (k : Int) < (k : Int) := by omega
      clear hO
      go_wp2
      go_ret
      exact ⟨A, m, c, hs, rfl, HO.out, hb⟩
/-- All shapes of n cells, where n lies in the bounds. -/
def fixA (n : Int) : List (List C) := if 1 ≤ n ∧ n ≤ 5 then fixV (n.toNat - 1) else []
theorem fixA_shape2 (n : Int) : ∀ x ∈ fixA n, isShape x = true := by
  intro x hx
  unfold fixA at hx
  split at hx
  · exact (fixV_fine _).2 x hx
  · simp at hx
theorem fixA_len2 (n : Int) : (fixA n).length ≤ 1048576 := by
  unfold fixA
  split
  · have h1 := fixV_len (n.toNat - 1); have h2 := pow32 (n.toNat - 1) (by omega); omega
  · simp
theorem FixedShapes_i (n : Int) (w : World) : Calls Tryz.prog 33 #[.int .i64 n] w (RetF w (fixA n)) := by
  by_cases h : 1 ≤ n ∧ n ≤ 5
  · obtain ⟨k, rfl⟩ : ∃ k : Nat, n = (k : Int) := ⟨n.toNat, by omega⟩
    have HV : Hid (fixA (k : Int) = fixV (k - 1)) := by show fixA _ = _; unfold fixA; rw [if_pos h]; simp
    have h1 : 1 ≤ k := by omega
    have h5 : k ≤ 6 := by omega
    have HB := Lib.hid h
    clear h
    go_enter Tryz.func33, Tryz.ntmps33
    go_wp2_with fail
    refine (between_t (k : Int) 1 5 _ HB.out.1 HB.out.2).mono ?_
    rintro e w1 ⟨rfl, hb1⟩
    go_wp2_with fail
    refine (grown_i k _ h1 h5).mono ?_
    rw [← HV.out]
    rintro e w2 ⟨A, m, c, hs, rfl, hO, hb2⟩
    have HO := Lib.hid (hO.mono hb1.size)
    clear hO
    go_wp2_with fail
    go_ret
    exact ⟨A, m, c, hs, rfl, HO.out, bel_trans hb1 hb2⟩
  · have HV : Hid (fixA n = []) := by show fixA _ = _; unfold fixA; rw [if_neg h]
    have HB := Lib.hid h
    clear h
    go_enter Tryz.func33, Tryz.ntmps33
    go_wp2_with fail
    refine (between_f n 1 5 _ HB.out).mono ?_
    rintro e w1 ⟨rfl, hb1⟩
    go_wp2_with fail
    go_ret
    exact ⟨none, 0, 0, [], rfl, by rw [HV.out]; exact OwnF.nil _ _, hb1⟩
def cntV (n hi : Int) : Int := if 1 ≤ n ∧ n ≤ hi then ((fixV (n.toNat - 1)).length : Nat) else -1
theorem CountByGrowth_i (n : Int) (w : World) : Calls Tryz.prog 35 #[.int .i64 n] w (Ret w (.int .i64 (cntV n 6))) := by
  by_cases h : 1 ≤ n ∧ n ≤ 6
  · obtain ⟨k, rfl⟩ : ∃ k : Nat, n = (k : Int) := ⟨n.toNat, by omega⟩
    have HV : Hid (cntV (k : Int) 6 = ((fixV (k - 1)).length : Nat)) := by show cntV _ _ = _; unfold cntV; rw [if_pos h]; simp
    have h1 : 1 ≤ k := by omega
    have h5 : k ≤ 6 := by omega
    have HB := Lib.hid h
    clear h
    go_enter Tryz.func35, Tryz.ntmps35
    go_wp2_with fail
    refine (between_t (k : Int) 1 6 _ HB.out.1 HB.out.2).mono ?_
    rintro e w1 ⟨rfl, hb1⟩
    go_wp2_with fail
    refine (grown_i k _ h1 h5).mono ?_
    rintro e w2 ⟨A, m, c, hs, rfl, hO, hb2⟩
    have hf := hO.flen
    have HF := Lib.hid hf
    clear hO hf
    go_wp2_with fail
    go_ret
    exact ⟨by rw [HV.out, HF.out]; rfl, bel_trans hb1 hb2⟩
  · have HV : Hid (cntV n 6 = -1) := by show cntV _ _ = _; unfold cntV; rw [if_neg h]
    have HB := Lib.hid h
    clear h
    go_enter Tryz.func35, Tryz.ntmps35
    go_wp2_with fail
    refine (between_f n 1 6 _ HB.out).mono ?_
    rintro e w1 ⟨rfl, hb1⟩
    go_wp2_with fail
    go_ret
    exact ⟨by rw [HV.out]; rfl, hb1⟩
theorem CountByRows_i (n : Int) (w : World) : Calls Tryz.prog 36 #[.int .i64 n] w (Ret w (.int .i64 (cntV n 4))) := by
  by_cases h : 1 ≤ n ∧ n ≤ 4
  · obtain ⟨k, rfl⟩ : ∃ k : Nat, n = (k : Int) := ⟨n.toNat, by omega⟩
    have HV : Hid (cntV (k : Int) 4 = ((fixV (k - 1)).length : Nat)) := by show cntV _ _ = _; unfold cntV; rw [if_pos h]; simp
    have h1 : 1 ≤ k := by omega
    have h5 : k ≤ 6 := by omega
    have HB := Lib.hid h
    clear h
    go_enter Tryz.func36, Tryz.ntmps36
    go_wp2_with fail
    refine (between_t (k : Int) 1 4 _ HB.out.1 HB.out.2).mono ?_
    rintro e w1 ⟨rfl, hb1⟩
    go_wp2_with fail
    refine (grown_i k _ h1 h5).mono ?_
    rintro e w2 ⟨A, m, c, hs, rfl, hO, hb2⟩
    have hf := hO.flen
    have HF := Lib.hid hf
    clear hO hf
    go_wp2_with fail
    go_ret
    exact ⟨by rw [HV.out, HF.out]; rfl, bel_trans hb1 hb2⟩
  · have HV : Hid (cntV n 4 = -1) := by show cntV _ _ = _; unfold cntV; rw [if_neg h]
    have HB := Lib.hid h
    clear h
    go_enter Tryz.func36, Tryz.ntmps36
    go_wp2_with fail
    refine (between_f n 1 4 _ HB.out).mono ?_
    rintro e w1 ⟨rfl, hb1⟩
    go_wp2_with fail
    go_ret
    exact ⟨by rw [HV.out]; rfl, hb1⟩
end Go.Proofs.YtkcgdnnipohehaaGreatDoor

/- The shapes with one cell more: the reference. -/
namespace Go.Proofs.YtkcgdnnipohehaaGreatDoor
open Go.RowKit
set_option linter.unusedVariables false
attribute [local go_sem ↓] Go.wp_at_zero Go.wp_at_succ

theorem sidesS_small {c : C} (h : onB c = true) : ∀ d ∈ sidesS c, -1 ≤ d.1 ∧ d.1 ≤ 8 ∧ -1 ≤ d.2 ∧ d.2 ≤ 8 := by
  intro d hd
  exact sidesV_small h d ((sides_same c d).2 hd)
theorem own_lit2 (w : World) {base : Nat} (h : base ≤ w.heap.size) : (w.alloc (.cells #[] 87)).ownsRow base 87 2 (.slice (some ⟨w.heap.size, 0, none⟩) 0 0) 0 (vC []) := own_new w _ 2 0 #[] rfl (by simp [maxLen]) h
/-- The shapes with one cell more, as the reference has them: none for a list that is no shape, or has eight cells. -/
def extR (s : List C) : List (List C) := if isShape s = true ∧ s.length ≠ 8 then extV s else []
def RetFA (w : World) (F : List (List C)) (e : Ending) (w' : World) : Prop :=
  ∃ g n c hs, e = .returned (.slice (some ⟨g, 0, none⟩) n c) ∧ OwnF w.heap.size w' (some ⟨g, 0, none⟩) n c hs F ∧ Below w.heap.size w w'
set_option maxRecDepth 100000 in
set_option maxHeartbeats 6400000 in
theorem ExtensionsOf_s (A : Option Addr) (n c : Nat) (xs : List C) (w : World) (hr : Rd w A (vC xs)) (hl : xs.length = n) (hn : n ≤ 1048576) :
    Calls Tryz.prog 39 #[.slice A n c] w (RetFA w (extR xs)) := by
  have hini : (w.alloc (.cells #[] 52)).ownsRow w.heap.size 52 1 (.slice (some ⟨w.heap.size, 0, none⟩) 0 0) 0 [] := own_new w _ 1 0 #[] rfl (by simp [maxLen]) (Nat.le_refl _)
  have HI := Lib.hid (OwnF.none_ hini)
  have HL := Lib.hid hl
  have HR := Lib.hid hr
  have hnn : n ≤ 1099511627776 := by omega
  cases hs : isShape xs with
  | false =>
    have HV : Hid (extR xs = []) := by show extR xs = []; unfold extR; rw [hs]; simp
    have HS := Lib.hid hs
    clear hs hl hr hini
    go_enter Tryz.func39, Tryz.ntmps39
    go_wp2_with fail
    refine (IsShape_s A n c xs _ (HR.out.alloc _) HL.out hnn).mono ?_
    rw [HS.out]
    rintro e w1 ⟨rfl, hb1⟩
    go_wp2_with fail
    go_ret
    exact ⟨w.heap.size, 0, 0, [], rfl, by rw [HV.out]; exact HI.out.below hb1, bel_trans (bel_alloc (Below.refl _ _) _) hb1⟩
  | true =>
    by_cases h8 : n = 8
    · have HV : Hid (extR xs = []) := by show extR xs = []; unfold extR; rw [if_neg (by rw [hl]; simp [h8])]
      have HS := Lib.hid hs
      have e8 : ((n : Int) == 8) = true := by simp [h8]
      have e8n : n = 8 := h8
      clear hs hl hr hini h8 e8n
      go_enter Tryz.func39, Tryz.ntmps39
      go_wp2_with fail
      refine (IsShape_s A n c xs _ (HR.out.alloc _) HL.out hnn).mono ?_
      rw [HS.out]
      rintro e w1 ⟨rfl, hb1⟩
      go_wp2_with fail
      go_ret
      exact ⟨w.heap.size, 0, 0, [], rfl, by rw [HV.out]; exact HI.out.below hb1, bel_trans (bel_alloc (Below.refl _ _) _) hb1⟩
    · have HV : Hid (extR xs = extTo sidesS xs n) := by show extR xs = _; unfold extR; rw [if_pos ⟨hs, by rw [hl]; exact h8⟩, ← hl, ext_same]
      have hn7 : n ≤ 7 := by have := (shape_len hs).2; omega
      have HSH := Lib.hid hs
      have e8 : ((n : Int) == 8) = false := by rw [beq_eq_false_iff_ne]; omega
      have h8n : ¬ n = 8 := h8
      clear hs hl hr hini h8
      go_enter Tryz.func39, Tryz.ntmps39
      go_wp2_with fail
      refine (IsShape_s A n c xs _ (HR.out.alloc _) HL.out hnn).mono ?_
      rw [HSH.out]
      rintro e w1 ⟨rfl, hb1⟩
      have HI1 := Lib.hid (HI.out.below hb1)
      have hbw1 : Below w.heap.size w w1 := bel_trans (bel_alloc (Below.refl _ _) _) hb1
      go_wp2_with fail
      go_loopw [4, 3] (fun e4 e3 wr => ∃ (k g q cq : Nat) (hs : List H), k ≤ n ∧ e4 = .int .i64 k ∧ e3 = .slice (some ⟨g, 0, none⟩) q cq ∧ OwnF w.heap.size wr (some ⟨g, 0, none⟩) q cq hs (extTo sidesS xs k) ∧ Below w.heap.size w wr) (fun e4 _ _ => n - (intOf e4).toNat)
      case atStart => exact ⟨0, _, 0, 0, [], Nat.zero_le _, rfl, rfl, HI1.out, hbw1⟩
      case round =>
        clear HI1 hbw1 hb1
        obtain ⟨k, gD, q, cq, hs, hk, rfl, rfl, hO, hb⟩ := hrel
        by_cases hlt : k < n
        · have hkl : k < xs.length := by rw [HL.out]; exact hlt
          have hk0 : (0 : Int) ≤ (k : Int) := by omega
          have hk1 : (k : Int) < (n : Int) := by omega
          have hon := shape_onB HSH.out _ (List.getElem_mem hkl)
          have hst := extTo_succ sidesS xs k hkl
          have hsl := extTo_len sidesS (fun _ => rfl) xs k (by omega)
          obtain ⟨p, hp⟩ : ∃ p, xs[k].1 = p := ⟨_, rfl⟩
          obtain ⟨r, hrr⟩ : ∃ r, xs[k].2 = r := ⟨_, rfl⟩
          rw [show xs[k] = (p, r) from Prod.ext hp hrr] at hon hst
          have hsv := sidesS_small hon
          have hpr : 0 ≤ p ∧ p ≤ 7 ∧ 0 ≤ r ∧ r ≤ 7 := by simp [onB] at hon; omega
          have hfine := extTo_fine sidesS xs k
          obtain ⟨F0, hF0⟩ : ∃ F0, extTo sidesS xs k = F0 := ⟨_, rfl⟩
          rw [hF0] at hst hsl hO hfine
          have HST := Lib.hid hst
          have HFI := Lib.hid hfine
          have HSV := Lib.hid hsv
          have HO := Lib.hid hO
          have HP := Lib.hid hp
          have HRR := Lib.hid hrr
          have HPR := Lib.hid hpr
          clear hst hfine hsv hO hp hrr hon hF0 hpr
          go_wp2_with fail
          go_loopw [5, 3] (fun e5 e3 wr => ∃ (j g q cq : Nat) (hs : List H) (F : List (List C)), j ≤ 4 ∧ e5 = .int .i64 j ∧ e3 = .slice (some ⟨g, 0, none⟩) q cq ∧ F = ((sidesS (p, r)).take j).foldl (extStep xs) F0 ∧ OwnF w.heap.size wr (some ⟨g, 0, none⟩) q cq hs F ∧ FineF F ∧ F.length ≤ 4 * k + j ∧ Below w.heap.size w wr) (fun e5 _ _ => 4 - (intOf e5).toNat)
          case atStart => exact ⟨0, gD, q, cq, hs, F0, Nat.zero_le _, rfl, rfl, rfl, HO.out, HFI.out, by omega, hb⟩
          case round =>
            clear HO hb hsl HFI
            obtain ⟨j, gD, q, cq, hs, F, hj, rfl, rfl, hF, hO, hfi, hfl, hb⟩ := hrel
            by_cases hj4 : j < 4
            · have hjl : j < (sidesS (p, r)).length := hj4
              have hj0 : (0 : Int) ≤ (j : Int) := by omega
              have hj1 : (j : Int) < 4 := by omega
              have hsm := HSV.out _ (List.getElem_mem hjl)
              have hstep : ((sidesS (p, r)).take (j + 1)).foldl (extStep xs) F0 = extStep xs F (sidesS (p, r))[j] := by
                rw [List.take_succ_eq_append_getElem hjl, List.foldl_append, ← hF]
                rfl
              obtain ⟨da, db, e1, e2, hd1, hd2, hab⟩ : ∃ da db : Int, ((1 : Int) - (j : Int)).tmod 2 = da ∧ ((2 : Int) - (j : Int)).tmod 2 = db ∧ (-1 ≤ da ∧ da ≤ 1) ∧ (-1 ≤ db ∧ db ≤ 1) ∧ (sidesS (p, r))[j] = (p + da, r + db) := by
                rcases (by omega : j = 0 ∨ j = 1 ∨ j = 2 ∨ j = 3) with rfl | rfl | rfl | rfl
                · exact ⟨1, 0, by decide, by decide, by omega, by omega, by simp [sidesS]⟩
                · exact ⟨0, 1, by decide, by decide, by omega, by omega, by simp [sidesS]⟩
                · exact ⟨-1, 0, by decide, by decide, by omega, by omega, by simp [sidesS]; omega⟩
                · exact ⟨0, -1, by decide, by decide, by omega, by omega, by simp [sidesS]; omega⟩
              have hpr := HPR.out
              obtain ⟨x, hx⟩ : ∃ x, p + da = x := ⟨_, rfl⟩
              obtain ⟨y, hy⟩ : ∃ y, r + db = y := ⟨_, rfl⟩
              rw [hab, hx, hy] at hsm hstep
              have v1 : IntKind.i64.wrap ((1 : Int) - (j : Int)) = (1 : Int) - (j : Int) := Go.IntWalk.i64_in _ (by omega)
              have v2 : IntKind.i64.wrap ((2 : Int) - (j : Int)) = (2 : Int) - (j : Int) := Go.IntWalk.i64_in _ (by omega)
              have v3 : IntKind.i64.wrap x = x := Go.IntWalk.i64_in _ (by omega)
              have v4 : IntKind.i64.wrap y = y := Go.IntWalk.i64_in _ (by omega)
              have v5 : IntKind.i64.wrap da = da := Go.IntWalk.i64_in _ (by omega)
              have v6 : IntKind.i64.wrap db = db := Go.IntWalk.i64_in _ (by omega)
              have hsmall := app_small HSH.out hsm
              have HSM := Lib.hid hsmall
              have HF := Lib.hid hF
              have HQF := Lib.hid hO.flen
              have hq33 : q ≤ 4 * k + j := by rw [← hO.flen]; exact hfl
              have HO := Lib.hid hO
              have HFI2 := Lib.hid hfi
              have HX := Lib.hid (HR.out.below hb)
              obtain ⟨g, off, hA, hg, d1, d2⟩ := RdC.at_ (HR.out.below hb) hkl
              subst hA
              rw [HP.out] at d1
              rw [HRR.out] at d2
              clear hF hO hfi hsm hsmall hab hd1 hd2 hpr
              go_wp2_with fail
              (refine wp_region_tailN (C := ExC wr) 19 (by kernel_rfl) (by kernel_rfl) (ExC.drawn _) (fun _ _ h k => ExC.ext h k) ?_; simp only [List.take_succ_cons, List.take_zero, List.drop_succ_cons, List.drop_zero]; (repeat (first | (refine headSkip (by rfl) rfl ?_; simp only [List.setIfInBounds_toArray, List.set_cons_zero, List.set_cons_succ]) | (refine headV (v := ?_) (by rfl) rfl (fun w' hcw => ?_) ?_; rotate_left; ((try dsimp only at hcw); have hbc := hcw.cells; go_simp; first | done | with_reducible rfl | fail); simp only [List.setIfInBounds_toArray, List.set_cons_zero, List.set_cons_succ]))); unfold wpHead)
              (refine tailK (by rfl) (fun b3 hc3 he3 K hK => ?_); go_simp; refine hK _ _ (hc3.ext (bel_alloc (Below.refl _ _) _)) ?_; clear hK K)
              have k3 := Blk.new b3 87 #[.int .i64 0, .int .i64 0]
              have hz3 := he3.size
              refine tailK (by rfl) (fun b4 hc4 he4 K hK => ?_)
              have k4 := k3.below he4
              have q1 : b4.cell? ⟨b3.heap.size, 0, none⟩ = some (.int .i64 0) := by simpa using k4.cell 0
              have q2 : b4.cell? ⟨b3.heap.size, 1, none⟩ = some (.int .i64 0) := by simpa using k4.cell 1
              have f1 := k4.frozen 0
              have f2 := k4.frozen 1
              go_simp
              refine hK _ _ (bel_set (bel_set hc4 (by simp; omega)) (by simp; omega)) ?_
              clear hK K
              (refine fun b5 hc5 he5 => NoPanic.normal ?_)
              have hK5 := ((k4.set_ 0 (.int .i64 x)).set_ 1 (.int .i64 y)).below he5
              have m0 : b5.cell? ⟨b3.heap.size, 0, none⟩ = some (.int .i64 x) := by simpa using hK5.cell 0
              have m1 : b5.cell? ⟨b3.heap.size, 1, none⟩ = some (.int .i64 y) := by simpa using hK5.cell 1
              have ml := hK5.lt
              have HK5 := Lib.hid hK5
              have hbr5 : Below wr.heap.size wr b5 := hc5
              clear k3 k4 hc3 he3 hc4 he4 q1 q2 f1 f2 hc5 he5 hK5 d1 d2
              cases hh : hasC xs x y with
              | true =>
                have HN : Hid (((sidesS (p, r)).take (j + 1)).foldl (extStep xs) F0 = F) := by show _ = F; rw [hstep]; unfold extStep; simp only [hh, if_true]
                have HH := Lib.hid hh
                clear hh hstep
                go_wp2_with fail
                refine (HasCell_s _ n c xs x y _ (HX.out.below hbr5) HL.out hnn).mono ?_
                rw [show hasC xs x y = true from HH.out]
                rintro e w2 ⟨rfl, hb2⟩
                have hb3 := bel_trans hbr5 hb2
                go_wp2_with fail
                exact ⟨⟨j + 1, gD, q, cq, hs, F, by omega, by go_num, rfl, HN.out.symm, HO.out.below hb3, HFI2.out, by have := HQF.out; omega, bel_trans hb hb3⟩, by simp [intOf]; omega⟩
              | false =>
                have HH := Lib.hid hh
                go_wp2_with fail
                refine (HasCell_s _ n c xs x y _ (HX.out.below hbr5) HL.out hnn).mono ?_
                rw [show hasC xs x y = false from HH.out]
                rintro e w2 ⟨rfl, hb2⟩
                have hb2r : Below wr.heap.size wr w2 := bel_trans hbr5 hb2
                have hCB := HK5.out.below hb2
                have z0 : w2.cell? ⟨b3.heap.size, 0, none⟩ = some (.int .i64 x) := by simpa using hCB.cell 0
                have z1 : w2.cell? ⟨b3.heap.size, 1, none⟩ = some (.int .i64 y) := by simpa using hCB.cell 1
                have zl := hCB.lt
                clear hCB m0 m1 ml
                go_wp2_with fail
                refine wp_region_rg 9 rfl (by kernel_rfl) ?_
                (refine rgT (i := 1) (v := ?_) rfl rfl (by kernel_rfl) (by kernel_rfl) (by kernel_rfl) (by rfl) (fun w' hcw => ?_) ?_; rotate_left; ((try dsimp only at hcw); have hbc := hcw.cells; go_simp; first | done | with_reducible rfl); simp only [List.setIfInBounds_toArray, List.set_cons_zero, List.set_cons_succ])
                (refine rgT (i := 3) (v := ?_) rfl rfl (by kernel_rfl) (by kernel_rfl) (by kernel_rfl) (by rfl) (fun w' hcw => ?_) ?_; rotate_left; ((try dsimp only at hcw); have hbc := hcw.cells; go_simp; first | done | with_reducible rfl); simp only [List.setIfInBounds_toArray, List.set_cons_zero, List.set_cons_succ])
                refine rgK_two (i := 0) (k := 4) (by kernel_rfl) rfl rfl rfl rfl (fun u0 hc0 he0 K hK => ?_) (fun u4 hc4 he4 K hK => ?_)
                · go_simp
                  refine hK _ _ (bel_alloc hc0 _) ?_
                  clear hK K
                  refine rgK_two (i := 2) (k := 4) (by kernel_rfl) rfl rfl rfl rfl (fun u2 hc2 he2 K hK => ?_) (fun u4 hc4 he4 K hK => ?_)
                  · refine wpC _ _ _ rfl w2.heap.size (some ⟨u0.heap.size, 0, none⟩) 0 0 [] rfl (own_keep (own_lit2 u0 hc0.size) he2) (some ⟨g, off, none⟩) n c xs rfl (HX.out.below (bel_trans hb2r hc2)) HL.out (by omega) (hc2.size) ?_
                    intro DD cD w3 ho3 hg3 hat3
                    have hx3 : Below w2.heap.size w2 w3 := bel_app hc2 hg3 (fun g h => by simp only [ob, Option.map_some, Option.some.injEq] at h; subst h; exact hc0.size)
                    refine hK _ _ hx3 ?_
                    clear hK K
                    simp only [Act.put, List.setIfInBounds_toArray, Nat.zero_add]
                    simp only [Nat.zero_add, List.nil_append] at ho3
                    have HOD := Lib.hid ho3
                    have HDL : Hid (∀ g, ob DD = some g → w2.heap.size ≤ g) := fun g e => (own_lt HOD.out g e).1
                    have hgu0 := hc0.size
                    clear ho3
                    refine rgK_one (i := 4) (by kernel_rfl) rfl rfl (fun u4 hc4 he4 K hK => ?_)
                    go_simp
                    refine hK _ _ (bel_alloc hc4 _) ?_
                    clear hK K
                    refine rgK_one (i := 5) (by kernel_rfl) rfl rfl (fun u5 hc5 he5 K hK => ?_)
                    refine wpC _ _ _ rfl w2.heap.size DD n cD xs rfl (own_keep (own_keep HOD.out (bel_trans he4 (bel_alloc (Below.refl _ _) _))) he5) _ 1 1 [(x, y)] rfl ((rd_newC u4 _ x y).below he5) rfl (by omega) (hc5.size) ?_
                    intro D2 c2 w5 ho5 hg5 _
                    have hx5 : Below w2.heap.size w2 w5 := bel_app hc5 hg5 (fun g h => HDL.out g h)
                    refine hK _ _ hx5 ?_
                    clear hK K
                    simp only [Act.put, List.setIfInBounds_toArray]
                    have HO5 := Lib.hid ho5
                    clear ho5 hg5
                    refine rgK_one (i := 6) (by kernel_rfl) rfl rfl (fun u6 hc6 he6 K hK => ?_)
                    go_simp
                    refine (SortCells_s D2 (n + 1) c2 (xs ++ [(x, y)]) _ (Rd.of_own (own_keep HO5.out he6)) (by simp [HL.out]) (by omega)).mono ?_
                    rintro e w6 ⟨E, m, cE, rfl, ho6, hb6⟩
                    have hx6 : Below w2.heap.size w2 w6 := bel_trans hc6 hb6
                    refine hK _ _ hx6 ?_
                    clear hK K
                    have hml : (sortC (xs ++ [(x, y)])).length = m := by have := own_len ho6; rw [vC_length] at this; omega
                    have hm9 : m ≤ 8 := by have := sortC_len (xs ++ [(x, y)]); rw [hml] at this; simp [HL.out] at this; omega
                    have HML6 := Lib.hid hml
                    have HO6 := Lib.hid ho6
                    clear ho6 hml
                    refine rgK_one (i := 7) (by kernel_rfl) rfl rfl (fun u7 hc7 he7 K hK => ?_)
                    go_simp
                    refine (l2Corner_s E m cE (sortC (xs ++ [(x, y)])) _ (Rd.of_own (own_keep HO6.out he7)) HML6.out (by omega) (fun d hd => HSM.out d ((sortC_mem _ _).1 hd))).mono ?_
                    rw [← corn_eq (s := xs ++ [(x, y)]) (by simp)]
                    rintro e w7 ⟨E2, m2, cE2, rfl, ho7, hb7⟩
                    have hx7 : Below w2.heap.size w2 w7 := bel_trans hc7 hb7
                    refine hK _ _ hx7 ?_
                    clear hK K
                    have HO7 := Lib.hid ho7
                    clear ho7
                    refine rgK_one (i := 8) (by kernel_rfl) rfl rfl (fun u8 hc8 he8 K hK => ?_)
                    go_simp
                    refine hK _ _ hc8 ?_
                    clear hK K
                    refine ⟨by kernel_rfl, fun wz hcz hez => NoPanic.normal ?_⟩
                    have HO9 := Lib.hid (own_keep (own_keep HO7.out he8) hez)
                    have hbz : Below w2.heap.size w2 wz := hcz
                    have hb39 : Below wr.heap.size wr wz := bel_trans hb2r hbz
                    have hb9 : Below w.heap.size w wz := bel_trans hb hb39
                    clear HO6 HO5 HO7 HML6 hx5 hc5 he5 hb6 hx6 hc6 he6 hc7 he7 hb7 hx7 hc8 he8 hcz hez
                    have hml : (cornI (xs ++ [(x, y)])).length = m2 := by have := own_len HO9.out; rw [vC_length] at this; omega
                    have hm13 : m2 ≤ 9 := by have := cornI_len (xs ++ [(x, y)]); rw [hml] at this; simp [HL.out] at this; omega
                    have hdef : extStep xs F (x, y) = if isShape (cornI (xs ++ [(x, y)])) then putG ltS F (cornI (xs ++ [(x, y)])) else F := by unfold extStep; simp only [hh, Bool.false_eq_true, if_false]
                    rw [hdef] at hstep
                    obtain ⟨s2, hs2⟩ : ∃ s2, cornI (xs ++ [(x, y)]) = s2 := ⟨_, rfl⟩
                    rw [hs2] at hml hstep HO9
                    have HML := Lib.hid hml
                    cases hsh : isShape s2 with
                    | true =>
                      rw [hsh, if_pos rfl] at hstep
                      have HSTEP := Lib.hid hstep
                      have HS2 := Lib.hid hsh
                      clear hstep hsh hml hs2 hdef hh
                      go_wp2_with fail
                      refine (IsShape_s E2 m2 cE2 s2 _ (Rd.of_own HO9.out) HML.out (by omega)).mono ?_
                      rw [HS2.out]
                      rintro e w8 ⟨rfl, hb8⟩
                      have HOF := Lib.hid (HO.out.below (bel_trans hb39 hb8))
                      have HOE := Lib.hid (own_keep HO9.out hb8)
                      go_wp2_with fail
                      refine (l3Put_s gD q cq hs F E2 m2 cE2 s2 w.heap.size _ HOF.out (CRow.of_own HOE.out) (fun x hx => by have := HFI2.out.len x hx; omega) (by omega) (by omega) (by have := hb9.size; have := hb8.size; omega)).mono ?_
                      rw [← HSTEP.out]
                      rintro e w9 ⟨gE, q3, c3, hs3, rfl, hO8, hb10⟩
                      have HO8 := Lib.hid hO8
                      have HFL8 : Hid ((((sidesS (p, r)).take (j + 1)).foldl (extStep xs) F0).length ≤ 4 * k + (j + 1)) := by
                        show _ ≤ _
                        rw [HSTEP.out]
                        have := putG_len (lt := ltS) F s2
                        have := HQF.out
                        omega
                      have HF8 : Hid (FineF (((sidesS (p, r)).take (j + 1)).foldl (extStep xs) F0)) := by show FineF _; rw [HSTEP.out]; exact HFI2.out.put HS2.out
                      clear hO8
                      go_wp2_with fail
                      exact ⟨⟨j + 1, gE, q3, c3, hs3, _, by omega, by go_num, rfl, rfl, HO8.out, HF8.out, HFL8.out, bel_trans hb9 (bel_trans hb8 hb10)⟩, by simp [intOf]; omega⟩
                    | false =>
                      rw [hsh] at hstep
                      have HSTEP : Hid (((sidesS (p, r)).take (j + 1)).foldl (extStep xs) F0 = F) := by show _ = F; rw [hstep]; rfl
                      have HS2 := Lib.hid hsh
                      clear hstep hsh hml hs2 hdef hh
                      go_wp2_with fail
                      refine (IsShape_s E2 m2 cE2 s2 _ (Rd.of_own HO9.out) HML.out (by omega)).mono ?_
                      rw [HS2.out]
                      rintro e w8 ⟨rfl, hb8⟩
                      go_wp2_with fail
                      exact ⟨⟨j + 1, gD, q, cq, hs, F, by omega, by go_num, rfl, HSTEP.out.symm, HO.out.below (bel_trans hb39 hb8), HFI2.out, by have := HQF.out; omega, bel_trans hb9 hb8⟩, by simp [intOf]; omega⟩
                  · go_simp
                    refine hK _ _ (bel_alloc hc4 _) ?_
                    clear hK K
                    refine rgK_one (i := 2) (by kernel_rfl) rfl rfl (fun u2 hc2 he2 K hK => ?_)
                    refine wpC _ _ _ rfl w2.heap.size (some ⟨u0.heap.size, 0, none⟩) 0 0 [] rfl (own_keep ((own_keep (own_lit2 u0 hc0.size) he4).alloc _) he2) (some ⟨g, off, none⟩) n c xs rfl (HX.out.below (bel_trans hb2r hc2)) HL.out (by omega) (hc2.size) ?_
                    intro DD cD w3 ho3 hg3 hat3
                    have hx3 : Below w2.heap.size w2 w3 := bel_app hc2 hg3 (fun g h => by simp only [ob, Option.map_some, Option.some.injEq] at h; subst h; exact hc0.size)
                    refine hK _ _ hx3 ?_
                    clear hK K
                    simp only [Act.put, List.setIfInBounds_toArray, Nat.zero_add]
                    simp only [Nat.zero_add, List.nil_append] at ho3
                    have HOD := Lib.hid ho3
                    have HDL : Hid (∀ g, ob DD = some g → w2.heap.size ≤ g) := fun g e => (own_lt HOD.out g e).1
                    have hgu0 := hc0.size
                    clear ho3
                    have hz4 := he4.size
                    simp only [World.size_alloc] at hz4
                    refine rgK_one (i := 5) (by kernel_rfl) rfl rfl (fun u5 hc5 he5 K hK => ?_)
                    refine wpC _ _ _ rfl w2.heap.size DD n cD xs rfl (own_keep HOD.out he5) _ 1 1 [(x, y)] rfl ((((rd_newC u4 _ x y).below he2).grown hg3 (fun g e r => by simp only [ob, Option.map_some, Option.some.injEq] at e r; omega)).below he5) rfl (by omega) (hc5.size) ?_
                    intro D2 c2 w5 ho5 hg5 _
                    have hx5 : Below w2.heap.size w2 w5 := bel_app hc5 hg5 (fun g h => HDL.out g h)
                    refine hK _ _ hx5 ?_
                    clear hK K
                    simp only [Act.put]
                    have HO5 := Lib.hid ho5
                    clear ho5 hg5
                    refine rgK_one (i := 6) (by kernel_rfl) rfl rfl (fun u6 hc6 he6 K hK => ?_)
                    go_simp
                    refine (SortCells_s D2 (n + 1) c2 (xs ++ [(x, y)]) _ (Rd.of_own (own_keep HO5.out he6)) (by simp [HL.out]) (by omega)).mono ?_
                    rintro e w6 ⟨E, m, cE, rfl, ho6, hb6⟩
                    have hx6 : Below w2.heap.size w2 w6 := bel_trans hc6 hb6
                    refine hK _ _ hx6 ?_
                    clear hK K
                    have hml : (sortC (xs ++ [(x, y)])).length = m := by have := own_len ho6; rw [vC_length] at this; omega
                    have hm9 : m ≤ 8 := by have := sortC_len (xs ++ [(x, y)]); rw [hml] at this; simp [HL.out] at this; omega
                    have HML6 := Lib.hid hml
                    have HO6 := Lib.hid ho6
                    clear ho6 hml
                    refine rgK_one (i := 7) (by kernel_rfl) rfl rfl (fun u7 hc7 he7 K hK => ?_)
                    go_simp
                    refine (l2Corner_s E m cE (sortC (xs ++ [(x, y)])) _ (Rd.of_own (own_keep HO6.out he7)) HML6.out (by omega) (fun d hd => HSM.out d ((sortC_mem _ _).1 hd))).mono ?_
                    rw [← corn_eq (s := xs ++ [(x, y)]) (by simp)]
                    rintro e w7 ⟨E2, m2, cE2, rfl, ho7, hb7⟩
                    have hx7 : Below w2.heap.size w2 w7 := bel_trans hc7 hb7
                    refine hK _ _ hx7 ?_
                    clear hK K
                    have HO7 := Lib.hid ho7
                    clear ho7
                    refine rgK_one (i := 8) (by kernel_rfl) rfl rfl (fun u8 hc8 he8 K hK => ?_)
                    go_simp
                    refine hK _ _ hc8 ?_
                    clear hK K
                    refine ⟨by kernel_rfl, fun wz hcz hez => NoPanic.normal ?_⟩
                    have HO9 := Lib.hid (own_keep (own_keep HO7.out he8) hez)
                    have hbz : Below w2.heap.size w2 wz := hcz
                    have hb39 : Below wr.heap.size wr wz := bel_trans hb2r hbz
                    have hb9 : Below w.heap.size w wz := bel_trans hb hb39
                    clear HO6 HO5 HO7 HML6 hx5 hc5 he5 hb6 hx6 hc6 he6 hc7 he7 hb7 hx7 hc8 he8 hcz hez
                    have hml : (cornI (xs ++ [(x, y)])).length = m2 := by have := own_len HO9.out; rw [vC_length] at this; omega
                    have hm13 : m2 ≤ 9 := by have := cornI_len (xs ++ [(x, y)]); rw [hml] at this; simp [HL.out] at this; omega
                    have hdef : extStep xs F (x, y) = if isShape (cornI (xs ++ [(x, y)])) then putG ltS F (cornI (xs ++ [(x, y)])) else F := by unfold extStep; simp only [hh, Bool.false_eq_true, if_false]
                    rw [hdef] at hstep
                    obtain ⟨s2, hs2⟩ : ∃ s2, cornI (xs ++ [(x, y)]) = s2 := ⟨_, rfl⟩
                    rw [hs2] at hml hstep HO9
                    have HML := Lib.hid hml
                    cases hsh : isShape s2 with
                    | true =>
                      rw [hsh, if_pos rfl] at hstep
                      have HSTEP := Lib.hid hstep
                      have HS2 := Lib.hid hsh
                      clear hstep hsh hml hs2 hdef hh
                      go_wp2_with fail
                      refine (IsShape_s E2 m2 cE2 s2 _ (Rd.of_own HO9.out) HML.out (by omega)).mono ?_
                      rw [HS2.out]
                      rintro e w8 ⟨rfl, hb8⟩
                      have HOF := Lib.hid (HO.out.below (bel_trans hb39 hb8))
                      have HOE := Lib.hid (own_keep HO9.out hb8)
                      go_wp2_with fail
                      refine (l3Put_s gD q cq hs F E2 m2 cE2 s2 w.heap.size _ HOF.out (CRow.of_own HOE.out) (fun x hx => by have := HFI2.out.len x hx; omega) (by omega) (by omega) (by have := hb9.size; have := hb8.size; omega)).mono ?_
                      rw [← HSTEP.out]
                      rintro e w9 ⟨gE, q3, c3, hs3, rfl, hO8, hb10⟩
                      have HO8 := Lib.hid hO8
                      have HFL8 : Hid ((((sidesS (p, r)).take (j + 1)).foldl (extStep xs) F0).length ≤ 4 * k + (j + 1)) := by
                        show _ ≤ _
                        rw [HSTEP.out]
                        have := putG_len (lt := ltS) F s2
                        have := HQF.out
                        omega
                      have HF8 : Hid (FineF (((sidesS (p, r)).take (j + 1)).foldl (extStep xs) F0)) := by show FineF _; rw [HSTEP.out]; exact HFI2.out.put HS2.out
                      clear hO8
                      go_wp2_with fail
                      exact ⟨⟨j + 1, gE, q3, c3, hs3, _, by omega, by go_num, rfl, rfl, HO8.out, HF8.out, HFL8.out, bel_trans hb9 (bel_trans hb8 hb10)⟩, by simp [intOf]; omega⟩
                    | false =>
                      rw [hsh] at hstep
                      have HSTEP : Hid (((sidesS (p, r)).take (j + 1)).foldl (extStep xs) F0 = F) := by show _ = F; rw [hstep]; rfl
                      have HS2 := Lib.hid hsh
                      clear hstep hsh hml hs2 hdef hh
                      go_wp2_with fail
                      refine (IsShape_s E2 m2 cE2 s2 _ (Rd.of_own HO9.out) HML.out (by omega)).mono ?_
                      rw [HS2.out]
                      rintro e w8 ⟨rfl, hb8⟩
                      go_wp2_with fail
                      exact ⟨⟨j + 1, gD, q, cq, hs, F, by omega, by go_num, rfl, HSTEP.out.symm, HO.out.below (bel_trans hb39 hb8), HFI2.out, by have := HQF.out; omega, bel_trans hb9 hb8⟩, by simp [intOf]; omega⟩
                · go_simp
                  refine hK _ _ (bel_alloc hc4 _) ?_
                  clear hK K
                  refine rgK_one (i := 0) (by kernel_rfl) rfl rfl (fun u0 hc0 he0 K hK => ?_)
                  go_simp
                  refine hK _ _ (bel_alloc hc0 _) ?_
                  clear hK K
                  refine rgK_one (i := 2) (by kernel_rfl) rfl rfl (fun u2 hc2 he2 K hK => ?_)
                  refine wpC _ _ _ rfl w2.heap.size (some ⟨u0.heap.size, 0, none⟩) 0 0 [] rfl (own_keep (own_lit2 u0 hc0.size) he2) (some ⟨g, off, none⟩) n c xs rfl (HX.out.below (bel_trans hb2r hc2)) HL.out (by omega) (hc2.size) ?_
                  intro DD cD w3 ho3 hg3 hat3
                  have hx3 : Below w2.heap.size w2 w3 := bel_app hc2 hg3 (fun g h => by simp only [ob, Option.map_some, Option.some.injEq] at h; subst h; exact hc0.size)
                  refine hK _ _ hx3 ?_
                  clear hK K
                  simp only [Act.put, List.setIfInBounds_toArray, Nat.zero_add]
                  simp only [Nat.zero_add, List.nil_append] at ho3
                  have HOD := Lib.hid ho3
                  have HDL : Hid (∀ g, ob DD = some g → w2.heap.size ≤ g) := fun g e => (own_lt HOD.out g e).1
                  have hgu0 := hc0.size
                  clear ho3
                  have hz0 := he0.size
                  simp only [World.size_alloc] at hz0
                  refine rgK_one (i := 5) (by kernel_rfl) rfl rfl (fun u5 hc5 he5 K hK => ?_)
                  refine wpC _ _ _ rfl w2.heap.size DD n cD xs rfl (own_keep HOD.out he5) _ 1 1 [(x, y)] rfl ((((((rd_newC u4 _ x y).below he0).alloc _).below he2).grown hg3 (fun g e r => by simp only [ob, Option.map_some, Option.some.injEq] at e r; omega)).below he5) rfl (by omega) (hc5.size) ?_
                  intro D2 c2 w5 ho5 hg5 _
                  have hx5 : Below w2.heap.size w2 w5 := bel_app hc5 hg5 (fun g h => HDL.out g h)
                  refine hK _ _ hx5 ?_
                  clear hK K
                  simp only [Act.put]
                  have HO5 := Lib.hid ho5
                  clear ho5 hg5
                  refine rgK_one (i := 6) (by kernel_rfl) rfl rfl (fun u6 hc6 he6 K hK => ?_)
                  go_simp
                  refine (SortCells_s D2 (n + 1) c2 (xs ++ [(x, y)]) _ (Rd.of_own (own_keep HO5.out he6)) (by simp [HL.out]) (by omega)).mono ?_
                  rintro e w6 ⟨E, m, cE, rfl, ho6, hb6⟩
                  have hx6 : Below w2.heap.size w2 w6 := bel_trans hc6 hb6
                  refine hK _ _ hx6 ?_
                  clear hK K
                  have hml : (sortC (xs ++ [(x, y)])).length = m := by have := own_len ho6; rw [vC_length] at this; omega
                  have hm9 : m ≤ 8 := by have := sortC_len (xs ++ [(x, y)]); rw [hml] at this; simp [HL.out] at this; omega
                  have HML6 := Lib.hid hml
                  have HO6 := Lib.hid ho6
                  clear ho6 hml
                  refine rgK_one (i := 7) (by kernel_rfl) rfl rfl (fun u7 hc7 he7 K hK => ?_)
                  go_simp
                  refine (l2Corner_s E m cE (sortC (xs ++ [(x, y)])) _ (Rd.of_own (own_keep HO6.out he7)) HML6.out (by omega) (fun d hd => HSM.out d ((sortC_mem _ _).1 hd))).mono ?_
                  rw [← corn_eq (s := xs ++ [(x, y)]) (by simp)]
                  rintro e w7 ⟨E2, m2, cE2, rfl, ho7, hb7⟩
                  have hx7 : Below w2.heap.size w2 w7 := bel_trans hc7 hb7
                  refine hK _ _ hx7 ?_
                  clear hK K
                  have HO7 := Lib.hid ho7
                  clear ho7
                  refine rgK_one (i := 8) (by kernel_rfl) rfl rfl (fun u8 hc8 he8 K hK => ?_)
                  go_simp
                  refine hK _ _ hc8 ?_
                  clear hK K
                  refine ⟨by kernel_rfl, fun wz hcz hez => NoPanic.normal ?_⟩
                  have HO9 := Lib.hid (own_keep (own_keep HO7.out he8) hez)
                  have hbz : Below w2.heap.size w2 wz := hcz
                  have hb39 : Below wr.heap.size wr wz := bel_trans hb2r hbz
                  have hb9 : Below w.heap.size w wz := bel_trans hb hb39
                  clear HO6 HO5 HO7 HML6 hx5 hc5 he5 hb6 hx6 hc6 he6 hc7 he7 hb7 hx7 hc8 he8 hcz hez
                  have hml : (cornI (xs ++ [(x, y)])).length = m2 := by have := own_len HO9.out; rw [vC_length] at this; omega
                  have hm13 : m2 ≤ 9 := by have := cornI_len (xs ++ [(x, y)]); rw [hml] at this; simp [HL.out] at this; omega
                  have hdef : extStep xs F (x, y) = if isShape (cornI (xs ++ [(x, y)])) then putG ltS F (cornI (xs ++ [(x, y)])) else F := by unfold extStep; simp only [hh, Bool.false_eq_true, if_false]
                  rw [hdef] at hstep
                  obtain ⟨s2, hs2⟩ : ∃ s2, cornI (xs ++ [(x, y)]) = s2 := ⟨_, rfl⟩
                  rw [hs2] at hml hstep HO9
                  have HML := Lib.hid hml
                  cases hsh : isShape s2 with
                  | true =>
                    rw [hsh, if_pos rfl] at hstep
                    have HSTEP := Lib.hid hstep
                    have HS2 := Lib.hid hsh
                    clear hstep hsh hml hs2 hdef hh
                    go_wp2_with fail
                    refine (IsShape_s E2 m2 cE2 s2 _ (Rd.of_own HO9.out) HML.out (by omega)).mono ?_
                    rw [HS2.out]
                    rintro e w8 ⟨rfl, hb8⟩
                    have HOF := Lib.hid (HO.out.below (bel_trans hb39 hb8))
                    have HOE := Lib.hid (own_keep HO9.out hb8)
                    go_wp2_with fail
                    refine (l3Put_s gD q cq hs F E2 m2 cE2 s2 w.heap.size _ HOF.out (CRow.of_own HOE.out) (fun x hx => by have := HFI2.out.len x hx; omega) (by omega) (by omega) (by have := hb9.size; have := hb8.size; omega)).mono ?_
                    rw [← HSTEP.out]
                    rintro e w9 ⟨gE, q3, c3, hs3, rfl, hO8, hb10⟩
                    have HO8 := Lib.hid hO8
                    have HFL8 : Hid ((((sidesS (p, r)).take (j + 1)).foldl (extStep xs) F0).length ≤ 4 * k + (j + 1)) := by
                      show _ ≤ _
                      rw [HSTEP.out]
                      have := putG_len (lt := ltS) F s2
                      have := HQF.out
                      omega
                    have HF8 : Hid (FineF (((sidesS (p, r)).take (j + 1)).foldl (extStep xs) F0)) := by show FineF _; rw [HSTEP.out]; exact HFI2.out.put HS2.out
                    clear hO8
                    go_wp2_with fail
                    exact ⟨⟨j + 1, gE, q3, c3, hs3, _, by omega, by go_num, rfl, rfl, HO8.out, HF8.out, HFL8.out, bel_trans hb9 (bel_trans hb8 hb10)⟩, by simp [intOf]; omega⟩
                  | false =>
                    rw [hsh] at hstep
                    have HSTEP : Hid (((sidesS (p, r)).take (j + 1)).foldl (extStep xs) F0 = F) := by show _ = F; rw [hstep]; rfl
                    have HS2 := Lib.hid hsh
                    clear hstep hsh hml hs2 hdef hh
                    go_wp2_with fail
                    refine (IsShape_s E2 m2 cE2 s2 _ (Rd.of_own HO9.out) HML.out (by omega)).mono ?_
                    rw [HS2.out]
                    rintro e w8 ⟨rfl, hb8⟩
                    go_wp2_with fail
                    exact ⟨⟨j + 1, gD, q, cq, hs, F, by omega, by go_num, rfl, HSTEP.out.symm, HO.out.below (bel_trans hb39 hb8), HFI2.out, by have := HQF.out; omega, bel_trans hb9 hb8⟩, by simp [intOf]; omega⟩
            · obtain rfl : j = 4 := by omega
              have HN : Hid (extTo sidesS xs (k + 1) = F) := by show _ = F; rw [HST.out, hF]; rfl
              rw [← HN.out] at hO
              have HO := Lib.hid hO
              clear hO hF
              go_wp2_with fail
              exact ⟨⟨k + 1, gD, q, cq, hs, by omega, by go_num, rfl, HO.out, hb⟩, by simp [intOf]; omega⟩
        · obtain rfl : k = n := by omega
          rw [← HV.out] at hO
          have HO := Lib.hid hO
          have hk1 : ¬ (k : Int) < (k : Int) := by omega
          clear hO
          go_wp2
          go_ret
          exact ⟨gD, q, cq, hs, rfl, HO.out, hb⟩
end Go.Proofs.YtkcgdnnipohehaaGreatDoor

/- All shapes of some cells: the reference. -/
namespace Go.Proofs.YtkcgdnnipohehaaGreatDoor
open Go.RowKit
set_option linter.unusedVariables false
attribute [local go_sem ↓] Go.wp_at_zero Go.wp_at_succ

theorem fix_short (k : Nat) (h : k ≤ 3) : ∀ x ∈ fixV k, x.length ≠ 8 := by
  have hf : ∀ x ∈ fixF k, x.length ≠ 8 := by
    rcases (by omega : k = 0 ∨ k = 1 ∨ k = 2 ∨ k = 3) with rfl | rfl | rfl | rfl <;> decide +kernel
  rw [fixF_eq] at hf
  exact hf
theorem extR_fix {k : Nat} (h : k ≤ 3) {t : List C} (ht : t ∈ fixV k) : extR t = extV t := by
  unfold extR
  exact if_pos ⟨(fixV_fine k).2 t ht, fix_short k h t ht⟩
theorem own_some {w : World} {base e n c : Nat} {A : Option Addr} {xs : List Value} (h : w.ownsRow base e 1 (.slice A (n + 1) c) (n + 1) xs) : ∃ g, A = some ⟨g, 0, none⟩ := by
  rcases h.2 with ⟨hv, _⟩ | ⟨g', cap, cur, hv, _⟩
  · injection hv with _ h2 _; omega
  · injection hv with h1 _ _; exact ⟨g', h1⟩
set_option maxRecDepth 100000 in
set_option maxHeartbeats 6400000 in
theorem FixedShapes_s (n : Int) (w : World) : Calls Tryz.prog 34 #[.int .i64 n] w (RetFA w (fixA n)) := by
  have hini : (w.alloc (.cells #[] 52)).ownsRow w.heap.size 52 1 (.slice (some ⟨w.heap.size, 0, none⟩) 0 0) 0 [] := own_new w _ 1 0 #[] rfl (by simp [maxLen]) (Nat.le_refl _)
  have HI := Lib.hid (OwnF.none_ hini)
  clear hini
  by_cases h : 1 ≤ n ∧ n ≤ 5
  · obtain ⟨n, rfl⟩ : ∃ k : Nat, n = (k : Int) := ⟨n.toNat, by omega⟩
    have HV : Hid (fixA (n : Int) = fixV (n - 1)) := by show fixA _ = _; unfold fixA; rw [if_pos h]; simp
    have hn1 : 1 ≤ n := by omega
    have hn5 : n ≤ 5 := by omega
    have HB := Lib.hid h
    clear h
    go_enter Tryz.func34, Tryz.ntmps34
    go_wp2_with fail
    refine (l1In_t (n : Int) 1 5 _ HB.out.1 HB.out.2).mono ?_
    rintro e w1 ⟨rfl, hb1⟩
    have HI1 := Lib.hid (HI.out.below hb1)
    have hbw1 : Below w.heap.size w w1 := bel_trans (bel_alloc (Below.refl _ _) _) hb1
    have hz1 := hb1.size
    simp only [World.size_alloc] at hz1
    have HRN : Hid (Rd ((w1.alloc (.cells #[.int .i64 0, .int .i64 0] 87)).alloc (.cells #[.slice (some ⟨w1.heap.size, 0, none⟩) 1 1] 52)) (some ⟨w1.heap.size + 1, 0, none⟩) (vS [(some ⟨w1.heap.size, 0, none⟩, 1, 1)])) := by
      have := rd_newS (w1.alloc (.cells #[.int .i64 0, .int .i64 0] 87)) 52 (some ⟨w1.heap.size, 0, none⟩, 1, 1)
      exact Lib.hid (by simpa [hd] using this)
    go_wp2_with (at_builtin; go_must (refine app_F _ rfl _ _ rfl w.heap.size _ 0 0 [] rfl ((HI1.out.own.alloc _).alloc _) _ _ _ [(some ⟨w1.heap.size, 0, none⟩, 1, 1)] rfl HRN.out rfl (by omega) (by simp; omega) ?_); intro A3 c3 w3 ho3 hg3 _; have HO3 := Lib.hid ho3; have HG3 := Lib.hid hg3; clear ho3 hg3)
    obtain ⟨g3, hA3⟩ := own_some HO3.out
    subst hA3
    have hbw3 : Below w.heap.size w w3 := bel_app (bel_alloc (bel_alloc hbw1 _) _) HG3.out (fun g e => (own_lt HI1.out.own g e).1)
    have hini : OwnF w.heap.size w3 (some ⟨g3, 0, none⟩) 1 c3 [(some ⟨w1.heap.size, 0, none⟩, 1, 1)] (fixV 0) := by
      refine ⟨HO3.out, rfl, fun i x f h1 h2 => ?_⟩
      have hi : i = 0 := by have := (List.getElem?_eq_some_iff.1 h1).1; simp at this; exact this
      subst hi
      simp at h1
      simp [fixV] at h2
      subst h1 h2
      have hc : CRow ((w1.alloc (.cells #[.int .i64 0, .int .i64 0] 87)).alloc (.cells #[.slice (some ⟨w1.heap.size, 0, none⟩) 1 1] 52)) (some ⟨w1.heap.size, 0, none⟩, 1, 1) [(0, 0)] :=
        CRow.of_own (by simpa [vC] using (own_new w1 87 2 1 #[.int .i64 0, .int .i64 0] rfl (by simp [maxLen]) (base := w.heap.size) hbw1.size).alloc (.cells #[.slice (some ⟨w1.heap.size, 0, none⟩) 1 1] 52))
      exact hc.grown HG3.out (fun g e r => by simp [ob] at e r; omega)
    have HI3 := Lib.hid hini
    clear hini
    go_loopw [4, 3] (fun e4 e3 wr => ∃ (k m c g : Nat) (hs : List H), 1 ≤ k ∧ k ≤ n ∧ e4 = .int .i64 k ∧ e3 = .slice (some ⟨g, 0, none⟩) m c ∧ OwnF w.heap.size wr (some ⟨g, 0, none⟩) m c hs (fixV (k - 1)) ∧ Below w.heap.size w wr) (fun e4 _ _ => n - (intOf e4).toNat)
    case atStart => exact ⟨1, 1, _, _, _, Nat.le_refl _, hn1, rfl, rfl, HI3.out, hbw3⟩
    case round =>
      clear HRN HI HI1 HO3 HG3 HI3 hbw3 hbw1 hb1 hz1
      obtain ⟨k, m, c, gA, hs, hk1, hkn, rfl, rfl, hO, hb⟩ := hrel
      obtain ⟨v, hv⟩ : ∃ v, v = wr := ⟨_, rfl⟩
      subst hv
      by_cases hlt : k < n
      · have hkI : (k : Int) < (n : Int) := by omega
        obtain ⟨k0, hk0⟩ : ∃ k0, k = k0 + 1 := ⟨k - 1, by omega⟩
        have hkk : k - 1 = k0 := by omega
        rw [hkk] at hO
        have HNX : Hid (fixV (k + 1 - 1) = growN (fixV k0) m) := by show fixV (k + 1 - 1) = _; rw [Nat.add_sub_cancel, hk0, ← hO.flen]; rfl
        have hml : m ≤ 1048576 := by have h1 := fixV_len k0; have h2 := pow32 k0 (by omega); rw [hO.flen] at h1; omega
        have hsh := (fixV_fine k0).2
        have hxr := fun t => extR_fix (k := k0) (by omega) (t := t)
        obtain ⟨F, hF⟩ : ∃ F, fixV k0 = F := ⟨_, rfl⟩
        rw [hF] at hO hsh hxr
        rw [hF] at HNX
        have HO := Lib.hid hO
        have HFL := Lib.hid hO.flen
        have HSH := Lib.hid hsh
        have HXR := Lib.hid hxr
        have HKK := Lib.hid hk0
        have hbz := hb.size
        have HN0 : Hid (OwnF v.heap.size (v.alloc (.cells #[] 52)) (some ⟨v.heap.size, 0, none⟩) 0 0 [] []) := OwnF.none_ (own_new v 52 1 0 #[] rfl (by simp [maxLen]) (Nat.le_refl _))
        clear hO hF hsh hk0 hkk hxr
        go_wp2_with fail
        go_loopw [6, 5] (fun e6 e5 wr2 => ∃ (i q cq g : Nat) (hs2 : List H), i ≤ m ∧ e6 = .int .i64 i ∧ e5 = .slice (some ⟨g, 0, none⟩) q cq ∧ OwnF v.heap.size wr2 (some ⟨g, 0, none⟩) q cq hs2 (growN F i) ∧ Below v.heap.size v wr2) (fun e6 _ _ => m - (intOf e6).toNat)
        case atStart => exact ⟨0, 0, 0, _, [], Nat.zero_le _, rfl, rfl, HN0.out, bel_alloc (Below.refl _ _) _⟩
        case round =>
          clear HN0
          obtain ⟨i, q, cq, gD, hs2, hi, rfl, rfl, hO2, hb2⟩ := hrel
          by_cases him : i < m
          · have hi0 : (0 : Int) ≤ (i : Int) := by omega
            have hi1 : (i : Int) < (m : Int) := by omega
            have hRF := (HO.out.below hb2).rd
            obtain ⟨x, t, g, off, hsx, hfx, hAe, hg, d1, hrow⟩ := hRF.at_ him
            have htsh := HSH.out t (List.mem_of_getElem? hfx)
            have hxr := HXR.out t (List.mem_of_getElem? hfx)
            have hiF : i < F.length := by rw [HFL.out]; exact him
            have hgs := growN_succ F i hiF
            rw [show F[i] = t from by rw [List.getElem?_eq_getElem hiF] at hfx; injection hfx] at hgs
            have hgl := growN_len F HSH.out i (by omega)
            have hgf := growN_fine F i (by omega)
            obtain ⟨C1, m1, k1⟩ := x
            have hl1 : t.length = m1 := hrow.1
            have hm8 : m1 ≤ 1048576 := by have := (shape_len htsh).2; omega
            obtain ⟨G0, hG0⟩ : ∃ G0, growN F i = G0 := ⟨_, rfl⟩
            rw [hG0] at hgs hgl hgf hO2
            have HL1 := Lib.hid hl1
            have HT := Lib.hid htsh
            have HROW := Lib.hid hrow
            have HGS := Lib.hid hgs
            have HGF := Lib.hid hgf
            have HO2 := Lib.hid hO2
            have HXT := Lib.hid hxr
            have hql : q ≤ 32 * i := by rw [← hO2.flen]; exact hgl
            dsimp only at d1
            cases hAe
            simp only [Nat.zero_add] at d1
            clear hsx hfx hrow htsh hgs hgf hgl hO2 hG0 hl1 hRF hxr
            go_wp2_with fail
            refine (ExtensionsOf_s C1 m1 k1 t _ HROW.out.2.1 HL1.out hm8).mono ?_
            rw [HXT.out]
            rintro e w1 ⟨gE, me, ce, hsE, rfl, hoE, hb3⟩
            have hel : me ≤ 32 := by rw [← hoE.flen]; have h1 := extV_len t; have h2 := (shape_len HT.out).2; omega
            have HRE := Lib.hid hoE.rd
            have HFE := Lib.hid hoE.flen
            have HO3 := Lib.hid (HO2.out.below hb3)
            have hb23 : Below v.heap.size v w1 := bel_trans hb2 hb3
            clear hoE HO2 HROW hb2 hb3 d1
            go_wp2_with fail
            go_loopw [8, 5] (fun e8 e5 wr3 => ∃ (j q cq g : Nat) (hs2 : List H) (G : List (List C)), j ≤ me ∧ e8 = .int .i64 j ∧ e5 = .slice (some ⟨g, 0, none⟩) q cq ∧ G = ((extV t).take j).foldl (putG ltS) G0 ∧ OwnF v.heap.size wr3 (some ⟨g, 0, none⟩) q cq hs2 G ∧ FineF G ∧ G.length ≤ 32 * i + j ∧ RdF wr3 (some ⟨gE, 0, none⟩) me hsE (extV t) ∧ Below v.heap.size v wr3) (fun e8 _ _ => me - (intOf e8).toNat)
            case atStart => exact ⟨0, q, cq, gD, hs2, G0, Nat.zero_le _, rfl, rfl, rfl, HO3.out, HGF.out, by rw [HO3.out.flen]; omega, HRE.out, hb23⟩
            case round =>
              clear HO3 HRE hb23 hg
              obtain ⟨j, q, cq, gD, hs2, G, hj, rfl, rfl, hG, hO, hfi, hgl, hre, hb3⟩ := hrel
              by_cases hjm : j < me
              · have hj0 : (0 : Int) ≤ (j : Int) := by omega
                have hj1 : (j : Int) < (me : Int) := by omega
                obtain ⟨x, s2, g2, o2, hsx, hfx, hEe, hg2, d1, hrow⟩ := hre.at_ hjm
                have hs2sh := (extTo_fine sidesV t t.length).2 s2 (List.mem_of_getElem? hfx)
                have hjE : j < (extV t).length := by rw [HFE.out]; exact hjm
                have hstep : ((extV t).take (j + 1)).foldl (putG ltS) G0 = putG ltS G s2 := by
                  rw [List.take_succ_eq_append_getElem hjE, List.foldl_append, ← hG, show (extV t)[j] = s2 from by rw [List.getElem?_eq_getElem hjE] at hfx; injection hfx]
                  rfl
                obtain ⟨B, m2, k2⟩ := x
                have hl2 : s2.length = m2 := hrow.1
                have hm28 : m2 ≤ 8 := by have := (shape_len hs2sh).2; omega
                have hqG : q ≤ 32 * i + j := by rw [← hO.flen]; exact hgl
                have HQL := Lib.hid hO.flen
                have HO := Lib.hid hO
                have HFI := Lib.hid hfi
                have HRE := Lib.hid hre
                have HROW := Lib.hid hrow
                have HS2 := Lib.hid hs2sh
                have HST := Lib.hid hstep
                dsimp only at d1
                cases hEe
                simp only [Nat.zero_add] at d1
                clear hG hO hfi hre hsx hfx hrow hs2sh hstep hl2 hgl
                go_wp2_with fail
                refine (l3Put_s gD q cq hs2 G B m2 k2 s2 v.heap.size _ HO.out HROW.out (fun x hx => by have := HFI.out.len x hx; omega) (by omega) (by omega) hb3.size).mono ?_
                rw [← HST.out]
                rintro e w8 ⟨g3, q3, c3, hs3, rfl, hO8, hb8⟩
                have HO8 := Lib.hid hO8
                have hq8 : q3 ≤ 32 * i + (j + 1) := by
                  rw [← hO8.flen, HST.out]
                  have := putG_len (lt := ltS) G s2
                  have := HQL.out
                  omega
                have HFL8 : Hid ((((extV t).take (j + 1)).foldl (putG ltS) G0).length ≤ 32 * i + (j + 1)) := by show _ ≤ _; rw [hO8.flen]; exact hq8
                have HRE8 := Lib.hid (HRE.out.below hb8)
                have HF8 : Hid (FineF (((extV t).take (j + 1)).foldl (putG ltS) G0)) := by show FineF _; rw [HST.out]; exact HFI.out.put HS2.out
                have HB8 := Lib.hid (bel_trans hb3 hb8)
                clear hO8 hb8
                go_wp2_with fail
                exact ⟨⟨j + 1, q3, c3, g3, hs3, _, by omega, by go_num, rfl, rfl, HO8.out, HF8.out, HFL8.out, HRE8.out, HB8.out⟩, by simp [intOf]; omega⟩
              · obtain rfl : j = me := by omega
                have hGe : growN F (i + 1) = G := by rw [HGS.out, hG, List.take_of_length_le (by rw [HFE.out]; omega)]
                rw [← hGe] at hO
                have HO := Lib.hid hO
                have hj1 : ¬ (j : Int) < (j : Int) := by omega
                clear hO hG hGe hre
                go_wp2_with fail
                exact ⟨⟨i + 1, q, cq, gD, hs2, by omega, by go_num, rfl, HO.out, hb3⟩, by simp [intOf]; omega⟩
          · obtain rfl : i = m := by omega
            rw [← HNX.out] at hO2
            have HO2 := Lib.hid (hO2.mono hbz)
            have hi1 : ¬ (i : Int) < (i : Int) := by omega
            clear hO2
            go_wp2_with fail
            exact ⟨⟨k + 1, q, cq, gD, hs2, by omega, by omega, by go_num, rfl, HO2.out, bel_trans hb hb2⟩, by simp [intOf]; omega⟩
      · obtain rfl : k = n := by omega
        rw [← HV.out] at hO
        have HO := Lib.hid hO
        have hkI : ¬ (k : Int) < (k : Int) := by omega
        clear hO
        go_wp2_with fail
        go_ret
        exact ⟨gA, m, c, hs, rfl, HO.out, hb⟩
  · have HV : Hid (fixA n = []) := by show fixA n = _; unfold fixA; rw [if_neg h]
    have HB := Lib.hid h
    clear h
    go_enter Tryz.func34, Tryz.ntmps34
    go_wp2_with fail
    refine (l1In_f n 1 5 _ HB.out).mono ?_
    rintro e w1 ⟨rfl, hb1⟩
    have HI1 := Lib.hid (HI.out.below hb1)
    go_wp2_with fail
    go_ret
    exact ⟨w.heap.size, 0, 0, [], rfl, by rw [HV.out]; exact HI1.out, bel_trans (bel_alloc (Below.refl _ _) _) hb1⟩
end Go.Proofs.YtkcgdnnipohehaaGreatDoor
