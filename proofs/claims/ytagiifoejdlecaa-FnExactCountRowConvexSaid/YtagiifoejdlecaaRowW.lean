/- The program's CountRowConvex. -/
import Derived.Test.YtagiifoejdlecaaRowsM
import Derived.Test.YtagiifoejdlecaaSmall
import Derived.Test.YtagiifoejdlecaaMem
import Derived.Test.YtagiifoejdlecaaReg
import Derived.Outline
import Derived.WalkLawsBesides
import Derived.WalkSpells
import Derived.BigQuiet
import Derived.Deep.QuietTactic
import Derived.Deep.RegionHeld3
import Derived.Deep.RegionWith
import Derived.Deep.DeepCutAuto
import Derived.Deep.CutBlock
import Derived.Deep.DrawnRows
namespace Go.Proofs.Ytagiifoejdlecaa
open Go.RowKit
set_option linter.unusedVariables false
attribute [local go_sem ↓] Go.wp_at_zero Go.wp_at_succ

theorem zeroTab (w : World) : (zeroValue 46).run Try.prog w = .ok (.agg (vI (List.replicate 169 0)).toArray) w := by kernel_rfl
attribute [local go_sem] zeroTab

set_option maxHeartbeats 800000 in
theorem CountRowConvex_i (m : Nat) (w : World) (h1 : 1 ≤ m) (h2 : m ≤ 12) : Calls Try.prog 10 #[.int .i64 (m : Int)] w (Ret w (.int .i64 (rowConvex m))) := by
  go_enter Try.func10, Try.ntmps10
  go_wp2_with (go_at_call 29; refine (between_t _ _ _ _ (by omega) (by omega)).mono ?_; rintro e w1 ⟨rfl, hb1⟩)
  go_loopw [5, 4] (fun i s wr => ∃ (c : Nat) (xs : List Int) (s0 : Int), 1 ≤ c ∧ c ≤ m + 1 ∧ i = .int .i64 c ∧ TabI xs c 1 ∧ s = .int .i64 s0 ∧ (1 < c → s0 = rcS (rcT (c - 1)) (c - 1) (c - 1)) ∧ Blk wr w1.heap.size 46 (vI xs).toArray ∧ Below w.heap.size w wr) (fun i _ _ => 20 - (intOf i).toNat)
  case atStart => exact ⟨1, _, 0, by omega, by omega, rfl, TabI.zero, rfl, by omega, Blk.new _ _ _, (by (repeat (first | with_reducible exact Below.refl _ _ | with_reducible assumption | with_reducible apply bel_alloc | with_reducible apply bel_drew | with_reducible apply bel_drewN | ((with_reducible refine bel_set ?_ ?_); rotate_left; (simp <;> omega)) | (with_reducible refine bel_trans ?_ (by with_reducible assumption)))))⟩
  case round =>
    obtain ⟨c, xs, s0, hc1, hc2, rfl, hT, rfl, hs0, hB, hb⟩ := hrel
    by_cases hlt : c ≤ m
    · clear hs0
      have hbb : w.heap.size ≤ w1.heap.size := hb1.size
      go_wp2
      go_loopw [6, 4] (fun t s wq => ∃ (j k : Nat) (ys : List Int), k = j + 1 ∧ j ≤ c ∧ t = .int .i64 k ∧ TabI ys c k ∧ s = .int .i64 (rcS (rcT c) c j) ∧ Blk wq w1.heap.size 46 (vI ys).toArray ∧ Below w.heap.size w wq) (fun t _ _ => 20 - (intOf t).toNat)
      case atStart => exact ⟨0, 1, xs, rfl, by omega, rfl, hT, rfl, hB, hb⟩
      case round =>
        obtain ⟨j, k, ys, hkj, hj, rfl, hT, rfl, hB, hb⟩ := hrel
        by_cases hlk : k ≤ c
        · obtain ⟨d, hd⟩ : ∃ d, c = k + d := ⟨c - k, by omega⟩
          have hsub : (c : Int) - (k : Int) = (d : Int) := by omega
          have i1 : (0 : Int) ≤ (c : Int) := by omega
          have i2 : (c : Int) < 13 := by omega
          have i3 : (0 : Int) ≤ (k : Int) := by omega
          have i4 : (k : Int) < 13 := by omega
          have i5 : (k : Int) ≤ (c : Int) := by omega
          have hin : c * 13 + k < ys.length := by rw [hT.len]; omega
          have k1 : wr.cell? ⟨w1.heap.size, c * 13 + k, none⟩ = some (.int .i64 0) := by
            rw [hB.cell]
            have := hT.rest c k (by omega) (by omega) (.inr ⟨rfl, Nat.le_refl _⟩)
            rw [show (vI ys).toArray[c * 13 + k]? = (vI ys)[c * 13 + k]? from by simp]
            unfold vI
            rw [List.getElem?_map, this]; rfl
          have hfz : wr.frozen? ⟨w1.heap.size, c * 13 + k, none⟩ = false := hB.frozen _
          have HD := Lib.hid hd
          have HK := Lib.hid hkj
          have HT := Lib.hid hT
          have HB := Lib.hid hB
          clear hd hkj hT hB
          generalize hN : w1.heap.size = N at *
          clear hN
          go_upto_if 23 with fail
          go_cut [] (fun wx => Blk wx N 46 (vI (ys.set (c * 13 + k) (rcG (rcT c) c k 0))).toArray ∧ Below w.heap.size w wx)
          case first =>
            by_cases hkc : k = c
            · have e1 : ((k : Int) == (c : Int)) = true := by simp [hkc]
              have hset : Blk (wr.setCell ⟨N, c * 13 + k, none⟩ (.int .i64 1)) N 46 (vI (ys.set (c * 13 + k) (rcG (rcT c) c k 0))).toArray := by
                have := blkI_set HB.out (c * 13 + k) 1
                simp only [rcG]
                rw [if_pos hkc]; exact this
              have HC := Lib.hid hkc
              have HS := Lib.hid hset
              clear hkc hset
              go_wp2
              go_meet
              exact ⟨HS.out, (by (repeat (first | with_reducible exact Below.refl _ _ | with_reducible assumption | with_reducible apply bel_alloc | with_reducible apply bel_drew | with_reducible apply bel_drewN | ((with_reducible refine bel_set ?_ ?_); rotate_left; (simp <;> omega)) | (with_reducible refine bel_trans ?_ (by with_reducible assumption)))))⟩
            · have e1 : ((k : Int) == (c : Int)) = false := by simp; omega
              have hset : Blk wr N 46 (vI (ys.set (c * 13 + k) (rcG (rcT c) c k 0))).toArray := by
                simp only [rcG]
                rw [if_neg hkc, HT.out.self (by omega) (by omega)]; exact HB.out
              have HS := Lib.hid hset
              clear hkc hset
              go_wp2
              go_meet
              exact ⟨HS.out, (by (repeat (first | with_reducible exact Below.refl _ _ | with_reducible assumption | with_reducible apply bel_alloc | with_reducible apply bel_drew | with_reducible apply bel_drewN | ((with_reducible refine bel_set ?_ ?_); rotate_left; (simp <;> omega)) | (with_reducible refine bel_trans ?_ (by with_reducible assumption)))))⟩
          case rest =>
            obtain ⟨hB, hb⟩ := hcut
            clear k1 hfz
            go_wp2_with fail
            go_loopw [7] (fun b wq => ∃ (q p : Nat), p = q + 1 ∧ q ≤ d ∧ b = .int .i64 p ∧ Blk wq N 46 (vI (ys.set (c * 13 + k) (rcG (rcT c) c k q))).toArray ∧ Below w.heap.size w wq) (fun b _ => 20 - (intOf b).toNat)
            case atStart => exact ⟨0, 1, rfl, by omega, rfl, hB, hb⟩
            case round =>
              clear hB hb
              obtain ⟨q, p, hpq, hq, rfl, hB, hb⟩ := hrel
              have hkp : c = k + d := HD.out
              have hk0 : k = j + 1 := HK.out
              by_cases hlp : p ≤ d
              · have lst : (ys.set (c * 13 + k) (rcG (rcT c) c k q)).length = 169 := by rw [List.length_set]; exact HT.out.len
                have g1 : wr.cell? ⟨N, c * 13 + k, none⟩ = some (.int .i64 (rcG (rcT c) c k q)) := by
                  rw [hB.cell, show (vI (ys.set (c * 13 + k) (rcG (rcT c) c k q))).toArray[c * 13 + k]? = (vI (ys.set (c * 13 + k) (rcG (rcT c) c k q)))[c * 13 + k]? from by simp]
                  unfold vI
                  rw [List.getElem?_map, List.getElem?_set_self hin]; rfl
                have g2 : wr.cell? ⟨N, d * 13 + p, none⟩ = some (.int .i64 (rcT c d p)) := by
                  rw [hB.cell, show (vI (ys.set (c * 13 + k) (rcG (rcT c) c k q))).toArray[d * 13 + p]? = (vI (ys.set (c * 13 + k) (rcG (rcT c) c k q)))[d * 13 + p]? from by simp]
                  have h := HT.out.above (k := p) (rcG (rcT c) c k q) (by omega) (by omega) (by omega) (by omega) (by omega)
                  rw [show c - k = d from by omega] at h
                  unfold vI
                  rw [List.getElem?_map, h]; rfl
                have g3 : wr.frozen? ⟨N, c * 13 + k, none⟩ = false := hB.frozen _
                have j1 : (0 : Int) ≤ (d : Int) := by omega
                have j2 : (d : Int) < 13 := by omega
                have j3 : (0 : Int) ≤ (p : Int) := by omega
                have j4 : (p : Int) < 13 := by omega
                have j5 : (p : Int) ≤ (d : Int) := by omega
                obtain ⟨e, he⟩ : ∃ e : Nat, e = k + p := ⟨_, rfl⟩
                obtain ⟨f, hf⟩ : ∃ f : Nat, f = k + q := ⟨_, rfl⟩
                have hadd : (k : Int) + (p : Int) = (e : Int) := by omega
                have j6 : (e : Int) ≤ 30 := by omega
                have j7 : (1 : Int) ≤ (e : Int) := by omega
                have hsb : (e : Int) - 1 = (f : Int) := by omega
                have hstep : rcG (rcT c) c k (q + 1) = wrap64 (rcG (rcT c) c k q + wrap64 ((f : Int) * rcT c d p)) := by
                  simp only [rcG]
                  rw [show c - k = d from by omega, show q + 1 = p from hpq.symm, show (k : Int) + ((q : Int) + 1) - 1 = (f : Int) from by omega]
                have hset := blkI_set hB (c * 13 + k) (rcG (rcT c) c k (q + 1))
                rw [List.set_set] at hset
                have hq1 : q + 1 ≤ d := by omega
                have hset2 : Blk (wr.setCell ⟨N, c * 13 + k, none⟩ (.int .i64 (wrap64 (rcG (rcT c) c k q + wrap64 ((f : Int) * rcT c d p))))) N 46 (vI (ys.set (c * 13 + k) (rcG (rcT c) c k (q + 1)))).toArray := by rw [← hstep]; exact hset
                generalize rcG (rcT c) c k q = u at *
                generalize rcT c d p = v at *
                clear hset hstep
                have hset := hset2
                clear hset2
                have hq2 : q + 1 ≤ d := by omega
                have HST := Lib.hid hset
                have HPQ := Lib.hid hpq
                have HB2 := Lib.hid hB
                clear hset hpq hB he hf hkp hk0 lst
                go_wp2_with fail
                go_region
                go_wp2_with fail
                exact ⟨⟨q + 1, p + 1, by rw [HPQ.out], hq1, by go_num, HST.out.drew, (by (repeat (first | with_reducible exact Below.refl _ _ | with_reducible assumption | with_reducible apply bel_alloc | with_reducible apply bel_drew | with_reducible apply bel_drewN | ((with_reducible refine bel_set ?_ ?_); rotate_left; (simp <;> omega)) | (with_reducible refine bel_trans ?_ (by with_reducible assumption)))))⟩, by simp [intOf]; omega⟩
              · have hqd : q = d := by omega
                have g1 : wr.cell? ⟨N, c * 13 + k, none⟩ = some (.int .i64 (rcG (rcT c) c k q)) := by
                  rw [hB.cell, show (vI (ys.set (c * 13 + k) (rcG (rcT c) c k q))).toArray[c * 13 + k]? = (vI (ys.set (c * 13 + k) (rcG (rcT c) c k q)))[c * 13 + k]? from by simp]
                  unfold vI
                  rw [List.getElem?_map, List.getElem?_set_self hin]; rfl
                have hnx := HT.out.step (by omega) (by omega) (by omega)
                have hnt : rcS (rcT c) c (j + 1) = wrap64 (rcS (rcT c) c j + rcG (rcT c) c k q) := by
                  simp only [rcS]
                  rw [← hk0, show c - k = q from by omega]
                rw [show c - k = q from by omega] at hnx
                have j5 : ¬ (p : Int) ≤ (d : Int) := by omega
                generalize rcG (rcT c) c k q = u at *
                have hj1 : j + 1 ≤ c := by omega
                have HNX := Lib.hid hnx
                have HNT := Lib.hid hnt
                have HB2 := Lib.hid hB
                clear hnx hnt hB hpq hkp hk0 hqd hlp hq
                go_wp2_with fail
                exact ⟨⟨j + 1, k + 1, _, by rw [HK.out], hj1, by go_num, HNX.out, by rw [HNT.out], HB2.out, (by (repeat (first | with_reducible exact Below.refl _ _ | with_reducible assumption | with_reducible apply bel_alloc | with_reducible apply bel_drew | with_reducible apply bel_drewN | ((with_reducible refine bel_set ?_ ?_); rotate_left; (simp <;> omega)) | (with_reducible refine bel_trans ?_ (by with_reducible assumption)))))⟩, by simp [intOf]; omega⟩
        · have hjc : j = c := by omega
          have hnx : TabI ys (c + 1) 1 := TabI.next (by rw [← hjc, ← hkj]; rw [hjc]; exact hT)
          have HNX := Lib.hid hnx
          have HJ := Lib.hid hjc
          have HB2 := Lib.hid hB
          have j5 : ¬ (k : Int) ≤ (c : Int) := by omega
          clear hjc hkj hnx hT hB
          go_wp2
          exact ⟨⟨c + 1, ys, _, by omega, by omega, by go_num, HNX.out, rfl, fun _ => by rw [HJ.out]; rfl, HB2.out, (by (repeat (first | with_reducible exact Below.refl _ _ | with_reducible assumption | with_reducible apply bel_alloc | with_reducible apply bel_drew | with_reducible apply bel_drewN | ((with_reducible refine bel_set ?_ ?_); rotate_left; (simp <;> omega)) | (with_reducible refine bel_trans ?_ (by with_reducible assumption)))))⟩, by simp [intOf]; omega⟩
    · have hcm : c = m + 1 := by omega
      have hv : s0 = rowConvex m := by
        have := hs0 (by omega)
        rw [this, hcm]; rfl
      have HV := Lib.hid hv
      have j5 : ¬ (c : Int) ≤ (m : Int) := by omega
      clear hv hcm hs0 hB hT
      go_wp2
      go_ret
      exact ⟨by rw [HV.out]; rfl, (by (repeat (first | with_reducible exact Below.refl _ _ | with_reducible assumption | with_reducible apply bel_alloc | with_reducible apply bel_drew | with_reducible apply bel_drewN | ((with_reducible refine bel_set ?_ ?_); rotate_left; (simp <;> omega)) | (with_reducible refine bel_trans ?_ (by with_reducible assumption)))))⟩
end Go.Proofs.Ytagiifoejdlecaa
