/- Texts of this claim, one behind the other: part 2. -/
import Derived.Test.YtkcgdnnipohehaaGreatDoorU1FnFree
import Derived.Outline
import Derived.WalkLawsBesides
import Derived.WalkSpells
import Derived.BigQuiet
import Derived.Deep.QuietTactic
import Derived.Deep.RegionHeld3
import Derived.Deep.RegionWith
import Derived.Deep.DeepCutAuto
import Derived.Deep.CutBlock
import Derived.Deep.DrawnRows
import Derived.Test.YtkcgdnnipohehaaGreatDoorProg
/- The order of cells and shapes: walks. -/
namespace Go.Proofs.YtkcgdnnipohehaaGreatDoor
open Go.RowKit
set_option linter.unusedVariables false
attribute [local go_sem ↓] Go.wp_at_zero Go.wp_at_succ

theorem before_i (a b c d : Int) (w : World) : Calls Tryz.prog 146 #[.agg #[.int .i64 a, .int .i64 b], .agg #[.int .i64 c, .int .i64 d]] w (Ret w (.bool (befC (a, b) (c, d)))) := by
  by_cases h1 : b < d
  · have HV : Hid (befC (a, b) (c, d) = true) := by show befC (a, b) (c, d) = true; simp [befC, h1]
    go_enter Tryz.func146, Tryz.ntmps146
    go_wp2
    go_ret
    exact ⟨by rw [HV.out]; rfl, (by (repeat (first | with_reducible exact Below.refl _ _ | with_reducible assumption | with_reducible apply bel_alloc | with_reducible apply bel_drew | with_reducible apply bel_drewN | ((with_reducible refine bel_set ?_ ?_); rotate_left; (simp <;> omega)) | (with_reducible refine bel_trans ?_ (by with_reducible assumption)))))⟩
  · by_cases h2 : b = d
    · have HV : Hid (befC (a, b) (c, d) = decide (a < c)) := by show befC (a, b) (c, d) = decide (a < c); simp [befC, h2]
      have e1 : (b == d) = true := by simp [h2]
      have e2 : decide (b < d) = false := by simp [h1]
      clear h2
      go_enter Tryz.func146, Tryz.ntmps146
      go_wp2
      go_ret
      exact ⟨by rw [HV.out]; rfl, (by (repeat (first | with_reducible exact Below.refl _ _ | with_reducible assumption | with_reducible apply bel_alloc | with_reducible apply bel_drew | with_reducible apply bel_drewN | ((with_reducible refine bel_set ?_ ?_); rotate_left; (simp <;> omega)) | (with_reducible refine bel_trans ?_ (by with_reducible assumption)))))⟩
    · have HV : Hid (befC (a, b) (c, d) = false) := by show befC (a, b) (c, d) = false; simp [befC, h1, h2]
      have e1 : (b == d) = false := by simp [h2]
      have e2 : decide (b < d) = false := by simp [h1]
      clear h2
      go_enter Tryz.func146, Tryz.ntmps146
      go_wp2
      go_ret
      exact ⟨by rw [HV.out]; rfl, (by (repeat (first | with_reducible exact Below.refl _ _ | with_reducible assumption | with_reducible apply bel_alloc | with_reducible apply bel_drew | with_reducible apply bel_drewN | ((with_reducible refine bel_set ?_ ?_); rotate_left; (simp <;> omega)) | (with_reducible refine bel_trans ?_ (by with_reducible assumption)))))⟩
theorem l2Before_s (a b c d : Int) (w : World) : Calls Tryz.prog 141 #[.agg #[.int .i64 a, .int .i64 b], .agg #[.int .i64 c, .int .i64 d]] w (Ret w (.bool (befC (a, b) (c, d)))) := by
  by_cases h1 : b < d
  · have HV : Hid (befC (a, b) (c, d) = true) := by show befC (a, b) (c, d) = true; simp [befC, h1]
    go_enter Tryz.func141, Tryz.ntmps141
    go_wp2
    go_ret
    exact ⟨by rw [HV.out]; rfl, (by (repeat (first | with_reducible exact Below.refl _ _ | with_reducible assumption | with_reducible apply bel_alloc | with_reducible apply bel_drew | with_reducible apply bel_drewN | ((with_reducible refine bel_set ?_ ?_); rotate_left; (simp <;> omega)) | (with_reducible refine bel_trans ?_ (by with_reducible assumption)))))⟩
  · by_cases h2 : b = d
    · have HV : Hid (befC (a, b) (c, d) = decide (a < c)) := by show befC (a, b) (c, d) = decide (a < c); simp [befC, h2]
      have e1 : (b == d) = true := by simp [h2]
      have e2 : decide (b < d) = false := by simp [h1]
      clear h2
      go_enter Tryz.func141, Tryz.ntmps141
      go_wp2
      go_ret
      exact ⟨by rw [HV.out]; rfl, (by (repeat (first | with_reducible exact Below.refl _ _ | with_reducible assumption | with_reducible apply bel_alloc | with_reducible apply bel_drew | with_reducible apply bel_drewN | ((with_reducible refine bel_set ?_ ?_); rotate_left; (simp <;> omega)) | (with_reducible refine bel_trans ?_ (by with_reducible assumption)))))⟩
    · have HV : Hid (befC (a, b) (c, d) = false) := by show befC (a, b) (c, d) = false; simp [befC, h1, h2]
      have e1 : (b == d) = false := by simp [h2]
      have e2 : decide (b < d) = false := by simp [h1]
      clear h2
      go_enter Tryz.func141, Tryz.ntmps141
      go_wp2
      go_ret
      exact ⟨by rw [HV.out]; rfl, (by (repeat (first | with_reducible exact Below.refl _ _ | with_reducible assumption | with_reducible apply bel_alloc | with_reducible apply bel_drew | with_reducible apply bel_drewN | ((with_reducible refine bel_set ?_ ?_); rotate_left; (simp <;> omega)) | (with_reducible refine bel_trans ?_ (by with_reducible assumption)))))⟩

set_option maxHeartbeats 1600000 in
theorem IsShape_i (A : Option Addr) (n c : Nat) (xs : List C) (w : World) (hr : Rd w A (vC xs)) (hl : xs.length = n) (hn : n ≤ 1099511627776) :
    Calls Tryz.prog 96 #[.slice A n c] w (Ret w (.bool (isShape xs))) := by
  have HL := Lib.hid hl
  clear hl
  go_enter Tryz.func96, Tryz.ntmps96
  go_wp2
  go_loopw [7] (fun i wr => ∃ k : Nat, k ≤ n ∧ i = .int .i64 k ∧ shapeTo xs k = true ∧ Below w.heap.size w wr) (fun i _ => n - (intOf i).toNat)
  case atStart => exact ⟨0, Nat.zero_le _, rfl, rfl, Below.refl _ _⟩
  case round =>
    obtain ⟨k, hk, rfl, hgo, hb⟩ := hrel
    by_cases hlt : k < n
    · have hkx : k < xs.length := by rw [HL.out]; omega
      obtain ⟨g, off, rfl, hgw, c1, c2⟩ := RdC.at_ (hr.below hb) hkx
      have hs := shapeTo_succ xs k hkx
      have hno := isShape_no xs k hkx
      obtain ⟨⟨x, y⟩, hx⟩ : ∃ p, xs[k] = p := ⟨_, rfl⟩
      rw [hx] at c1 c2 hs hno
      have hi0 : (0 : Int) ≤ (k : Int) := by omega
      have hi1 : (k : Int) < (n : Int) := by omega
      have HS := Lib.hid hs
      have HNO := Lib.hid hno
      have HG := Lib.hid hgo
      have hrw := hr.below hb
      clear hs hno hgo hx
      go_upto_region 4 with fail
      go_cut [28] (fun s wx => s = .bool (!shapeAt xs k (x, y)) ∧ Below wr.heap.size wr wx)
      case first =>
        cases ho : onB (x, y) with
        | false =>
          have HV : Hid (shapeAt xs k (x, y) = false) := by unfold Hid shapeAt; rw [ho]; rfl
          have HO := Lib.hid ho
          generalize hW : wr.alloc (.cells #[.int .i64 x, .int .i64 y] 87) = W
          have hq := Blk.new wr 87 #[.int .i64 x, .int .i64 y]
          have hb2 : Below wr.heap.size wr (wr.alloc (.cells #[.int .i64 x, .int .i64 y] 87)) := (by (repeat (first | with_reducible exact Below.refl _ _ | with_reducible assumption | with_reducible apply bel_alloc | with_reducible apply bel_drew | with_reducible apply bel_drewN | ((with_reducible refine bel_set ?_ ?_); rotate_left; (simp <;> omega)) | (with_reducible refine bel_trans ?_ (by with_reducible assumption)))))
          rw [hW] at hq hb2
          clear hW ho
          have q1 : W.cell? ⟨wr.heap.size, 0, none⟩ = some (.int .i64 x) := by simpa using hq.cell 0
          have q2 : W.cell? ⟨wr.heap.size, 1, none⟩ = some (.int .i64 y) := by simpa using hq.cell 1
          refine wp_region_noPanic ?_
          refine wp_region_held_drew (S := (fun w' => w'.cell? ⟨wr.heap.size, 0, none⟩ = some (.int .i64 x) ∧ w'.cell? ⟨wr.heap.size, 1, none⟩ = some (.int .i64 y))) (by kernel_rfl) ?_ (fun hS => ?_)
          · ((go_split_ands; (try dsimp only); (repeat' (with_reducible apply And.intro)) <;> (repeat (first | with_reducible assumption | with_reducible apply keep_alloc | with_reducible apply keep_drew | with_reducible refine keep_below hb1 ?_ | ((with_reducible refine keep_set ?_ ?_); rotate_left; (simp <;> omega))))))
          refine wpT (i := 0) (v := ?_) rfl rfl (by kernel_rfl) (by kernel_rfl) (by kernel_rfl) (fun _ _ _ h => h) (Or.inl ⟨by rfl, ?_⟩) hS ?_
          rotate_left
          · (intro w hSw; (try dsimp only at hSw); go_simp; first | done | with_reducible rfl)
          simp only [List.setIfInBounds_toArray, List.set_cons_zero, List.set_cons_succ]
          refine wpAnyH_ready (rs := [1]) (by kernel_rfl) (by simp) ?_
          refine AllReadyH.cons rfl (fun K hK => ?_) AllReadyH.nil
          go_simp
          (go_at_call 145; refine (onBoard_i _ _ _).mono ?_; rw [HO.out]; rintro e w1 ⟨rfl, hb1⟩)
          try go_wp2_with fail
          refine hK.out _ _ ?_ (fun hS2 => ?_)
          · (clear hK K; ((go_split_ands; (try dsimp only); (repeat' (with_reducible apply And.intro)) <;> (repeat (first | with_reducible assumption | with_reducible apply keep_alloc | with_reducible apply keep_drew | with_reducible refine keep_below hb1 ?_ | ((with_reducible refine keep_set ?_ ?_); rotate_left; (simp <;> omega)))))))
          clear hS hK K
          have hS := hS2
          clear hS2
          refine wpT (i := 2) (v := ?_) rfl rfl (by kernel_rfl) (by kernel_rfl) (by kernel_rfl) (fun _ _ _ h => h) (Or.inl ⟨by rfl, ?_⟩) hS ?_
          rotate_left
          · (intro w hSw; (try dsimp only at hSw); go_simp; first | done | with_reducible rfl)
          simp only [List.setIfInBounds_toArray, List.set_cons_zero, List.set_cons_succ]
          refine wpT (i := 3) (v := ?_) rfl rfl (by kernel_rfl) (by kernel_rfl) (by kernel_rfl) (fun _ _ _ h => h) (Or.inl ⟨by rfl, ?_⟩) hS ?_
          rotate_left
          · (intro w hSw; (try dsimp only at hSw); go_simp; first | done | with_reducible rfl)
          simp only [List.setIfInBounds_toArray, List.set_cons_zero, List.set_cons_succ]
          refine wpT (i := 4) (v := undef) rfl rfl (by kernel_rfl) (by kernel_rfl) (by kernel_rfl) (fun _ _ _ h => h) (Or.inr ⟨by rfl, rfl⟩) hS ?_
          simp only [List.setIfInBounds_toArray, List.set_cons_zero, List.set_cons_succ]
          refine wpT (i := 5) (v := undef) rfl rfl (by kernel_rfl) (by kernel_rfl) (by kernel_rfl) (fun _ _ _ h => h) (Or.inr ⟨by rfl, rfl⟩) hS ?_
          simp only [List.setIfInBounds_toArray, List.set_cons_zero, List.set_cons_succ]
          refine wpT (i := 6) (v := undef) rfl rfl (by kernel_rfl) (by kernel_rfl) (by kernel_rfl) (fun _ _ _ h => h) (Or.inr ⟨by rfl, rfl⟩) hS ?_
          simp only [List.setIfInBounds_toArray, List.set_cons_zero, List.set_cons_succ]
          refine wpT (i := 7) (v := undef) rfl rfl (by kernel_rfl) (by kernel_rfl) (by kernel_rfl) (fun _ _ _ h => h) (Or.inr ⟨by rfl, rfl⟩) hS ?_
          simp only [List.setIfInBounds_toArray, List.set_cons_zero, List.set_cons_succ]
          refine wpT (i := 8) (v := undef) rfl rfl (by kernel_rfl) (by kernel_rfl) (by kernel_rfl) (fun _ _ _ h => h) (Or.inr ⟨by rfl, rfl⟩) hS ?_
          simp only [List.setIfInBounds_toArray, List.set_cons_zero, List.set_cons_succ]
          refine wpT (i := 9) (v := undef) rfl rfl (by kernel_rfl) (by kernel_rfl) (by kernel_rfl) (fun _ _ _ h => h) (Or.inr ⟨by rfl, rfl⟩) hS ?_
          simp only [List.setIfInBounds_toArray, List.set_cons_zero, List.set_cons_succ]
          refine wpT (i := 10) (v := undef) rfl rfl (by kernel_rfl) (by kernel_rfl) (by kernel_rfl) (fun _ _ _ h => h) (Or.inr ⟨by rfl, rfl⟩) hS ?_
          simp only [List.setIfInBounds_toArray, List.set_cons_zero, List.set_cons_succ]
          refine wpT (i := 11) (v := undef) rfl rfl (by kernel_rfl) (by kernel_rfl) (by kernel_rfl) (fun _ _ _ h => h) (Or.inr ⟨by rfl, rfl⟩) hS ?_
          simp only [List.setIfInBounds_toArray, List.set_cons_zero, List.set_cons_succ]
          refine wpT (i := 12) (v := undef) rfl rfl (by kernel_rfl) (by kernel_rfl) (by kernel_rfl) (fun _ _ _ h => h) (Or.inr ⟨by rfl, rfl⟩) hS ?_
          simp only [List.setIfInBounds_toArray, List.set_cons_zero, List.set_cons_succ]
          refine wpT (i := 13) (v := undef) rfl rfl (by kernel_rfl) (by kernel_rfl) (by kernel_rfl) (fun _ _ _ h => h) (Or.inr ⟨by rfl, rfl⟩) hS ?_
          simp only [List.setIfInBounds_toArray, List.set_cons_zero, List.set_cons_succ]
          refine wpT (i := 14) (v := undef) rfl rfl (by kernel_rfl) (by kernel_rfl) (by kernel_rfl) (fun _ _ _ h => h) (Or.inr ⟨by rfl, rfl⟩) hS ?_
          simp only [List.setIfInBounds_toArray, List.set_cons_zero, List.set_cons_succ]
          refine wpT (i := 15) (v := undef) rfl rfl (by kernel_rfl) (by kernel_rfl) (by kernel_rfl) (fun _ _ _ h => h) (Or.inr ⟨by rfl, rfl⟩) hS ?_
          simp only [List.setIfInBounds_toArray, List.set_cons_zero, List.set_cons_succ]
          refine wpT (i := 16) (v := ?_) rfl rfl (by kernel_rfl) (by kernel_rfl) (by kernel_rfl) (fun _ _ _ h => h) (Or.inl ⟨by rfl, ?_⟩) hS ?_
          rotate_left
          · (intro w hSw; (try dsimp only at hSw); go_simp; first | done | with_reducible rfl)
          simp only [List.setIfInBounds_toArray, List.set_cons_zero, List.set_cons_succ]
          refine wpAnyH_done (by kernel_rfl) ?_ _
          refine NoPanic.normal ?_
          go_wp2_with fail
          go_meet
          exact ⟨by rw [HV.out]; rfl, (by (repeat (first | with_reducible exact Below.refl _ _ | with_reducible assumption | with_reducible apply bel_alloc | with_reducible apply bel_drew | with_reducible apply bel_drewN | ((with_reducible refine bel_set ?_ ?_); rotate_left; (simp <;> omega)) | (with_reducible refine bel_trans ?_ (by with_reducible assumption)))))⟩
        | true =>
          by_cases hk0 : 0 < k
          · obtain ⟨j, hj⟩ : ∃ j, k = j + 1 := ⟨k - 1, by omega⟩
            have hkj : (k : Int) - 1 = (j : Int) := by omega
            have hj0 : (0 : Int) ≤ (j : Int) := by omega
            have hj1 : (j : Int) < (n : Int) := by omega
            have hjw : IntKind.i64.wrap (j : Int) = (j : Int) := IntWalk.i64_in _ (by omega)
            have hk2 : (0 : Int) < (k : Int) := by omega
            have hjx : j < xs.length := by omega
            have d1 : wr.cell? ⟨g, off + j * 2, none⟩ = some (.int .i64 xs[j].1) := by
              obtain ⟨g', off', e, _, h1, _⟩ := RdC.at_ hrw hjx
              simp only [Option.some.injEq, Addr.mk.injEq, and_true] at e
              obtain ⟨rfl, rfl⟩ := e
              exact h1
            have d2 : wr.cell? ⟨g, off + j * 2 + 1, none⟩ = some (.int .i64 xs[j].2) := by
              obtain ⟨g', off', e, _, _, h1⟩ := RdC.at_ hrw hjx
              simp only [Option.some.injEq, Addr.mk.injEq, and_true] at e
              obtain ⟨rfl, rfl⟩ := e
              exact h1
            obtain ⟨⟨x', y'⟩, hx'⟩ : ∃ p, xs[j] = p := ⟨_, rfl⟩
            rw [hx'] at d1 d2
            have HV : Hid (shapeAt xs k (x, y) = befC (x', y') (x, y)) := by
              unfold Hid shapeAt
              rw [ho, Bool.true_and, show (k == 0) = false from by simp; omega, Bool.false_or, show k - 1 = j from by omega, List.getD_eq_getElem?_getD, List.getElem?_eq_getElem hjx, hx']; rfl
            have HO := Lib.hid ho
            generalize hW : wr.alloc (.cells #[.int .i64 x, .int .i64 y] 87) = W
            have hq := Blk.new wr 87 #[.int .i64 x, .int .i64 y]
            have hb2 : Below wr.heap.size wr (wr.alloc (.cells #[.int .i64 x, .int .i64 y] 87)) := (by (repeat (first | with_reducible exact Below.refl _ _ | with_reducible assumption | with_reducible apply bel_alloc | with_reducible apply bel_drew | with_reducible apply bel_drewN | ((with_reducible refine bel_set ?_ ?_); rotate_left; (simp <;> omega)) | (with_reducible refine bel_trans ?_ (by with_reducible assumption)))))
            have q3 := keep_alloc (o := .cells #[.int .i64 x, .int .i64 y] 87) d1
            have q4 := keep_alloc (o := .cells #[.int .i64 x, .int .i64 y] 87) d2
            rw [hW] at hq hb2 q3 q4
            clear hW ho hx' hj
            have q1 : W.cell? ⟨wr.heap.size, 0, none⟩ = some (.int .i64 x) := by simpa using hq.cell 0
            have q2 : W.cell? ⟨wr.heap.size, 1, none⟩ = some (.int .i64 y) := by simpa using hq.cell 1
            refine wp_region_noPanic ?_
            refine wp_region_held_drew (S := (fun w' => w'.cell? ⟨wr.heap.size, 0, none⟩ = some (.int .i64 x) ∧ w'.cell? ⟨wr.heap.size, 1, none⟩ = some (.int .i64 y) ∧ w'.cell? ⟨g, off + j * 2, none⟩ = some (.int .i64 x') ∧ w'.cell? ⟨g, off + j * 2 + 1, none⟩ = some (.int .i64 y'))) (by kernel_rfl) ?_ (fun hS => ?_)
            · ((go_split_ands; (try dsimp only); (repeat' (with_reducible apply And.intro)) <;> (repeat (first | with_reducible assumption | with_reducible apply keep_alloc | with_reducible apply keep_drew | with_reducible refine keep_below hb1 ?_ | ((with_reducible refine keep_set ?_ ?_); rotate_left; (simp <;> omega))))))
            refine wpT (i := 0) (v := ?_) rfl rfl (by kernel_rfl) (by kernel_rfl) (by kernel_rfl) (fun _ _ _ h => h) (Or.inl ⟨by rfl, ?_⟩) hS ?_
            rotate_left
            · (intro w hSw; (try dsimp only at hSw); go_simp; first | done | with_reducible rfl)
            simp only [List.setIfInBounds_toArray, List.set_cons_zero, List.set_cons_succ]
            refine wpAnyH_ready (rs := [1]) (by kernel_rfl) (by simp) ?_
            refine AllReadyH.cons rfl (fun K hK => ?_) AllReadyH.nil
            go_simp
            (go_at_call 145; refine (onBoard_i _ _ _).mono ?_; rw [HO.out]; rintro e w1 ⟨rfl, hb1⟩)
            try go_wp2_with fail
            refine hK.out _ _ ?_ (fun hS2 => ?_)
            · (clear hK K; ((go_split_ands; (try dsimp only); (repeat' (with_reducible apply And.intro)) <;> (repeat (first | with_reducible assumption | with_reducible apply keep_alloc | with_reducible apply keep_drew | with_reducible refine keep_below hb1 ?_ | ((with_reducible refine keep_set ?_ ?_); rotate_left; (simp <;> omega)))))))
            clear hS hK K
            have hS := hS2
            clear hS2
            refine wpT (i := 2) (v := ?_) rfl rfl (by kernel_rfl) (by kernel_rfl) (by kernel_rfl) (fun _ _ _ h => h) (Or.inl ⟨by rfl, ?_⟩) hS ?_
            rotate_left
            · (intro w hSw; (try dsimp only at hSw); go_simp; first | done | with_reducible rfl)
            simp only [List.setIfInBounds_toArray, List.set_cons_zero, List.set_cons_succ]
            refine wpT (i := 3) (v := ?_) rfl rfl (by kernel_rfl) (by kernel_rfl) (by kernel_rfl) (fun _ _ _ h => h) (Or.inl ⟨by rfl, ?_⟩) hS ?_
            rotate_left
            · (intro w hSw; (try dsimp only at hSw); go_simp; first | done | with_reducible rfl)
            simp only [List.setIfInBounds_toArray, List.set_cons_zero, List.set_cons_succ]
            refine wpT (i := 4) (v := ?_) rfl rfl (by kernel_rfl) (by kernel_rfl) (by kernel_rfl) (fun _ _ _ h => h) (Or.inl ⟨by rfl, ?_⟩) hS ?_
            rotate_left
            · (intro w hSw; (try dsimp only at hSw); go_simp; first | done | with_reducible rfl)
            simp only [List.setIfInBounds_toArray, List.set_cons_zero, List.set_cons_succ]
            refine wpT (i := 5) (v := ?_) rfl rfl (by kernel_rfl) (by kernel_rfl) (by kernel_rfl) (fun _ _ _ h => h) (Or.inl ⟨by rfl, ?_⟩) hS ?_
            rotate_left
            · (intro w hSw; (try dsimp only at hSw); go_simp; first | done | with_reducible rfl)
            simp only [List.setIfInBounds_toArray, List.set_cons_zero, List.set_cons_succ]
            refine wpT (i := 6) (v := ?_) rfl rfl (by kernel_rfl) (by kernel_rfl) (by kernel_rfl) (fun _ _ _ h => h) (Or.inl ⟨by rfl, ?_⟩) hS ?_
            rotate_left
            · (intro w hSw; (try dsimp only at hSw); go_simp; first | done | with_reducible rfl)
            simp only [List.setIfInBounds_toArray, List.set_cons_zero, List.set_cons_succ]
            refine wpT (i := 7) (v := ?_) rfl rfl (by kernel_rfl) (by kernel_rfl) (by kernel_rfl) (fun _ _ _ h => h) (Or.inl ⟨by rfl, ?_⟩) hS ?_
            rotate_left
            · (intro w hSw; (try dsimp only at hSw); go_simp; first | done | with_reducible rfl)
            simp only [List.setIfInBounds_toArray, List.set_cons_zero, List.set_cons_succ]
            refine wpT (i := 8) (v := ?_) rfl rfl (by kernel_rfl) (by kernel_rfl) (by kernel_rfl) (fun _ _ _ h => h) (Or.inl ⟨by rfl, ?_⟩) hS ?_
            rotate_left
            · (intro w hSw; (try dsimp only at hSw); go_simp; first | done | with_reducible rfl)
            simp only [List.setIfInBounds_toArray, List.set_cons_zero, List.set_cons_succ]
            refine wpT (i := 9) (v := ?_) rfl rfl (by kernel_rfl) (by kernel_rfl) (by kernel_rfl) (fun _ _ _ h => h) (Or.inl ⟨by rfl, ?_⟩) hS ?_
            rotate_left
            · (intro w hSw; (try dsimp only at hSw); go_simp; first | done | with_reducible rfl)
            simp only [List.setIfInBounds_toArray, List.set_cons_zero, List.set_cons_succ]
            refine wpT (i := 10) (v := ?_) rfl rfl (by kernel_rfl) (by kernel_rfl) (by kernel_rfl) (fun _ _ _ h => h) (Or.inl ⟨by rfl, ?_⟩) hS ?_
            rotate_left
            · (intro w hSw; (try dsimp only at hSw); go_simp; first | done | with_reducible rfl)
            simp only [List.setIfInBounds_toArray, List.set_cons_zero, List.set_cons_succ]
            refine wpT (i := 11) (v := ?_) rfl rfl (by kernel_rfl) (by kernel_rfl) (by kernel_rfl) (fun _ _ _ h => h) (Or.inl ⟨by rfl, ?_⟩) hS ?_
            rotate_left
            · (intro w hSw; (try dsimp only at hSw); go_simp; first | done | with_reducible rfl)
            simp only [List.setIfInBounds_toArray, List.set_cons_zero, List.set_cons_succ]
            refine wpT (i := 12) (v := ?_) rfl rfl (by kernel_rfl) (by kernel_rfl) (by kernel_rfl) (fun _ _ _ h => h) (Or.inl ⟨by rfl, ?_⟩) hS ?_
            rotate_left
            · (intro w hSw; (try dsimp only at hSw); go_simp; first | done | with_reducible rfl)
            simp only [List.setIfInBounds_toArray, List.set_cons_zero, List.set_cons_succ]
            refine wpAnyH_ready (rs := [13]) (by kernel_rfl) (by simp) ?_
            refine AllReadyH.cons rfl (fun K hK => ?_) AllReadyH.nil
            go_simp
            (go_at_call 146; refine (before_i _ _ _ _ _).mono ?_; rintro e w2 ⟨rfl, hb3⟩)
            try go_wp2_with fail
            refine hK.out _ _ ?_ (fun hS2 => ?_)
            · (clear hK K; ((go_split_ands; (try dsimp only); (repeat' (with_reducible apply And.intro)) <;> (repeat (first | with_reducible assumption | with_reducible apply keep_alloc | with_reducible apply keep_drew | with_reducible refine keep_below hb3 ?_ | ((with_reducible refine keep_set ?_ ?_); rotate_left; (simp <;> omega)))))))
            clear hS hK K
            have hS := hS2
            clear hS2
            refine wpT (i := 14) (v := ?_) rfl rfl (by kernel_rfl) (by kernel_rfl) (by kernel_rfl) (fun _ _ _ h => h) (Or.inl ⟨by rfl, ?_⟩) hS ?_
            rotate_left
            · (intro w hSw; (try dsimp only at hSw); go_simp; first | done | with_reducible rfl)
            simp only [List.setIfInBounds_toArray, List.set_cons_zero, List.set_cons_succ]
            refine wpT (i := 15) (v := ?_) rfl rfl (by kernel_rfl) (by kernel_rfl) (by kernel_rfl) (fun _ _ _ h => h) (Or.inl ⟨by rfl, ?_⟩) hS ?_
            rotate_left
            · (intro w hSw; (try dsimp only at hSw); go_simp; first | done | with_reducible rfl)
            simp only [List.setIfInBounds_toArray, List.set_cons_zero, List.set_cons_succ]
            refine wpT (i := 16) (v := ?_) rfl rfl (by kernel_rfl) (by kernel_rfl) (by kernel_rfl) (fun _ _ _ h => h) (Or.inl ⟨by rfl, ?_⟩) hS ?_
            rotate_left
            · (intro w hSw; (try dsimp only at hSw); go_simp; first | done | with_reducible rfl)
            simp only [List.setIfInBounds_toArray, List.set_cons_zero, List.set_cons_succ]
            refine wpAnyH_done (by kernel_rfl) ?_ _
            refine NoPanic.normal ?_
            go_wp2_with fail
            go_meet
            exact ⟨by rw [HV.out], (by (repeat (first | with_reducible exact Below.refl _ _ | with_reducible assumption | with_reducible apply bel_alloc | with_reducible apply bel_drew | with_reducible apply bel_drewN | ((with_reducible refine bel_set ?_ ?_); rotate_left; (simp <;> omega)) | (with_reducible refine bel_trans ?_ (by with_reducible assumption)))))⟩
          · have hk3 : k = 0 := by omega
            have HV : Hid (shapeAt xs k (x, y) = true) := by unfold Hid shapeAt; rw [ho, hk3]; rfl
            have HO := Lib.hid ho
            have hk2 : decide ((0 : Int) < (k : Int)) = false := by simp; omega
            have hk4 : ¬ (0 : Int) < (k : Int) := by omega
            generalize hW : wr.alloc (.cells #[.int .i64 x, .int .i64 y] 87) = W
            have hq := Blk.new wr 87 #[.int .i64 x, .int .i64 y]
            have hb2 : Below wr.heap.size wr (wr.alloc (.cells #[.int .i64 x, .int .i64 y] 87)) := (by (repeat (first | with_reducible exact Below.refl _ _ | with_reducible assumption | with_reducible apply bel_alloc | with_reducible apply bel_drew | with_reducible apply bel_drewN | ((with_reducible refine bel_set ?_ ?_); rotate_left; (simp <;> omega)) | (with_reducible refine bel_trans ?_ (by with_reducible assumption)))))
            rw [hW] at hq hb2
            clear hW ho hk3
            have q1 : W.cell? ⟨wr.heap.size, 0, none⟩ = some (.int .i64 x) := by simpa using hq.cell 0
            have q2 : W.cell? ⟨wr.heap.size, 1, none⟩ = some (.int .i64 y) := by simpa using hq.cell 1
            refine wp_region_noPanic ?_
            refine wp_region_held_drew (S := (fun w' => w'.cell? ⟨wr.heap.size, 0, none⟩ = some (.int .i64 x) ∧ w'.cell? ⟨wr.heap.size, 1, none⟩ = some (.int .i64 y))) (by kernel_rfl) ?_ (fun hS => ?_)
            · ((go_split_ands; (try dsimp only); (repeat' (with_reducible apply And.intro)) <;> (repeat (first | with_reducible assumption | with_reducible apply keep_alloc | with_reducible apply keep_drew | with_reducible refine keep_below hb1 ?_ | ((with_reducible refine keep_set ?_ ?_); rotate_left; (simp <;> omega))))))
            refine wpT (i := 0) (v := ?_) rfl rfl (by kernel_rfl) (by kernel_rfl) (by kernel_rfl) (fun _ _ _ h => h) (Or.inl ⟨by rfl, ?_⟩) hS ?_
            rotate_left
            · (intro w hSw; (try dsimp only at hSw); go_simp; first | done | with_reducible rfl)
            simp only [List.setIfInBounds_toArray, List.set_cons_zero, List.set_cons_succ]
            refine wpAnyH_ready (rs := [1]) (by kernel_rfl) (by simp) ?_
            refine AllReadyH.cons rfl (fun K hK => ?_) AllReadyH.nil
            go_simp
            (go_at_call 145; refine (onBoard_i _ _ _).mono ?_; rw [HO.out]; rintro e w1 ⟨rfl, hb1⟩)
            try go_wp2_with fail
            refine hK.out _ _ ?_ (fun hS2 => ?_)
            · (clear hK K; ((go_split_ands; (try dsimp only); (repeat' (with_reducible apply And.intro)) <;> (repeat (first | with_reducible assumption | with_reducible apply keep_alloc | with_reducible apply keep_drew | with_reducible refine keep_below hb1 ?_ | ((with_reducible refine keep_set ?_ ?_); rotate_left; (simp <;> omega)))))))
            clear hS hK K
            have hS := hS2
            clear hS2
            refine wpT (i := 2) (v := ?_) rfl rfl (by kernel_rfl) (by kernel_rfl) (by kernel_rfl) (fun _ _ _ h => h) (Or.inl ⟨by rfl, ?_⟩) hS ?_
            rotate_left
            · (intro w hSw; (try dsimp only at hSw); go_simp; first | done | with_reducible rfl)
            simp only [List.setIfInBounds_toArray, List.set_cons_zero, List.set_cons_succ]
            refine wpT (i := 3) (v := ?_) rfl rfl (by kernel_rfl) (by kernel_rfl) (by kernel_rfl) (fun _ _ _ h => h) (Or.inl ⟨by rfl, ?_⟩) hS ?_
            rotate_left
            · (intro w hSw; (try dsimp only at hSw); go_simp; first | done | with_reducible rfl)
            simp only [List.setIfInBounds_toArray, List.set_cons_zero, List.set_cons_succ]
            refine wpT (i := 4) (v := ?_) rfl rfl (by kernel_rfl) (by kernel_rfl) (by kernel_rfl) (fun _ _ _ h => h) (Or.inl ⟨by rfl, ?_⟩) hS ?_
            rotate_left
            · (intro w hSw; (try dsimp only at hSw); go_simp; first | done | with_reducible rfl)
            simp only [List.setIfInBounds_toArray, List.set_cons_zero, List.set_cons_succ]
            refine wpT (i := 5) (v := ?_) rfl rfl (by kernel_rfl) (by kernel_rfl) (by kernel_rfl) (fun _ _ _ h => h) (Or.inl ⟨by rfl, ?_⟩) hS ?_
            rotate_left
            · (intro w hSw; (try dsimp only at hSw); go_simp; first | done | with_reducible rfl)
            simp only [List.setIfInBounds_toArray, List.set_cons_zero, List.set_cons_succ]
            refine wpT (i := 6) (v := ?_) rfl rfl (by kernel_rfl) (by kernel_rfl) (by kernel_rfl) (fun _ _ _ h => h) (Or.inl ⟨by rfl, ?_⟩) hS ?_
            rotate_left
            · (intro w hSw; (try dsimp only at hSw); go_simp; first | done | with_reducible rfl)
            simp only [List.setIfInBounds_toArray, List.set_cons_zero, List.set_cons_succ]
            refine wpT (i := 7) (v := undef) rfl rfl (by kernel_rfl) (by kernel_rfl) (by kernel_rfl) (fun _ _ _ h => h) (Or.inr ⟨by rfl, rfl⟩) hS ?_
            simp only [List.setIfInBounds_toArray, List.set_cons_zero, List.set_cons_succ]
            refine wpT (i := 8) (v := undef) rfl rfl (by kernel_rfl) (by kernel_rfl) (by kernel_rfl) (fun _ _ _ h => h) (Or.inr ⟨by rfl, rfl⟩) hS ?_
            simp only [List.setIfInBounds_toArray, List.set_cons_zero, List.set_cons_succ]
            refine wpT (i := 9) (v := undef) rfl rfl (by kernel_rfl) (by kernel_rfl) (by kernel_rfl) (fun _ _ _ h => h) (Or.inr ⟨by rfl, rfl⟩) hS ?_
            simp only [List.setIfInBounds_toArray, List.set_cons_zero, List.set_cons_succ]
            refine wpT (i := 10) (v := undef) rfl rfl (by kernel_rfl) (by kernel_rfl) (by kernel_rfl) (fun _ _ _ h => h) (Or.inr ⟨by rfl, rfl⟩) hS ?_
            simp only [List.setIfInBounds_toArray, List.set_cons_zero, List.set_cons_succ]
            refine wpT (i := 11) (v := undef) rfl rfl (by kernel_rfl) (by kernel_rfl) (by kernel_rfl) (fun _ _ _ h => h) (Or.inr ⟨by rfl, rfl⟩) hS ?_
            simp only [List.setIfInBounds_toArray, List.set_cons_zero, List.set_cons_succ]
            refine wpT (i := 12) (v := undef) rfl rfl (by kernel_rfl) (by kernel_rfl) (by kernel_rfl) (fun _ _ _ h => h) (Or.inr ⟨by rfl, rfl⟩) hS ?_
            simp only [List.setIfInBounds_toArray, List.set_cons_zero, List.set_cons_succ]
            refine wpT (i := 13) (v := undef) rfl rfl (by kernel_rfl) (by kernel_rfl) (by kernel_rfl) (fun _ _ _ h => h) (Or.inr ⟨by rfl, rfl⟩) hS ?_
            simp only [List.setIfInBounds_toArray, List.set_cons_zero, List.set_cons_succ]
            refine wpT (i := 14) (v := undef) rfl rfl (by kernel_rfl) (by kernel_rfl) (by kernel_rfl) (fun _ _ _ h => h) (Or.inr ⟨by rfl, rfl⟩) hS ?_
            simp only [List.setIfInBounds_toArray, List.set_cons_zero, List.set_cons_succ]
            refine wpT (i := 15) (v := ?_) rfl rfl (by kernel_rfl) (by kernel_rfl) (by kernel_rfl) (fun _ _ _ h => h) (Or.inl ⟨by rfl, ?_⟩) hS ?_
            rotate_left
            · (intro w hSw; (try dsimp only at hSw); go_simp; first | done | with_reducible rfl)
            simp only [List.setIfInBounds_toArray, List.set_cons_zero, List.set_cons_succ]
            refine wpT (i := 16) (v := ?_) rfl rfl (by kernel_rfl) (by kernel_rfl) (by kernel_rfl) (fun _ _ _ h => h) (Or.inl ⟨by rfl, ?_⟩) hS ?_
            rotate_left
            · (intro w hSw; (try dsimp only at hSw); go_simp; first | done | with_reducible rfl)
            simp only [List.setIfInBounds_toArray, List.set_cons_zero, List.set_cons_succ]
            refine wpAnyH_done (by kernel_rfl) ?_ _
            refine NoPanic.normal ?_
            go_wp2_with fail
            go_meet
            exact ⟨by rw [HV.out]; rfl, (by (repeat (first | with_reducible exact Below.refl _ _ | with_reducible assumption | with_reducible apply bel_alloc | with_reducible apply bel_drew | with_reducible apply bel_drewN | ((with_reducible refine bel_set ?_ ?_); rotate_left; (simp <;> omega)) | (with_reducible refine bel_trans ?_ (by with_reducible assumption)))))⟩
      case rest =>
        obtain ⟨rfl, hb3⟩ := hcut
        cases hg : shapeAt xs k (x, y) with
        | true =>
          have HN : Hid (shapeTo xs (k + 1) = true) := by show shapeTo xs (k + 1) = true; rw [HS.out, HG.out, hg]; rfl
          clear hg
          go_wp2
          exact ⟨⟨k + 1, by omega, by go_num, HN.out, (by (repeat (first | with_reducible exact Below.refl _ _ | with_reducible assumption | with_reducible apply bel_alloc | with_reducible apply bel_drew | with_reducible apply bel_drewN | ((with_reducible refine bel_set ?_ ?_); rotate_left; (simp <;> omega)) | (with_reducible refine bel_trans ?_ (by with_reducible assumption)))))⟩, by simp [intOf]; omega⟩
        | false =>
          have HN := Lib.hid (HNO.out hg)
          clear hg
          go_wp2
          go_ret
          exact ⟨by rw [HN.out]; rfl, (by (repeat (first | with_reducible exact Below.refl _ _ | with_reducible assumption | with_reducible apply bel_alloc | with_reducible apply bel_drew | with_reducible apply bel_drewN | ((with_reducible refine bel_set ?_ ?_); rotate_left; (simp <;> omega)) | (with_reducible refine bel_trans ?_ (by with_reducible assumption)))))⟩
    · have hkk : k = n := by omega
      subst hkk
      have hv : isShape xs = (decide ((1 : Int) ≤ (k : Int)) && decide ((k : Int) ≤ 8)) := by
        unfold isShape
        rw [HL.out, hgo]
        rw [Bool.true_and]
        congr 1 <;> (rw [decide_eq_decide]; omega)
      have HV := Lib.hid hv
      clear hgo hv
      go_wp2_with (go_at_call 90; refine (between_b _ _ _ (isShape xs) _ HV.out).mono ?_; rintro e w1 ⟨rfl, hb1⟩)
      go_ret
      exact ⟨rfl, (by (repeat (first | with_reducible exact Below.refl _ _ | with_reducible assumption | with_reducible apply bel_alloc | with_reducible apply bel_drew | with_reducible apply bel_drewN | ((with_reducible refine bel_set ?_ ?_); rotate_left; (simp <;> omega)) | (with_reducible refine bel_trans ?_ (by with_reducible assumption)))))⟩
end Go.Proofs.YtkcgdnnipohehaaGreatDoor

/- Cells put in order: the reference. -/
namespace Go.Proofs.YtkcgdnnipohehaaGreatDoor
open Go.RowKit
set_option linter.unusedVariables false
attribute [local go_sem ↓] Go.wp_at_zero Go.wp_at_succ

def offC (c k : Nat) : Nat := if c = k then 0 else k * 2
theorem run_uptoC (w : World) (g m c k : Nat) (hk : k ≤ c) : (Instr.slice 52 (.slice (some ⟨g, 0, none⟩) m c) none (some (.int .i64 (k : Int))) none).run Tryz.prog w = .ok (.slice (some ⟨g, 0, none⟩) k c) w := by
  have h2 : (k : Int) ≤ (c : Int) := by omega
  simp [go_sem, h2]
theorem run_fromC (w : World) (g m c k : Nat) (hk : k ≤ m) : (Instr.slice 52 (.slice (some ⟨g, 0, none⟩) m c) (some (.int .i64 (k : Int))) none none).run Tryz.prog w = .ok (.slice (some ⟨g, offC c k, none⟩) (m - k) (c - k)) w := by
  have h1 : (0 : Int) ≤ (k : Int) := by omega
  have h2 : (k : Int) ≤ (m : Int) := by omega
  unfold offC
  by_cases hc : c = k
  · subst hc
    simp [go_sem, h2]
  · simp [go_sem, h2, hc]
theorem Rd.fromC {w : World} {g c k m : Nat} {l : List C} (h : Rd w (some ⟨g, 0, none⟩) (vC l)) (hl : l.length = m) (hmc : m ≤ c) : Rd w (some ⟨g, offC c k, none⟩) (vC (l.drop k)) := by
  rcases h with h | ⟨g', off, he, h⟩
  · have : l = [] := by
      have := congrArg List.length h
      rw [vC_length] at this
      exact List.eq_nil_of_length_eq_zero (by simp at this; omega)
    subst this
    simp [Rd, vC]
  · injection he with he
    injection he with h1 h2 h3
    subst h1 h2
    unfold offC
    split
    · next e =>
      have : l.drop k = [] := List.drop_of_length_le (by omega)
      rw [this]
      exact .inl rfl
    · refine .inr ⟨g, k * 2, rfl, fun j u hu => ?_⟩
      rw [vC_drop, List.getElem?_drop] at hu
      have := h _ _ hu
      simpa using this
theorem take_fold {α β : Type} (f : β → α → β) (b : β) (xs : List α) (k : Nat) (hk : k < xs.length) : (xs.take (k + 1)).foldl f b = f ((xs.take k).foldl f b) xs[k] := by
  rw [List.take_succ_eq_append_getElem hk, List.foldl_append]
  rfl
set_option maxRecDepth 100000 in
set_option maxHeartbeats 3200000 in
theorem SortCells_s (A : Option Addr) (n c : Nat) (xs : List C) (w : World) (hr : Rd w A (vC xs)) (hl : xs.length = n) (hn : n ≤ 1048576) :
    Calls Tryz.prog 100 #[.slice A n c] w (RetS w 87 2 (vC (sortC xs))) := by
  have HL := Lib.hid hl
  have HR := Lib.hid hr
  have hini := own_new w 87 2 0 #[] rfl (by simp [maxLen]) (base := w.heap.size) (Nat.le_refl _)
  have HI0 := Lib.hid hini
  clear hl hr hini
  go_enter Tryz.func100, Tryz.ntmps100
  go_wp2
  go_loopw [4, 3] (fun e4 e3 wr => ∃ (i g m cp : Nat), i ≤ n ∧ m ≤ i ∧ e4 = .int .i64 i ∧ e3 = .slice (some ⟨g, 0, none⟩) m cp ∧ wr.ownsRow w.heap.size 87 2 (.slice (some ⟨g, 0, none⟩) m cp) m (vC ((xs.take i).foldl (putG befC) [])) ∧ Below w.heap.size w wr) (fun e4 _ _ => n - (intOf e4).toNat)
  case atStart => exact ⟨0, _, 0, 0, Nat.zero_le _, Nat.zero_le _, rfl, by simp, HI0.out, (by (repeat (first | with_reducible exact Below.refl _ _ | with_reducible assumption | with_reducible apply bel_alloc | with_reducible apply bel_drew | with_reducible apply bel_drewN | ((with_reducible refine bel_set ?_ ?_); rotate_left; (simp <;> omega)) | (with_reducible refine bel_trans ?_ (by with_reducible assumption)))))⟩
  case round =>
    obtain ⟨i, g, m, cp, hi, hmn, rfl, rfl, hown, hb⟩ := hrel
    by_cases hlt : i < n
    · have hil : i < xs.length := by rw [HL.out]; exact hlt
      have hi0 : (0 : Int) ≤ (i : Int) := by omega
      have hi1 : (i : Int) < (n : Int) := by omega
      have hst := take_fold (putG befC) [] xs i hil
      obtain ⟨l, hle⟩ : ∃ l, (xs.take i).foldl (putG befC) [] = l := ⟨_, rfl⟩
      rw [hle] at hst hown
      obtain ⟨gx, ox, rfl, hgx, a1, a2⟩ := RdC.at_ (HR.out.below hb) hil
      obtain ⟨x, hx⟩ : ∃ x, xs[i].1 = x := ⟨_, rfl⟩
      obtain ⟨y, hy⟩ : ∃ y, xs[i].2 = y := ⟨_, rfl⟩
      have hxy : xs[i] = (x, y) := Prod.ext hx hy
      rw [hx] at a1
      rw [hy] at a2
      rw [hxy] at hst
      have hlm : l.length = m := by have := own_len hown; rw [vC_length] at this; omega
      have hmc : m ≤ cp ∧ cp ≤ 9223372036854775807 := by
        rcases hown.2 with ⟨h, _⟩ | ⟨g', cap, cur, hv, _, _, h1, h2, _⟩
        · cases h
        · injection hv with _ _ h3
          unfold maxLen at h2
          omega
      obtain ⟨hmc1, hmc2⟩ := hmc
      have hlr := Rd.of_own hown
      have hgl := (own_lt hown g rfl).2
      have HLM := Lib.hid hlm
      have HO := Lib.hid hown
      have HLR0 := Lib.hid hlr
      have hcm : cutG befC l (x, y) l.length = cutG befC l (x, y) m := by rw [hlm]
      have HIN : Hid (∀ k', cutG befC l (x, y) m = k' → ¬ (0 < k' ∧ l.getD (k' - 1) default = (x, y)) → putG befC l (x, y) = l.take k' ++ [(x, y)] ++ l.drop k') := fun k' h1 h2 => putG_new (hcm.trans h1) h2
      have HSM : Hid (∀ k', cutG befC l (x, y) m = k' → 0 < k' → l.getD (k' - 1) default = (x, y) → putG befC l (x, y) = l) := fun k' h1 h2 h3 => putG_same (hcm.trans h1) h2 h3
      have HST := Lib.hid hst
      have HBW := Lib.hid hb
      have HBZ := Lib.hid hb.size
      clear hlm hown hlr hcm hst hle hx hy hxy hb
      go_wp2
      go_loopw [5] (fun e5 wr2 => ∃ k : Nat, k ≤ m ∧ e5 = .int .i64 k ∧ cutG befC l (x, y) m = cutG befC l (x, y) k ∧ Below wr.heap.size wr wr2) (fun e5 _ => (intOf e5).toNat)
      case atStart => exact ⟨m, Nat.le_refl _, rfl, rfl, Below.refl _ _⟩
      case round =>
        obtain ⟨k, hk, rfl, hcut, hb2⟩ := hrel
        have HLR := Lib.hid (HLR0.out.below hb2)
        have f1 : wr.cell? ⟨gx, ox + i * 2, none⟩ = some (.int .i64 x) := (hb2.cell hgx).trans a1
        have f2 : wr.cell? ⟨gx, ox + i * 2 + 1, none⟩ = some (.int .i64 y) := (hb2.cell hgx).trans a2
        have HCUT := Lib.hid hcut
        have hgx2 : gx < wr.heap.size := Nat.lt_of_lt_of_le hgx hb2.size
        have hgl2 : g < wr.heap.size := Nat.lt_of_lt_of_le hgl hb2.size
        have HB := Lib.hid (bel_trans HBW.out hb2)
        have HBS : Hid (w.heap.size ≤ wr.heap.size) := (HB.out).size
        have hbs2 := HBS.out
        clear a1 a2 hcut
        by_cases hk0 : 0 < k
        · obtain ⟨j, hjk⟩ : ∃ j, k = j + 1 := ⟨k - 1, by omega⟩
          have hjl : j < l.length := by rw [HLM.out]; omega
          obtain ⟨g', off, he, _, b1, b2⟩ := RdC.at_ HLR.out hjl
          simp only [Option.some.injEq, Addr.mk.injEq, and_true] at he
          obtain ⟨rfl, rfl⟩ := he
          rw [Nat.zero_add] at b1 b2
          have hgd : l.getD j default = l[j] := by rw [List.getD_eq_getElem?_getD, List.getElem?_eq_getElem hjl]; rfl
          obtain ⟨p, hp⟩ : ∃ p, l[j].1 = p := ⟨_, rfl⟩
          obtain ⟨q, hq⟩ : ∃ q, l[j].2 = q := ⟨_, rfl⟩
          have hpq : l[j] = (p, q) := Prod.ext hp hq
          rw [hp] at b1
          rw [hq] at b2
          rw [hpq] at hgd
          have HG := Lib.hid hgd
          have hj1 : (k : Int) - 1 = (j : Int) := by omega
          have hj0 : (0 : Int) ≤ (j : Int) := by omega
          have hjw : IntKind.i64.wrap (j : Int) = (j : Int) := Go.IntWalk.i64_in _ (by omega)
          have hjm : (j : Int) < (m : Int) := by omega
          have hkp : (k : Int) > 0 := by omega
          have HJ := Lib.hid hjk
          have HK0 := Lib.hid hk0
          clear hgd hp hq hpq hjk
          cases hbf : befC (x, y) (p, q) with
          | true =>
            have HN : Hid (cutG befC l (x, y) m = cutG befC l (x, y) j) := by show _ = _; rw [HCUT.out, HJ.out]; show (if befC (x, y) (l.getD j default) = true then _ else _) = _; rw [HG.out, if_pos hbf]
            have HBF := Lib.hid hbf
            clear hbf
            go_wp2_with fail
            (refine wp_region_below (by kernel_rfl) (by kernel_rfl) ?_; (repeat (first | go_big_quiet_skip | (refine quietV (v := ?_) (by rfl) rfl (fun w' hbw => ?_) ?_; rotate_left; ((try dsimp only at hbw); have hbc := (bcell hbw).1; have hbf := (bcell hbw).2; go_simp; first | done | with_reducible rfl | exact callsBB (l2Before_s x y p q _) HBF.out hbw); simp only [List.setIfInBounds_toArray, List.set_cons_zero, List.set_cons_succ]))); refine wpQuiet_nil ?_; intro wq hbq)
            go_wp2_with fail
            exact ⟨⟨j, by omega, rfl, HN.out, bel_trans hb2 hbq⟩, by simp [intOf]; have := HJ.out; omega⟩
          | false =>
            have HN : Hid (cutG befC l (x, y) m = k) := by show _ = _; rw [HCUT.out, HJ.out]; show (if befC (x, y) (l.getD j default) = true then _ else _) = _; rw [HG.out, if_neg (by rw [hbf]; simp)]
            have HBF := Lib.hid hbf
            clear hbf
            by_cases hsame : p = x ∧ q = y
            · obtain ⟨rfl, rfl⟩ := hsame
              have HV := Lib.hid (HSM.out k HN.out HK0.out (by rw [show k - 1 = j from by have := HJ.out; omega]; exact HG.out))
              go_wp2_with fail
              (refine wp_region_below (by kernel_rfl) (by kernel_rfl) ?_; (repeat (first | go_big_quiet_skip | (refine quietV (v := ?_) (by rfl) rfl (fun w' hbw => ?_) ?_; rotate_left; ((try dsimp only at hbw); have hbc := (bcell hbw).1; have hbf := (bcell hbw).2; go_simp; first | done | with_reducible rfl | exact callsBB (l2Before_s p q p q _) HBF.out hbw); simp only [List.setIfInBounds_toArray, List.set_cons_zero, List.set_cons_succ]))); refine wpQuiet_nil ?_; intro wq hbq)
              have c1 : wq.cell? ⟨gx, ox + i * 2, none⟩ = some (.int .i64 p) := (hbq.cell hgx2).trans f1
              have c2 : wq.cell? ⟨gx, ox + i * 2 + 1, none⟩ = some (.int .i64 q) := (hbq.cell hgx2).trans f2
              have c3 : wq.cell? ⟨g, j * 2, none⟩ = some (.int .i64 p) := (hbq.cell hgl2).trans b1
              have c4 : wq.cell? ⟨g, j * 2 + 1, none⟩ = some (.int .i64 q) := (hbq.cell hgl2).trans b2
              have hgxq : gx < wq.heap.size := Nat.lt_of_lt_of_le hgx2 hbq.size
              have hglq : g < wq.heap.size := Nat.lt_of_lt_of_le hgl2 hbq.size
              clear f1 f2 b1 b2
              go_wp2_with fail
              (refine wp_region_below (by kernel_rfl) (by kernel_rfl) ?_; (repeat (first | go_big_quiet_skip | (refine quietV (v := ?_) (by rfl) rfl (fun w' hbw => ?_) ?_; rotate_left; ((try dsimp only at hbw); have hbc := (bcell hbw).1; have hbf := (bcell hbw).2; go_simp; first | done | with_reducible rfl | fail); simp only [List.setIfInBounds_toArray, List.set_cons_zero, List.set_cons_succ]))); refine wpQuiet_nil ?_; intro wz hbz)
              go_wp2_with fail
              exact ⟨⟨i + 1, g, m, cp, by omega, by omega, by go_num, rfl, by rw [HST.out, HV.out]; exact own_keep (own_keep (own_keep HO.out hb2) hbq) hbz, bel_trans (bel_trans HB.out hbq) hbz⟩, by simp [intOf]; omega⟩
            · have HV := Lib.hid (HIN.out k HN.out (fun h => hsame (by have := h.2; rw [show k - 1 = j from by have := HJ.out; omega, HG.out] at this; injection this with h1 h2; exact ⟨h1, h2⟩)))
              have hne : (p == x && q == y) = false := by
                rw [Bool.and_eq_false_iff, beq_eq_false_iff_ne, beq_eq_false_iff_ne]
                by_cases h1 : p = x
                · exact .inr fun h2 => hsame ⟨h1, h2⟩
                · exact .inl h1
              clear hsame
              go_wp2_with fail
              (refine wp_region_below (by kernel_rfl) (by kernel_rfl) ?_; (repeat (first | go_big_quiet_skip | (refine quietV (v := ?_) (by rfl) rfl (fun w' hbw => ?_) ?_; rotate_left; ((try dsimp only at hbw); have hbc := (bcell hbw).1; have hbf := (bcell hbw).2; go_simp; first | done | with_reducible rfl | exact callsBB (l2Before_s x y p q _) HBF.out hbw); simp only [List.setIfInBounds_toArray, List.set_cons_zero, List.set_cons_succ]))); refine wpQuiet_nil ?_; intro wq hbq)
              have c1 : wq.cell? ⟨gx, ox + i * 2, none⟩ = some (.int .i64 x) := (hbq.cell hgx2).trans f1
              have c2 : wq.cell? ⟨gx, ox + i * 2 + 1, none⟩ = some (.int .i64 y) := (hbq.cell hgx2).trans f2
              have c3 : wq.cell? ⟨g, j * 2, none⟩ = some (.int .i64 p) := (hbq.cell hgl2).trans b1
              have c4 : wq.cell? ⟨g, j * 2 + 1, none⟩ = some (.int .i64 q) := (hbq.cell hgl2).trans b2
              have hgxq : gx < wq.heap.size := Nat.lt_of_lt_of_le hgx2 hbq.size
              have hglq : g < wq.heap.size := Nat.lt_of_lt_of_le hgl2 hbq.size
              clear f1 f2 b1 b2
              go_wp2_with fail
              (refine wp_region_below (by kernel_rfl) (by kernel_rfl) ?_; (repeat (first | go_big_quiet_skip | (refine quietV (v := ?_) (by rfl) rfl (fun w' hbw => ?_) ?_; rotate_left; ((try dsimp only at hbw); have hbc := (bcell hbw).1; have hbf := (bcell hbw).2; go_simp; first | done | with_reducible rfl | fail); simp only [List.setIfInBounds_toArray, List.set_cons_zero, List.set_cons_succ]))); refine wpQuiet_nil ?_; intro wz hbz)
              have f1 : wz.cell? ⟨gx, ox + i * 2, none⟩ = some (.int .i64 x) := (hbz.cell hgxq).trans c1
              have f2 : wz.cell? ⟨gx, ox + i * 2 + 1, none⟩ = some (.int .i64 y) := (hbz.cell hgxq).trans c2
              have hgxz : gx < wz.heap.size := Nat.lt_of_lt_of_le hgxq hbz.size
              replace HLR := Lib.hid ((HLR.out.below hbq).below hbz)
              replace HB := Lib.hid (bel_trans (bel_trans HB.out hbq) hbz)
              replace HBS : Hid (w.heap.size ≤ wz.heap.size) := (HB.out).size
              clear c1 c2 c3 c4
              go_wp2_with fail
              obtain ⟨i0, hi, hz0, hz1, hz2⟩ := info_parts infoC
              have hs1 : ∀ w', (Instr.slice 52 (.slice (some ⟨g, 0, none⟩) m cp) none (some (.int .i64 (k : Int))) none).run Tryz.prog w' = .ok (.slice (some ⟨g, 0, none⟩) k cp) w' := fun w' => run_uptoC w' g m cp k (by omega)
              have hs2 : ∀ w', (Instr.slice 52 (.slice (some ⟨g, 0, none⟩) m cp) (some (.int .i64 (k : Int))) none none).run Tryz.prog w' = .ok (.slice (some ⟨g, offC cp k, none⟩) (m - k) (cp - k)) w' := fun w' => run_fromC w' g m cp k (by omega)
              have R2 : Hid (Rd wz (some ⟨g, offC cp k, none⟩) (vC (l.drop k))) := Rd.fromC HLR.out HLM.out (by omega)
              have R1 : Hid (Rd wz (some ⟨g, 0, none⟩) (vC (l.take k))) := by show Rd _ _ _; rw [vC_take]; exact Rd.take HLR.out _
              have L1 : Hid ((l.take k).length = k) := by show (l.take k).length = k; rw [List.length_take, HLM.out]; omega
              have L2 : Hid ((l.drop k).length = m - k) := by show (l.drop k).length = m - k; rw [List.length_drop, HLM.out]
              have HI := Lib.hid hi
              have HZ0 := Lib.hid hz0
              have HZ1 := Lib.hid hz1
              have HZ2 := Lib.hid hz2
              clear hi hz0 hz1 hz2
              refine wp_region_rg 16 rfl (by kernel_rfl) ?_
              (refine rgT (i := 1) (v := ?_) rfl rfl (by kernel_rfl) (by kernel_rfl) (by kernel_rfl) (by rfl) (fun w' hcw => ?_) ?_; rotate_left; ((try dsimp only at hcw); have hbc := hcw.cells; go_simp; first | done | with_reducible rfl); simp only [List.setIfInBounds_toArray, List.set_cons_zero, List.set_cons_succ])
              (refine rgT (i := 2) (v := ?_) rfl rfl (by kernel_rfl) (by kernel_rfl) (by kernel_rfl) (by rfl) (fun w' hcw => ?_) ?_; rotate_left; ((try dsimp only at hcw); have hbc := hcw.cells; go_simp; first | done | with_reducible rfl); simp only [List.setIfInBounds_toArray, List.set_cons_zero, List.set_cons_succ])
              (refine rgT (i := 3) (v := ?_) rfl rfl (by kernel_rfl) (by kernel_rfl) (by kernel_rfl) (by rfl) (fun w' hcw => ?_) ?_; rotate_left; ((try dsimp only at hcw); have hbc := hcw.cells; go_simp; first | done | with_reducible rfl); simp only [List.setIfInBounds_toArray, List.set_cons_zero, List.set_cons_succ])
              (refine rgT (i := 5) (v := ?_) rfl rfl (by kernel_rfl) (by kernel_rfl) (by kernel_rfl) (by rfl) (fun w' hcw => ?_) ?_; rotate_left; ((try dsimp only at hcw); have hbc := hcw.cells; go_simp; first | done | with_reducible rfl); simp only [List.setIfInBounds_toArray, List.set_cons_zero, List.set_cons_succ])
              (refine rgT (i := 6) (v := ?_) rfl rfl (by kernel_rfl) (by kernel_rfl) (by kernel_rfl) (by rfl) (fun w' hcw => ?_) ?_; rotate_left; ((try dsimp only at hcw); have hbc := hcw.cells; go_simp; first | done | with_reducible rfl); simp only [List.setIfInBounds_toArray, List.set_cons_zero, List.set_cons_succ])
              (refine rgT (i := 7) (v := ?_) rfl rfl (by kernel_rfl) (by kernel_rfl) (by kernel_rfl) (by rfl) (fun w' hcw => ?_) ?_; rotate_left; ((try dsimp only at hcw); have hbc := hcw.cells; go_simp; first | done | with_reducible rfl); simp only [List.setIfInBounds_toArray, List.set_cons_zero, List.set_cons_succ])
              (refine rgT (i := 8) (v := ?_) rfl rfl (by kernel_rfl) (by kernel_rfl) (by kernel_rfl) (by rfl) (fun w' hcw => ?_) ?_; rotate_left; ((try dsimp only at hcw); have hbc := hcw.cells; go_simp; first | done | with_reducible rfl); simp only [List.setIfInBounds_toArray, List.set_cons_zero, List.set_cons_succ])
              (refine rgT (i := 11) (v := ?_) rfl rfl (by kernel_rfl) (by kernel_rfl) (by kernel_rfl) (by rfl) (fun w' hcw => ?_) ?_; rotate_left; ((try dsimp only at hcw); have hbc := hcw.cells; go_simp; first | done | with_reducible rfl); simp only [List.setIfInBounds_toArray, List.set_cons_zero, List.set_cons_succ])
              (refine rgT (i := 12) (v := ?_) rfl rfl (by kernel_rfl) (by kernel_rfl) (by kernel_rfl) (by rfl) (fun w' hcw => ?_) ?_; rotate_left; ((try dsimp only at hcw); have hbc := hcw.cells; go_simp; first | done | with_reducible rfl); simp only [List.setIfInBounds_toArray, List.set_cons_zero, List.set_cons_succ])
              (refine rgT (i := 13) (v := ?_) rfl rfl (by kernel_rfl) (by kernel_rfl) (by kernel_rfl) (by rfl) (fun w' hcw => ?_) ?_; rotate_left; ((try dsimp only at hcw); have hbc := hcw.cells; go_simp; first | done | with_reducible rfl); simp only [List.setIfInBounds_toArray, List.set_cons_zero, List.set_cons_succ])
              refine ins_tail (T := 52) (e := 87) (i := i0) (z := .agg #[.int .i64 0, .int .i64 0]) (size := 2) (bytes := 16) (i0 := 0) (iA := 4) (iN := 9) (iB := 10) (iD := 14) (iE := 15) (s0 := 45) (sA := 49) (sN := 54) (sB := 55) (sD := 59) (dE := 3) (t1 := 48) (t2 := 58) (xn := .tmp 53) (vn := .agg #[.int .i64 x, .int .i64 y]) (news := vC [(x, y)]) (vs1 := vC (l.take k)) (vs2 := vC (l.drop k)) (A1 := some ⟨g, 0, none⟩) (m1 := k) (c1 := cp) (A2 := some ⟨g, offC cp k, none⟩) (m2 := m - k) (c2 := cp - k) _ ?ht ?hi ?hz ?h1 ?h2 rfl (by omega) ⟨⟨_, rfl, rfl, rfl, fun a w => ?p0⟩, ⟨_, rfl, rfl, rfl, rfl⟩, ⟨_, rfl, rfl, rfl, fun a w h => ?pN⟩, ⟨_, rfl, rfl, rfl, rfl⟩, ⟨_, rfl, rfl, rfl, rfl⟩, ⟨_, rfl, rfl, rfl, rfl⟩⟩ ⟨by simp, by decide, by decide, by decide⟩ (fun a h => (h.eval (by decide)).trans rfl) (by kernel_rfl) (by kernel_rfl) (by kernel_rfl) (by kernel_rfl) (by kernel_rfl) (by decide) (by decide) (by kernel_rfl) (by kernel_rfl) (by kernel_rfl) (by kernel_rfl) rfl ?q1 ?l1 ?o1 rfl ?q2 ?l2 ?o2 ?ln ?on ?hm ?hb ?hQ
              case ht => exact Tryz.underlying52
              case hi => exact HI.out
              case hz => exact HZ0.out
              case h1 => exact HZ1.out
              case h2 => exact HZ2.out
              case p0 => simp [go_sem, execOp]
              case pN => (generalize Act.eval a = ρ at h ⊢; simp [go_sem, execOp, h, vC])
              case q1 => exact R1.out
              case l1 => rw [vC_length, L1.out] <;> omega
              case o1 => exact vC_one _
              case q2 => exact R2.out
              case l2 => rw [vC_length, L2.out] <;> omega
              case o2 => exact vC_one _
              case ln => rfl
              case on => exact vC_one _
              case hm => omega
              case hb => omega
              case hQ =>
                intro a' w' A' c' hfr hev how hex
                obtain ⟨v0, vA, vN, vB, vD, rfl⟩ := hfr.form hev
                rw [← vC_append, ← vC_append, ← HV.out, ← HST.out] at how
                obtain ⟨g', rfl, _, _⟩ := own_at how (by omega)
                have HOW := Lib.hid (own_base how HBS.out)
                clear how hev hfr
                refine NoPanic.normal ?_
                simp only [List.setIfInBounds_toArray, List.set_cons_zero, List.set_cons_succ]
                go_wp2
                exact ⟨⟨i + 1, g', k + 1 + (m - k), c', by omega, by omega, by go_num, by rfl, HOW.out, bel_trans HB.out hex⟩, by simp [intOf]; omega⟩
        · obtain rfl : k = 0 := by omega
          have HN : Hid (cutG befC l (x, y) m = 0) := HCUT.out
          have HV := Lib.hid (HIN.out 0 HN.out (fun h => absurd h.1 (by omega)))
          obtain ⟨k, hkz⟩ : ∃ k : Nat, 0 = k := ⟨0, rfl⟩
          have hkp : ¬ 0 < k := by omega
          have hkp2 : decide (0 < k) = false := by simp; omega
          have HKZ := Lib.hid hkz
          rw [hkz] at HV hk
          rw [show ((0 : Nat) : Int) = (k : Int) from by rw [hkz]]
          clear hkz
          go_wp2_with fail
          (refine wp_region_below (by kernel_rfl) (by kernel_rfl) ?_; (repeat (first | go_big_quiet_skip | (refine quietV (v := ?_) (by rfl) rfl (fun w' hbw => ?_) ?_; rotate_left; ((try dsimp only at hbw); have hbc := (bcell hbw).1; have hbf := (bcell hbw).2; go_simp; first | done | with_reducible rfl | fail); simp only [List.setIfInBounds_toArray, List.set_cons_zero, List.set_cons_succ]))); refine wpQuiet_nil ?_; intro wq hbq)
          go_wp2_with fail
          (refine wp_region_below (by kernel_rfl) (by kernel_rfl) ?_; (repeat (first | go_big_quiet_skip | (refine quietV (v := ?_) (by rfl) rfl (fun w' hbw => ?_) ?_; rotate_left; ((try dsimp only at hbw); have hbc := (bcell hbw).1; have hbf := (bcell hbw).2; go_simp; first | done | with_reducible rfl | fail); simp only [List.setIfInBounds_toArray, List.set_cons_zero, List.set_cons_succ]))); refine wpQuiet_nil ?_; intro wz hbz)
          have c1 : wz.cell? ⟨gx, ox + i * 2, none⟩ = some (.int .i64 x) := (hbz.cell (Nat.lt_of_lt_of_le hgx2 hbq.size)).trans ((hbq.cell hgx2).trans f1)
          have c2 : wz.cell? ⟨gx, ox + i * 2 + 1, none⟩ = some (.int .i64 y) := (hbz.cell (Nat.lt_of_lt_of_le hgx2 hbq.size)).trans ((hbq.cell hgx2).trans f2)
          have hgxz : gx < wz.heap.size := Nat.lt_of_lt_of_le hgx2 (Nat.le_trans hbq.size hbz.size)
          replace HLR := Lib.hid ((HLR.out.below hbq).below hbz)
          replace HB := Lib.hid (bel_trans (bel_trans HB.out hbq) hbz)
          replace HBS : Hid (w.heap.size ≤ wz.heap.size) := (HB.out).size
          clear f1 f2
          go_wp2_with fail
          obtain ⟨i0, hi, hz0, hz1, hz2⟩ := info_parts infoC
          have hs1 : ∀ w', (Instr.slice 52 (.slice (some ⟨g, 0, none⟩) m cp) none (some (.int .i64 (k : Int))) none).run Tryz.prog w' = .ok (.slice (some ⟨g, 0, none⟩) k cp) w' := fun w' => run_uptoC w' g m cp k (by omega)
          have hs2 : ∀ w', (Instr.slice 52 (.slice (some ⟨g, 0, none⟩) m cp) (some (.int .i64 (k : Int))) none none).run Tryz.prog w' = .ok (.slice (some ⟨g, offC cp k, none⟩) (m - k) (cp - k)) w' := fun w' => run_fromC w' g m cp k (by omega)
          have R2 : Hid (Rd wz (some ⟨g, offC cp k, none⟩) (vC (l.drop k))) := Rd.fromC HLR.out HLM.out (by omega)
          have R1 : Hid (Rd wz (some ⟨g, 0, none⟩) (vC (l.take k))) := by show Rd _ _ _; rw [vC_take]; exact Rd.take HLR.out _
          have L1 : Hid ((l.take k).length = k) := by show (l.take k).length = k; rw [List.length_take, HLM.out]; omega
          have L2 : Hid ((l.drop k).length = m - k) := by show (l.drop k).length = m - k; rw [List.length_drop, HLM.out]
          have HI := Lib.hid hi
          have HZ0 := Lib.hid hz0
          have HZ1 := Lib.hid hz1
          have HZ2 := Lib.hid hz2
          clear hi hz0 hz1 hz2
          refine wp_region_rg 16 rfl (by kernel_rfl) ?_
          (refine rgT (i := 1) (v := ?_) rfl rfl (by kernel_rfl) (by kernel_rfl) (by kernel_rfl) (by rfl) (fun w' hcw => ?_) ?_; rotate_left; ((try dsimp only at hcw); have hbc := hcw.cells; go_simp; first | done | with_reducible rfl); simp only [List.setIfInBounds_toArray, List.set_cons_zero, List.set_cons_succ])
          (refine rgT (i := 2) (v := ?_) rfl rfl (by kernel_rfl) (by kernel_rfl) (by kernel_rfl) (by rfl) (fun w' hcw => ?_) ?_; rotate_left; ((try dsimp only at hcw); have hbc := hcw.cells; go_simp; first | done | with_reducible rfl); simp only [List.setIfInBounds_toArray, List.set_cons_zero, List.set_cons_succ])
          (refine rgT (i := 3) (v := ?_) rfl rfl (by kernel_rfl) (by kernel_rfl) (by kernel_rfl) (by rfl) (fun w' hcw => ?_) ?_; rotate_left; ((try dsimp only at hcw); have hbc := hcw.cells; go_simp; first | done | with_reducible rfl); simp only [List.setIfInBounds_toArray, List.set_cons_zero, List.set_cons_succ])
          (refine rgT (i := 5) (v := ?_) rfl rfl (by kernel_rfl) (by kernel_rfl) (by kernel_rfl) (by rfl) (fun w' hcw => ?_) ?_; rotate_left; ((try dsimp only at hcw); have hbc := hcw.cells; go_simp; first | done | with_reducible rfl); simp only [List.setIfInBounds_toArray, List.set_cons_zero, List.set_cons_succ])
          (refine rgT (i := 6) (v := ?_) rfl rfl (by kernel_rfl) (by kernel_rfl) (by kernel_rfl) (by rfl) (fun w' hcw => ?_) ?_; rotate_left; ((try dsimp only at hcw); have hbc := hcw.cells; go_simp; first | done | with_reducible rfl); simp only [List.setIfInBounds_toArray, List.set_cons_zero, List.set_cons_succ])
          (refine rgT (i := 7) (v := ?_) rfl rfl (by kernel_rfl) (by kernel_rfl) (by kernel_rfl) (by rfl) (fun w' hcw => ?_) ?_; rotate_left; ((try dsimp only at hcw); have hbc := hcw.cells; go_simp; first | done | with_reducible rfl); simp only [List.setIfInBounds_toArray, List.set_cons_zero, List.set_cons_succ])
          (refine rgT (i := 8) (v := ?_) rfl rfl (by kernel_rfl) (by kernel_rfl) (by kernel_rfl) (by rfl) (fun w' hcw => ?_) ?_; rotate_left; ((try dsimp only at hcw); have hbc := hcw.cells; go_simp; first | done | with_reducible rfl); simp only [List.setIfInBounds_toArray, List.set_cons_zero, List.set_cons_succ])
          (refine rgT (i := 11) (v := ?_) rfl rfl (by kernel_rfl) (by kernel_rfl) (by kernel_rfl) (by rfl) (fun w' hcw => ?_) ?_; rotate_left; ((try dsimp only at hcw); have hbc := hcw.cells; go_simp; first | done | with_reducible rfl); simp only [List.setIfInBounds_toArray, List.set_cons_zero, List.set_cons_succ])
          (refine rgT (i := 12) (v := ?_) rfl rfl (by kernel_rfl) (by kernel_rfl) (by kernel_rfl) (by rfl) (fun w' hcw => ?_) ?_; rotate_left; ((try dsimp only at hcw); have hbc := hcw.cells; go_simp; first | done | with_reducible rfl); simp only [List.setIfInBounds_toArray, List.set_cons_zero, List.set_cons_succ])
          (refine rgT (i := 13) (v := ?_) rfl rfl (by kernel_rfl) (by kernel_rfl) (by kernel_rfl) (by rfl) (fun w' hcw => ?_) ?_; rotate_left; ((try dsimp only at hcw); have hbc := hcw.cells; go_simp; first | done | with_reducible rfl); simp only [List.setIfInBounds_toArray, List.set_cons_zero, List.set_cons_succ])
          refine ins_tail (T := 52) (e := 87) (i := i0) (z := .agg #[.int .i64 0, .int .i64 0]) (size := 2) (bytes := 16) (i0 := 0) (iA := 4) (iN := 9) (iB := 10) (iD := 14) (iE := 15) (s0 := 45) (sA := 49) (sN := 54) (sB := 55) (sD := 59) (dE := 3) (t1 := 48) (t2 := 58) (xn := .tmp 53) (vn := .agg #[.int .i64 x, .int .i64 y]) (news := vC [(x, y)]) (vs1 := vC (l.take k)) (vs2 := vC (l.drop k)) (A1 := some ⟨g, 0, none⟩) (m1 := k) (c1 := cp) (A2 := some ⟨g, offC cp k, none⟩) (m2 := m - k) (c2 := cp - k) _ ?ht ?hi ?hz ?h1 ?h2 rfl (by omega) ⟨⟨_, rfl, rfl, rfl, fun a w => ?p0⟩, ⟨_, rfl, rfl, rfl, rfl⟩, ⟨_, rfl, rfl, rfl, fun a w h => ?pN⟩, ⟨_, rfl, rfl, rfl, rfl⟩, ⟨_, rfl, rfl, rfl, rfl⟩, ⟨_, rfl, rfl, rfl, rfl⟩⟩ ⟨by simp, by decide, by decide, by decide⟩ (fun a h => (h.eval (by decide)).trans rfl) (by kernel_rfl) (by kernel_rfl) (by kernel_rfl) (by kernel_rfl) (by kernel_rfl) (by decide) (by decide) (by kernel_rfl) (by kernel_rfl) (by kernel_rfl) (by kernel_rfl) rfl ?q1 ?l1 ?o1 rfl ?q2 ?l2 ?o2 ?ln ?on ?hm ?hb ?hQ
          case ht => exact Tryz.underlying52
          case hi => exact HI.out
          case hz => exact HZ0.out
          case h1 => exact HZ1.out
          case h2 => exact HZ2.out
          case p0 => simp [go_sem, execOp]
          case pN => (generalize Act.eval a = ρ at h ⊢; simp [go_sem, execOp, h, vC])
          case q1 => exact R1.out
          case l1 => rw [vC_length, L1.out] <;> omega
          case o1 => exact vC_one _
          case q2 => exact R2.out
          case l2 => rw [vC_length, L2.out] <;> omega
          case o2 => exact vC_one _
          case ln => rfl
          case on => exact vC_one _
          case hm => omega
          case hb => omega
          case hQ =>
            intro a' w' A' c' hfr hev how hex
            obtain ⟨v0, vA, vN, vB, vD, rfl⟩ := hfr.form hev
            rw [← vC_append, ← vC_append, ← HV.out, ← HST.out] at how
            obtain ⟨g', rfl, _, _⟩ := own_at how (by omega)
            have HOW := Lib.hid (own_base how HBS.out)
            clear how hev hfr
            refine NoPanic.normal ?_
            simp only [List.setIfInBounds_toArray, List.set_cons_zero, List.set_cons_succ]
            go_wp2
            exact ⟨⟨i + 1, g', k + 1 + (m - k), c', by omega, by omega, by go_num, by rfl, HOW.out, bel_trans HB.out hex⟩, by simp [intOf]; omega⟩
    · have hin : i = n := by omega
      have hv : (xs.take i).foldl (putG befC) [] = sortC xs := by rw [List.take_of_length_le (by rw [HL.out]; omega)]; rfl
      rw [hv] at hown
      have HO := Lib.hid hown
      subst hin
      have hi1 : ¬ (i : Int) < (i : Int) := by omega
      clear hown hv
      go_wp2
      go_ret
      exact ⟨_, _, _, rfl, HO.out, hb⟩
end Go.Proofs.YtkcgdnnipohehaaGreatDoor

/- An append of cells by an operation taken alone. -/
namespace Go.Proofs.YtkcgdnnipohehaaGreatDoor
open Go.RowKit
set_option linter.unusedVariables false
section
variable (w : World) {ops : Array Oper} {rest : List Oper} {o : Oper} {a : Act} {Q : Exit → Act → World → Prop}
theorem wpC (s x : Operand) {K : Act → World → Prop} (ho : o.op = .call { callee := .builtin .append, args := #[s, x], argTypes := #[52, 52] })
    (base : Nat) (A : Option Addr) (n c : Nat) (l : List C) (hs : a.eval s = .slice A n c) (hown : w.ownsRow base 87 2 (.slice A n c) n (vC l))
    (A2 : Option Addr) (m c2 : Nat) (l2 : List C) (hx : a.eval x = .slice A2 m c2) (hr : Rd w A2 (vC l2)) (hl : l2.length = m) (hb : n + m ≤ 1099511627776) (hbase : base ≤ w.heap.size)
    (h : ∀ A' c' w', w'.ownsRow base 87 2 (.slice A' (n + m) c') (n + m) (vC (l ++ l2)) → w.grownBy w' (ob A) → (ob A' = ob A ∨ ob A' = some w.heap.size) → K (a.put o.dst (.slice A' (n + m) c')) w') :
    o.wp Tryz.prog a w K Q := by
  obtain ⟨i0, hi, hz0, hz1, hz2⟩ := info_parts infoC
  refine wp_app w s x _ ho base _ i0 _ 2 16 Tryz.underlying52 hi hz0 hz1 hz2 rfl (by omega) A n c _ hs hown A2 m c2 _ hx hr (by rw [vC_length, hl]) (vC_one _) (by unfold maxLen; omega) (by omega) hbase ?_
  intro A' c' w' h1
  rw [← vC_append] at h1
  exact h A' c' w' h1
end
end Go.Proofs.YtkcgdnnipohehaaGreatDoor

/- Cells moved to their corner: the reference. -/
namespace Go.Proofs.YtkcgdnnipohehaaGreatDoor
open Go.RowKit
set_option linter.unusedVariables false
attribute [local go_sem ↓] Go.wp_at_zero Go.wp_at_succ

set_option maxHeartbeats 3200000 in
theorem l2Corner_s (A : Option Addr) (n c : Nat) (xs : List C) (w : World) (hr : Rd w A (vC xs)) (hl : xs.length = n) (hn : n ≤ 1048576) (hs : ∀ d ∈ xs, small d) :
    Calls Tryz.prog 99 #[.slice A n c] w (RetS w 87 2 (vC (cornS xs))) := by
  have hms : 0 < n → (-1000 ≤ minTo (·.1) xs n ∧ minTo (·.1) xs n ≤ 1000) ∧ (-1000 ≤ minTo (·.2) xs n ∧ minTo (·.2) xs n ≤ 1000) := by
    intro h0
    have := minC_small (by omega) hs
    unfold minC at this
    rwa [hl] at this
  have hV : ∀ px py, (n = 0 ∧ px = 0 ∧ py = 0 ∨ 0 < n ∧ px = minTo (·.1) xs n ∧ py = minTo (·.2) xs n) → mv xs (-px) (-py) = cornS xs := by
    intro px py h
    rcases h with ⟨h1, _, _⟩ | ⟨h1, h2, h3⟩
    · rw [List.eq_nil_of_length_eq_zero (hl.trans h1)]; rfl
    · unfold cornS minC; rw [hl, h2, h3]
  have HV := Lib.hid hV
  have HL := Lib.hid hl
  have HS := Lib.hid hs
  have HMS := Lib.hid hms
  have HR := Lib.hid hr
  have hini := own_new w 87 2 0 #[] rfl (by simp [maxLen]) (base := w.heap.size) (Nat.le_refl _)
  have HI0 := Lib.hid hini
  clear hini hl hs hms hr hV
  go_enter Tryz.func99, Tryz.ntmps99
  go_wp2
  go_loopw [4, 5, 6] (fun e4 e5 e6 wr => ∃ (k : Nat) (px py : Int), k ≤ n ∧ e4 = .int .i64 px ∧ e5 = .int .i64 py ∧ e6 = .int .i64 k ∧ (k = 0 ∧ px = 0 ∧ py = 0 ∨ 0 < k ∧ px = minTo (·.1) xs k ∧ py = minTo (·.2) xs k) ∧ Below (w.alloc (.cells #[] 87)).heap.size (w.alloc (.cells #[] 87)) wr) (fun _ _ e6 _ => n - (intOf e6).toNat)
  case atStart => exact ⟨0, 0, 0, Nat.zero_le _, rfl, rfl, rfl, .inl ⟨rfl, rfl, rfl⟩, Below.refl _ _⟩
  case round =>
    obtain ⟨k, px, py, hk, rfl, rfl, rfl, hp, hb⟩ := hrel
    have HP := Lib.hid hp
    clear hp
    have hbw : Below w.heap.size w wr := (by (repeat (first | with_reducible exact Below.refl _ _ | with_reducible assumption | with_reducible apply bel_alloc | with_reducible apply bel_drew | with_reducible apply bel_drewN | ((with_reducible refine bel_set ?_ ?_); rotate_left; (simp <;> omega)) | (with_reducible refine bel_trans ?_ (by with_reducible assumption)))))
    by_cases hlt : k < n
    · have hkl : k < xs.length := by rw [HL.out]; exact hlt
      have hk0 : (0 : Int) ≤ (k : Int) := by omega
      have hk1 : (k : Int) < (n : Int) := by omega
      obtain ⟨g, off, hA, hg, d1, d2⟩ := RdC.at_ (HR.out.below hbw) hkl
      subst hA
      obtain ⟨p, hp⟩ : ∃ p, xs[k].1 = p := ⟨_, rfl⟩
      obtain ⟨q, hq⟩ : ∃ q, xs[k].2 = q := ⟨_, rfl⟩
      rw [hp] at d1
      rw [hq] at d2
      have S1 : Hid (minTo (·.1) xs (k + 1) = if p < minTo (·.1) xs k then p else minTo (·.1) xs k) := by show minTo (·.1) xs (k + 1) = _; rw [minTo, getD_in xs hkl, hp]
      have S2 : Hid (minTo (·.2) xs (k + 1) = if q < minTo (·.2) xs k then q else minTo (·.2) xs k) := by show minTo (·.2) xs (k + 1) = _; rw [minTo, getD_in xs hkl, hq]
      by_cases hz : k = 0
      · have M0 : Hid (minTo (·.1) xs k = p ∧ minTo (·.2) xs k = q) := by
          show _ ∧ _
          subst hz
          exact ⟨by show (xs.getD 0 default).1 = p; rw [getD_in xs hkl, hp], by show (xs.getD 0 default).2 = q; rw [getD_in xs hkl, hq]⟩
        have e0 : ((k : Int) == 0) = true := by simp [hz]
        clear hz hp hq
        have T1 : Hid (minTo (·.1) xs (k + 1) = p) := by show _ = _; rw [S1.out]; rw [show minTo (·.1) xs k = p from M0.out.1]; exact ite_self _
        have T2 : Hid (minTo (·.2) xs (k + 1) = q) := by show _ = _; rw [S2.out]; rw [show minTo (·.2) xs k = q from M0.out.2]; exact ite_self _
        go_wp2_with fail
        exact ⟨⟨k + 1, p, q, by omega, rfl, rfl, by go_num, .inr ⟨by omega, T1.out.symm, T2.out.symm⟩, hb⟩, by simp [intOf]; omega⟩
      · have e0 : ((k : Int) == 0) = false := by simp; omega
        have hkz : ¬ k = 0 := hz
        have hpp : px = minTo (·.1) xs k ∧ py = minTo (·.2) xs k := by
          rcases HP.out with ⟨h1, _, _⟩ | ⟨_, h2, h3⟩
          · exact absurd h1 hz
          · exact ⟨h2, h3⟩
        have HPX := Lib.hid hpp.1
        have HPY := Lib.hid hpp.2
        clear hz hp hq hpp
        by_cases h1 : p < px
        · by_cases h2 : q < py
          · have T1 : Hid (minTo (·.1) xs (k + 1) = p) := by show _ = _; rw [S1.out, ← HPX.out]; exact if_pos h1
            have T2 : Hid (minTo (·.2) xs (k + 1) = q) := by show _ = _; rw [S2.out, ← HPY.out]; exact if_pos h2
            go_wp2_with fail
            exact ⟨⟨k + 1, p, q, by omega, rfl, rfl, by go_num, .inr ⟨by omega, T1.out.symm, T2.out.symm⟩, hb⟩, by simp [intOf]; omega⟩
          · have h2d : decide (q < py) = false := by simp; omega
            have T1 : Hid (minTo (·.1) xs (k + 1) = p) := by show _ = _; rw [S1.out, ← HPX.out]; exact if_pos h1
            have T2 : Hid (minTo (·.2) xs (k + 1) = py) := by show _ = _; rw [S2.out, ← HPY.out]; exact if_neg h2
            go_wp2_with fail
            exact ⟨⟨k + 1, p, py, by omega, rfl, rfl, by go_num, .inr ⟨by omega, T1.out.symm, T2.out.symm⟩, hb⟩, by simp [intOf]; omega⟩
        · have h1d : decide (p < px) = false := by simp; omega
          by_cases h2 : q < py
          · have T1 : Hid (minTo (·.1) xs (k + 1) = px) := by show _ = _; rw [S1.out, ← HPX.out]; exact if_neg h1
            have T2 : Hid (minTo (·.2) xs (k + 1) = q) := by show _ = _; rw [S2.out, ← HPY.out]; exact if_pos h2
            go_wp2_with fail
            exact ⟨⟨k + 1, px, q, by omega, rfl, rfl, by go_num, .inr ⟨by omega, T1.out.symm, T2.out.symm⟩, hb⟩, by simp [intOf]; omega⟩
          · have h2d : decide (q < py) = false := by simp; omega
            have T1 : Hid (minTo (·.1) xs (k + 1) = px) := by show _ = _; rw [S1.out, ← HPX.out]; exact if_neg h1
            have T2 : Hid (minTo (·.2) xs (k + 1) = py) := by show _ = _; rw [S2.out, ← HPY.out]; exact if_neg h2
            go_wp2_with fail
            exact ⟨⟨k + 1, px, py, by omega, rfl, rfl, by go_num, .inr ⟨by omega, T1.out.symm, T2.out.symm⟩, hb⟩, by simp [intOf]; omega⟩
    · obtain rfl : k = n := by omega
      have hk1 : ¬ (k : Int) < (k : Int) := by omega
      have hbnd : -1000 ≤ px ∧ px ≤ 1000 ∧ -1000 ≤ py ∧ py ≤ 1000 := by
        rcases HP.out with ⟨_, h1, h2⟩ | ⟨h0, h1, h2⟩
        · omega
        · have := HMS.out h0
          rw [← h1, ← h2] at this
          omega
      obtain ⟨q1, q2, q3, q4⟩ := hbnd
      have HVV := Lib.hid (HV.out px py HP.out)
      have HO0 := Lib.hid (own_keep HI0.out hb)
      clear hb
      go_wp2_with fail
      go_loopw [7, 3] (fun e7 e3 wr2 => ∃ (j cq : Nat) (D : Option Addr), j ≤ k ∧ e7 = .int .i64 j ∧ e3 = .slice D j cq ∧ wr2.ownsRow w.heap.size 87 2 (.slice D j cq) j (vC (mv (xs.take j) (-px) (-py))) ∧ Below w.heap.size w wr2) (fun e7 _ _ => k - (intOf e7).toNat)
      case atStart => exact ⟨0, 0, _, Nat.zero_le _, rfl, rfl, HO0.out, hbw⟩
      case round =>
        clear hbw
        obtain ⟨j, cq, D, hj, rfl, rfl, hown, hb⟩ := hrel
        by_cases hlt : j < k
        · have hkl : j < xs.length := by rw [HL.out]; exact hlt
          have hj0 : (0 : Int) ≤ (j : Int) := by omega
          have hj1 : (j : Int) < (k : Int) := by omega
          obtain ⟨g, off, hA, hg0, d1, d2⟩ := RdC.at_ HR.out hkl
          subst hA
          have hg : g < wr.heap.size := Nat.lt_of_lt_of_le hg0 hb.size
          replace d1 := (hb.cell (p := ⟨g, off + j * 2, none⟩) hg0).trans d1
          replace d2 := (hb.cell (p := ⟨g, off + j * 2 + 1, none⟩) hg0).trans d2
          have hgD : ¬ (some g = ob D) := fun e => by have := (own_lt hown g e.symm).1; omega
          have hst := mv_take xs (-px) (-py) j hkl
          have hsm := HS.out _ (List.getElem_mem hkl)
          obtain ⟨p, hp⟩ : ∃ p, xs[j].1 = p := ⟨_, rfl⟩
          obtain ⟨q, hq⟩ : ∃ q, xs[j].2 = q := ⟨_, rfl⟩
          unfold small at hsm
          rw [hp, hq] at hsm hst
          rw [hp] at d1
          rw [hq] at d2
          have e1 : IntKind.i64.wrap (p - px) = p - px := Go.IntWalk.i64_in _ (by omega)
          have e2 : IntKind.i64.wrap (q - py) = q - py := Go.IntWalk.i64_in _ (by omega)
          rw [← Int.sub_eq_add_neg, ← Int.sub_eq_add_neg] at hst
          have HST := Lib.hid hst
          have HO := Lib.hid hown
          have hbs := hb.size
          clear hst hown hp hq hsm
          go_wp2_with fail
          (refine wp_region_tailN (C := Gr wr D) 16 (by kernel_rfl) (by kernel_rfl) (Gr.drawn _ _) (fun _ _ h k => h.ext k) ?_; simp only [List.take_succ_cons, List.take_zero, List.drop_succ_cons, List.drop_zero]; (repeat (first | (refine headSkip (by rfl) rfl ?_; simp only [List.setIfInBounds_toArray, List.set_cons_zero, List.set_cons_succ]) | (refine headV (v := ?_) (by rfl) rfl (fun w' hcw => ?_) ?_; rotate_left; ((try dsimp only at hcw); have hbc := hcw.cells; go_simp; first | done | with_reducible rfl | fail); simp only [List.setIfInBounds_toArray, List.set_cons_zero, List.set_cons_succ]))); unfold wpHead)
          (refine tailK (by rfl) (fun w3 hc3 he3 K hK => ?_); go_simp; refine hK _ _ (hc3.ext (by (repeat (first | with_reducible exact Below.refl _ _ | with_reducible assumption | with_reducible apply bel_alloc | with_reducible apply bel_drew | with_reducible apply bel_drewN | ((with_reducible refine bel_set ?_ ?_); rotate_left; (simp <;> omega)) | (with_reducible refine bel_trans ?_ (by with_reducible assumption)))))) ?_; clear hK K)
          (refine tailK (by rfl) (fun w4 hc4 he4 K hK => ?_); refine wpC _ _ _ rfl w.heap.size D j cq (mv (xs.take j) (-px) (-py)) rfl (own_keep ((own_keep HO.out he3).alloc _) he4) _ 1 1 [(p - px, q - py)] rfl (Rd.below (rd_newC _ _ _ _) he4) rfl (by omega) (by have h2 := he3.size; have h3 := he4.size; simp at h3; omega) ?_; intro A2 c2 w5 hown5 hg5 _; refine hK _ _ (Gr.trans hc4 hg5) ?_; clear hK K; simp only [Act.put, List.setIfInBounds_toArray, List.set_cons_zero, List.set_cons_succ])
          (refine tailK (by rfl) (fun w6 hc6 he6 K hK => ?_); go_simp; refine hK _ _ (hc6) ?_; clear hK K)
          (refine fun w7 hc7 he7 => NoPanic.normal ?_)
          have hb5 : Below w.heap.size w w5 := bel_app (bel_trans (bel_alloc (bel_trans hb he3) _) he4) hg5 (fun g' hg' => ((own_lt HO.out) g' hg').1)
          have HO3 := Lib.hid (own_keep (own_keep hown5 he6) he7)
          clear hown5
          go_wp2
          exact ⟨⟨j + 1, c2, A2, by omega, by go_num, rfl, by rw [HST.out]; exact HO3.out, bel_trans (bel_trans hb5 he6) he7⟩, by simp [intOf]; omega⟩
        · obtain rfl : j = k := by omega
          rw [List.take_of_length_le (by rw [HL.out]; omega), HVV.out] at hown
          have HO := Lib.hid hown
          have hj1 : ¬ (j : Int) < (j : Int) := by omega
          clear hown
          go_wp2
          go_ret
          exact ⟨_, _, _, rfl, HO.out, hb⟩
end Go.Proofs.YtkcgdnnipohehaaGreatDoor

/- A queue: a slice of the call's own that may begin in the middle of its block; taken from at the front, appended to. -/
namespace Go.Proofs.YtkcgdnnipohehaaGreatDoor
open Go.RowKit
set_option linter.unusedVariables false
/-- The slice at cell off of block g, n elements long, owns its row. -/
def World.ownsQ (w : World) (base e size g off n c : Nat) (xs : List Value) : Prop :=
  xs.length = n * size ∧ n ≤ c ∧ c ≤ maxLen ∧ base ≤ g ∧ ∃ cur : Array Value, w.heap[g]? = some (.cells cur e (0, 0)) ∧ off + c * size ≤ cur.size ∧ (cur.toList.drop off).take (n * size) = xs
section
variable {w w' : World} {base e size g off n c : Nat} {xs : List Value}
end
section
variable (w : World) {ops : Array Oper} {rest : List Oper} {o : Oper} {a : Act} {Q : Exit → Act → World → Prop}
end
end Go.Proofs.YtkcgdnnipohehaaGreatDoor

/- The loops of a code. -/
namespace Go.Proofs.YtkcgdnnipohehaaGreatDoor
open Go.RowKit
/-- The loops of a code, the outer ones first. -/
def loopsIn : Code → List Code
  | .loop c => c :: loopsIn c
  | .seq a b => loopsIn a ++ loopsIn b
  | .block _ c => loopsIn c
  | .scope c => loopsIn c
  | .cond _ a b => loopsIn a ++ loopsIn b
  | _ => []
end Go.Proofs.YtkcgdnnipohehaaGreatDoor

/- The reference's draws of shapes. -/
namespace Go.Proofs.YtkcgdnnipohehaaGreatDoor
open Go.RowKit
set_option linter.unusedVariables false
attribute [local go_sem ↓] Go.wp_at_zero Go.wp_at_succ
theorem own_keptD {w w' : World} {base n c e size : Nat} {A : Option Addr} {xs : List Value} {row : Option Nat} (h : w.ownsRow base e size (.slice A n c) n xs) (hg : w.grownBy w' row) (hn : ∀ g, ob A = some g → row ≠ some g) : w'.ownsRow base e size (.slice A n c) n xs :=
  h.kept hg (by
    rw [ownBlock_slice]
    cases hA : ob A with
    | none => exact .inl rfl
    | some g => right; intro e; exact hn g hA e.symm)
theorem own_mono2D {w : World} {base base' e size n c : Nat} {A : Option Addr} {xs : List Value} (h : w.ownsRow base e size (.slice A n c) n xs) (hb : base' ≤ base) : w.ownsRow base' e size (.slice A n c) n xs := by
  refine ⟨h.1, ?_⟩
  rcases h.2 with hn | ⟨g, cap, cur, hv, hg, hgg, rest⟩
  · exact .inl hn
  · exact .inr ⟨g, cap, cur, hv, Nat.le_trans hb hg, hgg, rest⟩
theorem grown_trans {w w1 w2 : World} {row : Option Nat} (h : w.grownBy w1 row) (k : w1.grownBy w2 row) : w.grownBy w2 row :=
  ⟨k.os.trans h.os, k.tape.trans h.tape, k.output.trans h.output, Nat.le_trans h.size k.size, fun i hi hr => (k.block i (Nat.lt_of_lt_of_le hi h.size) hr).trans (h.block i hi hr)⟩
/-- Below base only the cursor's block is written. -/
structure FrG (base g : Nat) (w w' : World) : Prop where
  os : w'.os = w.os
  tape : w'.tape = w.tape
  output : w'.output = w.output
  size : w.heap.size ≤ w'.heap.size
  block : ∀ k, k < base → k ≠ g → w'.heap[k]? = w.heap[k]?
theorem FrG.refl (base g : Nat) (w : World) : FrG base g w w := ⟨rfl, rfl, rfl, Nat.le_refl _, fun _ _ _ => rfl⟩
theorem FrG.below {base g : Nat} {w w1 w2 : World} (h : FrG base g w w1) (k : Below w1.heap.size w1 w2) (hb : base ≤ w1.heap.size) : FrG base g w w2 :=
  ⟨k.os.trans h.os, k.tape.trans h.tape, k.output.trans h.output, Nat.le_trans h.size k.size, fun i hi hg => (k.block i (by omega)).trans (h.block i hi hg)⟩
theorem FrG.draw {base g : Nat} {w w1 w2 : World} (h : FrG base g w w1) (k : w1.grownBy w2 (some g)) (hb : base ≤ w1.heap.size) : FrG base g w w2 :=
  ⟨k.os.trans h.os, k.tape.trans h.tape, k.output.trans h.output, Nat.le_trans h.size k.size, fun i hi hg => (k.block i (by omega) (fun e => hg (by injection e))).trans (h.block i hi hg)⟩
theorem FrG.row {base g : Nat} {w w1 w2 : World} {row : Option Nat} (h : FrG base g w w1) (k : w1.grownBy w2 row) (hb : base ≤ w1.heap.size) (hr : ∀ b, row = some b → base ≤ b) : FrG base g w w2 :=
  ⟨k.os.trans h.os, k.tape.trans h.tape, k.output.trans h.output, Nat.le_trans h.size k.size, fun i hi hg => (k.block i (by omega) (fun e => by have := hr i e.symm; omega)).trans (h.block i hi hg)⟩
theorem FrG.grown {g : Nat} {w w1 : World} (h : FrG w.heap.size g w w1) : w.grownBy w1 (some g) := ⟨h.os, h.tape, h.output, h.size, fun k hk hg => h.block k hk (fun e => hg (by rw [e]))⟩
theorem Cur.row {w w' : World} {g : Nat} {A : Option Addr} {n c : Nat} {bs : List UInt8} {row : Option Nat} (h : Cur w g A n c bs) (k : w.grownBy w' row) (h1 : ∀ b, row = some b → b ≠ g) (h2 : 0 < n → ∀ b, row = some b → ob A ≠ some b) : Cur w' g A n c bs := by
  obtain ⟨i, x, hi, hB⟩ := h.blk
  refine ⟨⟨i, x, hi, hB.grown k (fun e => h1 g e.symm rfl)⟩, ?_, h.len, h.ne⟩
  by_cases h0 : 0 < n
  · exact h.rd.grown k (fun b e r => h2 h0 b r.symm e)
  · left
    have := h.len
    rw [List.eq_nil_of_length_eq_zero (by omega : bs.length = 0)]
    rfl
/-- A shape was drawn: cells near the board. -/
def RetShp (w : World) (g : Nat) (A : Option Addr) (n c : Nat) (bs : List UInt8) (e : Ending) (w' : World) : Prop :=
  ∃ D k cD xs, e = .returned (.slice D k cD) ∧ w'.ownsRow w.heap.size 87 2 (.slice D k cD) k (vC xs) ∧ 1 ≤ k ∧ k ≤ 7 ∧ Cur w' g A n c bs ∧ w.grownBy w' (some g)
noncomputable def growLp : Code := ((Tryz.f181.body.map loopsIn).getD []).getD 0 .skip
set_option maxRecDepth 100000 in
set_option maxHeartbeats 1600000 in
theorem growLoop {Q : Exit → Act → World → Prop} {s2 s3 s4 s7 s8 s9 s10 s11 s12 s13 s14 s15 s16 s17 s18 s19 s20 s21 s22 s23 s24 s25 s26 s27 s28 s29 s30 s31 s32 s33 s34 s35 s36 s37 s38 s39 s40 s41 s42 s43 s44 s45 s46 s47 s48 s49 s50 s51 s52 s53 s54 s55 s56 s57 s58 s59 s60 s61 s62 : Value} {A D : Option Addr} {n c g cD m base : Nat} {bs : List UInt8} {w : World}
    (hAb : 0 < n → ∀ b, ob A = some b → b < base) (hc : Cur w g A n c bs) (hn : n ≤ 1048576) (hm : 1 ≤ m) (hm7 : m ≤ 7) (hO : w.ownsRow base 87 2 (.slice D 1 cD) 1 (vC [(3, 3)])) (hgb : g < base) (hbase : base ≤ w.heap.size)
    (hexit : ∀ (v7 v8 v9 v12 v13 v14 v15 v16 v17 v18 v19 v20 v21 v22 v23 v24 v25 v26 v27 v28 v29 v30 v31 v32 v33 v34 v35 v36 v37 v38 v39 v40 v41 v42 v43 v44 v45 v46 v47 v48 v49 v50 v51 v52 v53 v54 v55 v56 v57 v58 v59 : Value) (D' : Option Addr) (k c' : Nat) (ys : List C) (w3 : World), w3.ownsRow base 87 2 (.slice D' k c') k (vC ys) → 1 ≤ k → k ≤ 7 → (∀ d ∈ ys, (0 ≤ d.1 ∧ d.1 ≤ 7) ∧ (0 ≤ d.2 ∧ d.2 ≤ 7)) → Cur w3 g A n c bs → FrG base g w w3 → Q (.exit 0) ⟨List.toArray ((.pointer (some ⟨g, 0, none⟩)) :: (.int .i64 (m : Int)) :: s2 :: s3 :: s4 :: (.slice D' k c') :: (.int .i64 (m : Int)) :: v7 :: v8 :: v9 :: s10 :: s11 :: v12 :: v13 :: v14 :: v15 :: v16 :: v17 :: v18 :: v19 :: v20 :: v21 :: v22 :: v23 :: v24 :: v25 :: v26 :: v27 :: v28 :: v29 :: v30 :: v31 :: v32 :: v33 :: v34 :: v35 :: v36 :: v37 :: v38 :: v39 :: v40 :: v41 :: v42 :: v43 :: v44 :: v45 :: v46 :: v47 :: v48 :: v49 :: v50 :: v51 :: v52 :: v53 :: v54 :: v55 :: v56 :: v57 :: v58 :: v59 :: s60 :: s61 :: s62 :: []), []⟩ w3) :
    Code.wp Tryz.prog (Code.loop growLp) Q ⟨List.toArray ((.pointer (some ⟨g, 0, none⟩)) :: (.int .i64 (m : Int)) :: s2 :: s3 :: s4 :: (.slice D 1 cD) :: (.int .i64 1) :: s7 :: s8 :: s9 :: s10 :: s11 :: s12 :: s13 :: s14 :: s15 :: s16 :: s17 :: s18 :: s19 :: s20 :: s21 :: s22 :: s23 :: s24 :: s25 :: s26 :: s27 :: s28 :: s29 :: s30 :: s31 :: s32 :: s33 :: s34 :: s35 :: s36 :: s37 :: s38 :: s39 :: s40 :: s41 :: s42 :: s43 :: s44 :: s45 :: s46 :: s47 :: s48 :: s49 :: s50 :: s51 :: s52 :: s53 :: s54 :: s55 :: s56 :: s57 :: s58 :: s59 :: s60 :: s61 :: s62 :: []), []⟩ w := by
  have HC0 := Lib.hid hc
  have HO0 := Lib.hid hO
  have HX := Lib.hid @hexit
  clear hc hO hexit
  conv => arg 2; arg 1; whnf
  go_loopw [6, 5] (fun e6 e5 wr => ∃ (i k cq : Nat) (E : Option Addr) (ys : List C), i ≤ m ∧ 1 ≤ i ∧ e6 = .int .i64 i ∧ e5 = .slice E k cq ∧ 1 ≤ k ∧ k ≤ i ∧ wr.ownsRow base 87 2 (.slice E k cq) k (vC ys) ∧ (∀ d ∈ ys, (0 ≤ d.1 ∧ d.1 ≤ 7) ∧ (0 ≤ d.2 ∧ d.2 ≤ 7)) ∧ Cur wr g A n c bs ∧ FrG base g w wr) (fun e6 _ _ => m - (intOf e6).toNat)
  case atStart => exact ⟨1, 1, cD, D, [(3, 3)], hm, Nat.le_refl _, rfl, rfl, Nat.le_refl _, Nat.le_refl _, HO0.out, by simp, HC0.out, FrG.refl _ _ _⟩
  case round =>
    clear HC0 HO0
    obtain ⟨i, k, cq, E, ys, hi, hi1', rfl, rfl, hk1, hki, hO, hin, hc, hfr⟩ := hrel
    have HO := Lib.hid hO
    have HIN := Lib.hid hin
    have HC := Lib.hid hc
    have HFR := Lib.hid hfr
    clear hO hin hc hfr
    by_cases hlt : i < m
    · have hi0 : (0 : Int) ≤ (i : Int) := by omega
      have hi1 : (i : Int) < (m : Int) := by omega
      go_wp2_with fail
      refine (l1Below_s A n c g k bs wr HC.out hn hk1 (by omega)).mono ?_
      rintro e w1 ⟨r, rfl, hr, hc1, hg1⟩
      have hEg : ∀ b, ob E = some b → b ≠ g := fun b e r => by have := (own_lt HO.out b e).1; omega
      have hO1 := own_keptD HO.out hg1 (fun b e r => hEg b e (by injection r with r; exact r.symm))
      have hyl : ys.length = k := by have := own_len hO1; rw [vC_length] at this; omega
      have hrl : r < ys.length := by omega
      have hr0 : (0 : Int) ≤ (r : Int) := by omega
      have hrk : (r : Int) < (k : Int) := by omega
      obtain ⟨ge, oe, hEe, hge, d1, d2⟩ := RdC.at_ (Rd.of_own hO1) hrl
      obtain ⟨px, hpx⟩ : ∃ px, ys[r].1 = px := ⟨_, rfl⟩
      obtain ⟨py, hpy⟩ : ∃ py, ys[r].2 = py := ⟨_, rfl⟩
      have hpin := HIN.out _ (List.getElem_mem hrl)
      rw [hpx] at d1 hpin
      rw [hpy] at d2 hpin
      have hbs1 : base ≤ wr.heap.size := Nat.le_trans hbase HFR.out.size
      have hbs2 : base ≤ w1.heap.size := Nat.le_trans hbs1 hg1.size
      have HFR1 := Lib.hid (HFR.out.draw hg1 hbs1)
      have HC1 := Lib.hid hc1
      have HO1 := Lib.hid hO1
      have HYL := Lib.hid hyl
      subst hEe
      clear hc1 hg1 hO1 hyl hpx hpy HFR HO HC hEg
      go_wp2_with fail
      have hbx := Blk.new w1 87 #[.int .i64 px, .int .i64 py]
      refine (l1Below_s A n c g 4 bs _ (HC1.out.below (bel_alloc (Below.refl _ _) _)) hn (by omega) (by omega)).mono ?_
      rintro e w2 ⟨d, rfl, hd, hc2, hg2⟩
      have hbx2 := hbx.grown hg2 (fun e => by injection e with e; omega)
      have x0 : w2.cell? ⟨w1.heap.size, 0, none⟩ = some (.int .i64 px) := by simpa using hbx2.cell 0
      have x1 : w2.cell? ⟨w1.heap.size, 1, none⟩ = some (.int .i64 py) := by simpa using hbx2.cell 1
      have xl := hbx2.lt
      have hws : (w1.alloc (.cells #[.int .i64 px, .int .i64 py] 87)).heap.size = w1.heap.size + 1 := by simp
      have HFR2 := Lib.hid ((HFR1.out.below (bel_alloc (Below.refl _ _) (.cells #[.int .i64 px, .int .i64 py] 87)) hbs2).draw hg2 (by omega))
      have HO2 := Lib.hid (own_keptD (own_keep HO1.out (bel_alloc (Below.refl _ _) (.cells #[.int .i64 px, .int .i64 py] 87))) hg2 (fun b e r => by have := (own_lt HO1.out b e).1; injection r with r; omega))
      have HC2 := Lib.hid hc2
      have hbs3 : base ≤ w2.heap.size := by have := hg2.size; omega
      obtain ⟨da, db, e1, e2, hd1, hd2⟩ : ∃ da db : Int, ((1 : Int) - (d : Int)).tmod 2 = da ∧ ((2 : Int) - (d : Int)).tmod 2 = db ∧ (-1 ≤ da ∧ da ≤ 1) ∧ (-1 ≤ db ∧ db ≤ 1) := by
        rcases (by omega : d = 0 ∨ d = 1 ∨ d = 2 ∨ d = 3) with rfl | rfl | rfl | rfl
        · exact ⟨1, 0, by decide, by decide, by omega, by omega⟩
        · exact ⟨0, 1, by decide, by decide, by omega, by omega⟩
        · exact ⟨-1, 0, by decide, by decide, by omega, by omega⟩
        · exact ⟨0, -1, by decide, by decide, by omega, by omega⟩
      obtain ⟨a0, ha0⟩ : ∃ a0, px + da = a0 := ⟨_, rfl⟩
      obtain ⟨b0, hb0⟩ : ∃ b0, py + db = b0 := ⟨_, rfl⟩
      have q1 : IntKind.i64.wrap ((1 : Int) - (d : Int)) = (1 : Int) - (d : Int) := Go.IntWalk.i64_in _ (by omega)
      have q2 : IntKind.i64.wrap ((2 : Int) - (d : Int)) = (2 : Int) - (d : Int) := Go.IntWalk.i64_in _ (by omega)
      have q3 : IntKind.i64.wrap a0 = a0 := Go.IntWalk.i64_in _ (by omega)
      have q4 : IntKind.i64.wrap b0 = b0 := Go.IntWalk.i64_in _ (by omega)
      have q5 : IntKind.i64.wrap da = da := Go.IntWalk.i64_in _ (by omega)
      have q6 : IntKind.i64.wrap db = db := Go.IntWalk.i64_in _ (by omega)
      have HPI := Lib.hid hpin
      clear hc2 hg2 hbx hbx2 HFR1 HO1 HC1 d1 d2 hge hd hpin hws
      go_wp2_with fail
      have hby := Blk.new w2 87 #[.int .i64 a0, .int .i64 b0]
      obtain ⟨w3, hw3⟩ : ∃ w3, w2.alloc (.cells #[.int .i64 a0, .int .i64 b0] 87) = w3 := ⟨_, rfl⟩
      have hb23 : Below w2.heap.size w2 w3 := by rw [← hw3]; exact bel_alloc (Below.refl _ _) _
      rw [hw3] at hby ⊢
      have HBY := Lib.hid hby
      have HB23 := Lib.hid hb23
      clear hby hb23 hw3 e1 e2 ha0 hb0 q1 q2 q3 q4 q5 q6 x0 x1 xl
      by_cases hin1 : 0 ≤ a0 ∧ a0 ≤ 7
      · refine (l1In_t a0 0 7 w3 hin1.1 hin1.2).mono ?_
        rintro e w4 ⟨rfl, hb4⟩
        have HB4 := Lib.hid (bel_trans HB23.out hb4)
        have hby4 := HBY.out.below hb4
        have y1 : w4.cell? ⟨w2.heap.size, 1, none⟩ = some (.int .i64 b0) := by simpa using hby4.cell 1
        have yl := hby4.lt
        have HBY4 := Lib.hid hby4
        clear hb4 hby4 HBY
        go_wp2_with fail
        by_cases hin2 : 0 ≤ b0 ∧ b0 ≤ 7
        · refine (l1In_t b0 0 7 w4 hin2.1 hin2.2).mono ?_
          rintro e w5 ⟨rfl, hb5⟩
          have HB5 := Lib.hid (bel_trans HB4.out hb5)
          have hby5 := HBY4.out.below hb5
          have z0 : w5.cell? ⟨w2.heap.size, 0, none⟩ = some (.int .i64 a0) := by simpa using hby5.cell 0
          have z1 : w5.cell? ⟨w2.heap.size, 1, none⟩ = some (.int .i64 b0) := by simpa using hby5.cell 1
          have zl := hby5.lt
          have HBY5 := Lib.hid hby5
          have HO5 := Lib.hid (own_keep HO2.out HB5.out)
          clear hb5 hby5 y1 yl HBY4
          go_wp2_with fail
          refine (HasCell_s _ k cq ys a0 b0 w5 (Rd.of_own HO5.out) HYL.out (by omega)).mono ?_
          rintro e w6 ⟨rfl, hb6⟩
          have HB6 := Lib.hid (bel_trans HB5.out hb6)
          have hby6 := HBY5.out.below hb6
          have z0 : w6.cell? ⟨w2.heap.size, 0, none⟩ = some (.int .i64 a0) := by simpa using hby6.cell 0
          have z1 : w6.cell? ⟨w2.heap.size, 1, none⟩ = some (.int .i64 b0) := by simpa using hby6.cell 1
          have zl := hby6.lt
          have HO6 := Lib.hid (own_keep HO5.out hb6)
          clear hb6 hby6 HO5
          cases hh : hasC ys a0 b0 with
          | true =>
            clear z0 z1 zl
            go_wp2_with fail
            exact ⟨⟨i + 1, k, cq, _, ys, by omega, by omega, by go_num, rfl, hk1, by omega, HO6.out, HIN.out, HC2.out.below HB6.out, HFR2.out.below HB6.out hbs3⟩, by simp [intOf]; omega⟩
          | false =>
            clear hh
            go_wp2_with (at_builtin; go_must (refine app_C _ rfl _ _ rfl base _ _ _ ys rfl (HO6.out.alloc _) _ _ _ [(a0, b0)] rfl (rd_newC _ _ _ _) rfl (by omega) (by have := HB6.out.size; simp; omega) ?_); intro D6 c6 w8 ho6 hg6 hat6; have HO8 := Lib.hid ho6; have HG8 := Lib.hid hg6; clear ho6 hg6 hat6)
            have hfr8 : FrG base g w w8 := ((HFR2.out.below HB6.out hbs3).below (bel_alloc (Below.refl _ _) _) (by have := HB6.out.size; omega)).row HG8.out (by have := HB6.out.size; simp; omega) (fun b e => (own_lt HO6.out b e).1)
            have hc8 : Cur w8 g A n c bs := ((HC2.out.below HB6.out).below (bel_alloc (Below.refl _ _) _)).row HG8.out (fun b e => by have := (own_lt HO6.out b e).1; omega) (fun h0 b e r => by have h1 := (own_lt HO6.out b e).1; have h2 := hAb h0 b r; omega)
            have hin8 : ∀ d ∈ ys ++ [(a0, b0)], (0 ≤ d.1 ∧ d.1 ≤ 7) ∧ (0 ≤ d.2 ∧ d.2 ≤ 7) := fun d hd => by
              rcases List.mem_append.1 hd with h | h
              · exact HIN.out d h
              · simp only [List.mem_singleton] at h; subst h; exact ⟨hin1, hin2⟩
            exact ⟨⟨i + 1, k + 1, c6, D6, _, by omega, by omega, by go_num, rfl, by omega, by omega, HO8.out, hin8, hc8, hfr8⟩, by simp [intOf]; omega⟩
        · refine (l1In_f b0 0 7 w4 hin2).mono ?_
          rintro e w5 ⟨rfl, hb5⟩
          have HB5 := Lib.hid (bel_trans HB4.out hb5)
          clear hb5 y1 yl HBY4
          go_wp2_with fail
          exact ⟨⟨i + 1, k, cq, _, ys, by omega, by omega, by go_num, rfl, hk1, by omega, own_keep HO2.out HB5.out, HIN.out, HC2.out.below HB5.out, HFR2.out.below HB5.out hbs3⟩, by simp [intOf]; omega⟩
      · refine (l1In_f a0 0 7 w3 hin1).mono ?_
        rintro e w4 ⟨rfl, hb4⟩
        have HB4 := Lib.hid (bel_trans HB23.out hb4)
        clear hb4
        go_wp2_with fail
        exact ⟨⟨i + 1, k, cq, _, ys, by omega, by omega, by go_num, rfl, hk1, by omega, own_keep HO2.out HB4.out, HIN.out, HC2.out.below HB4.out, HFR2.out.below HB4.out hbs3⟩, by simp [intOf]; omega⟩
    · obtain rfl : i = m := by omega
      have hi1 : ¬ (i : Int) < (i : Int) := by omega
      go_wp2_with fail
      exact HX.out _ _ _ _ _ _ _ _ _ _ _ _ _ _ _ _ _ _ _ _ _ _ _ _ _ _ _ _ _ _ _ _ _ _ _ _ _ _ _ _ _ _ _ _ _ _ _ _ _ _ _ _ _ _ _ _ HO.out hk1 (by omega) HIN.out HC.out HFR.out
theorem cornS_len2 (s : List C) : (cornS s).length = s.length := by unfold cornS; rw [mv_len]
set_option maxRecDepth 100000 in
set_option maxHeartbeats 1600000 in
theorem l2Grow_s (A : Option Addr) (n c g m : Nat) (bs : List UInt8) (w : World) (hc : Cur w g A n c bs) (hn : n ≤ 1048576) (hm : 1 ≤ m) (hm7 : m ≤ 7) :
    Calls Tryz.prog 181 #[.pointer (some ⟨g, 0, none⟩), .int .i64 (m : Int)] w (RetShp w g A n c bs) := by
  have hgl : g < w.heap.size := by obtain ⟨i, x, hi, hB⟩ := hc.blk; exact hB.lt
  have hAb : 0 < n → ∀ b, ob A = some b → b < w.heap.size := fun h0 b e => by
    obtain ⟨gb, off, hA, hgb, _⟩ := RdB.at_ hc.rd (show 0 < bs.length by rw [hc.len]; exact h0)
    subst hA
    simp only [ob, Option.map_some, Option.some.injEq] at e
    omega
  have HC := Lib.hid (hc.below (bel_alloc (Below.refl _ _) (.cells #[.int .i64 3, .int .i64 3] 87)))
  have HAB := Lib.hid hAb
  have HO0 : Hid ((w.alloc (.cells #[.int .i64 3, .int .i64 3] 87)).ownsRow w.heap.size 87 2 (.slice (some ⟨w.heap.size, 0, none⟩) 1 1) 1 (vC [((3 : Int), (3 : Int))])) := own_newC w 87 3 3 (Nat.le_refl _)
  clear hc hAb
  go_enter Tryz.func181, Tryz.ntmps181
  go_wp2_with fail
  refine growLoop HAB.out HC.out hn hm hm7 HO0.out hgl (by simp) ?_
  intro _ _ _ _ _ _ _ _ _ _ _ _ _ _ _ _ _ _ _ _ _ _ _ _ _ _ _ _ _ _ _ _ _ _ _ _ _ _ _ _ _ _ _ _ _ _ _ _ _ _ _ D k c' ys w3 hO hk1 hk7 hin hc3 hfr
  have HO := Lib.hid hO
  have HIN := Lib.hid hin
  have HC3 := Lib.hid hc3
  have hfr3 : FrG w.heap.size g w w3 := ⟨hfr.os, hfr.tape, hfr.output, Nat.le_trans (by simp) hfr.size, fun b hb hg => (hfr.block b hb hg).trans (Below.heap_alloc w _ b hb)⟩
  have HFR := Lib.hid hfr3
  have hyl : ys.length = k := by have := own_len hO; rw [vC_length] at this; omega
  have HYL := Lib.hid hyl
  clear hO hin hc3 hfr hfr3 hyl
  go_wp2_with fail
  refine (SortCells_s D k c' ys w3 (Rd.of_own HO.out) HYL.out (by omega)).mono ?_
  rintro e w4 ⟨D4, k4, c4, rfl, hO4, hb4⟩
  have hl4 : (sortC ys).length = k4 := by have := own_len hO4; rw [vC_length] at this; omega
  have hk4 := sortC_len ys
  have hk41 := sortC_ne (s := ys) (by rw [HYL.out]; omega)
  have HO4 := Lib.hid hO4
  have HB4 := Lib.hid hb4
  have HL4 := Lib.hid hl4
  have hk4b : 1 ≤ k4 ∧ k4 ≤ 7 := by have := HYL.out; omega
  have hsm : ∀ d ∈ sortC ys, small d := fun d hd => by
    have h := HIN.out d ((sortC_mem ys d).1 hd)
    unfold small
    omega
  have HSM := Lib.hid hsm
  clear hO4 hb4 hl4 hk4 hk41 hsm
  go_wp2_with fail
  refine (l2Corner_s D4 k4 c4 (sortC ys) w4 (Rd.of_own HO4.out) HL4.out (by omega) HSM.out).mono ?_
  rintro e w5 ⟨D5, k5, c5, rfl, hO5, hb5⟩
  obtain rfl : k5 = k4 := by have := own_len hO5; rw [vC_length, cornS_len2, HL4.out] at this; omega
  have hsz3 : w.heap.size ≤ w3.heap.size := HFR.out.size
  have hsz4 : w.heap.size ≤ w4.heap.size := Nat.le_trans hsz3 HB4.out.size
  have HO5 := Lib.hid (own_mono2D hO5 hsz4)
  have HC5 := Lib.hid ((HC3.out.below HB4.out).below hb5)
  have HF5 := Lib.hid ((HFR.out.below HB4.out hsz3).below hb5 hsz4).grown
  clear hO5 hb5
  go_wp2_with fail
  go_ret
  exact ⟨D5, k5, c5, _, rfl, HO5.out, by omega, by omega, HC5.out, HF5.out⟩
theorem l2Shape_s (A : Option Addr) (n c g : Nat) (bs : List UInt8) (w : World) (hc : Cur w g A n c bs) (hn : n ≤ 1048576) :
    Calls Tryz.prog 143 #[.pointer (some ⟨g, 0, none⟩)] w (RetShp w g A n c bs) := by
  have HC := Lib.hid hc
  clear hc
  go_enter Tryz.func143, Tryz.ntmps143
  go_wp2_with fail
  refine (l1Below_s A n c g 7 bs w HC.out hn (by omega) (by omega)).mono ?_
  rintro e w1 ⟨q, rfl, hq, hc1, hg1⟩
  have HC1 := Lib.hid hc1
  have HG1 := Lib.hid hg1
  obtain ⟨m, hm⟩ : ∃ m, 1 + q = m := ⟨_, rfl⟩
  have hmI : (1 : Int) + (q : Int) = (m : Int) := by omega
  have em : IntKind.i64.wrap (m : Int) = (m : Int) := Go.IntWalk.i64_in _ (by omega)
  have hm1 : 1 ≤ m ∧ m ≤ 7 := by omega
  clear hc1 hg1 hm hq
  go_wp2_with fail
  refine (l2Grow_s A n c g m bs w1 HC1.out hn hm1.1 hm1.2).mono ?_
  rintro e w2 ⟨D, k, cD, xs, rfl, hO, hk1, hk7, hc2, hg2⟩
  have HO := Lib.hid (own_mono2D hO HG1.out.size)
  have HC2 := Lib.hid hc2
  have HG2 := Lib.hid (grown_trans HG1.out hg2)
  clear hO hc2 hg2
  go_wp2_with fail
  go_ret
  exact ⟨D, k, cD, xs, rfl, HO.out, hk1, hk7, HC2.out, HG2.out⟩
end Go.Proofs.YtkcgdnnipohehaaGreatDoor

/- The reference's draws of lists of cells: shapes and their neighbours. -/
namespace Go.Proofs.YtkcgdnnipohehaaGreatDoor
open Go.RowKit
set_option linter.unusedVariables false
attribute [local go_sem ↓] Go.wp_at_zero Go.wp_at_succ
/-- A list of cells was drawn: it can be read. -/
def RetAny (w : World) (g : Nat) (A : Option Addr) (n c : Nat) (bs : List UInt8) (e : Ending) (w' : World) : Prop :=
  ∃ D k cD xs, e = .returned (.slice D k cD) ∧ Rd w' D (vC xs) ∧ xs.length = k ∧ k ≤ 8 ∧ k ≤ cD ∧ Cur w' g A n c bs ∧ w.grownBy w' (some g) ∧ ∀ b, ob D = some b → b ≠ g ∧ w.heap.size ≤ b
theorem own_capD {w : World} {base e n c size : Nat} {A : Option Addr} {xs : List Value} (h : w.ownsRow base e size (.slice A n c) n xs) : n ≤ c := by
  rcases h.2 with ⟨hv, hn⟩ | ⟨g, cap, cur, hv, hb, hg, hnc, _⟩
  · omega
  · injection hv with h1 h2 h3
    omega
theorem own_someD {w : World} {base e n c size : Nat} {A : Option Addr} {xs : List Value} (h : w.ownsRow base e size (.slice A n c) n xs) (hn : 1 ≤ n) : ∃ g, A = some ⟨g, 0, none⟩ ∧ base ≤ g ∧ g < w.heap.size := by
  rcases h.2 with ⟨hv, h0⟩ | ⟨g, cap, cur, hv, hb, hg, hnc, _⟩
  · omega
  · injection hv with h1 h2 h3
    exact ⟨g, h1, hb, (Array.getElem?_eq_some_iff.1 hg).1⟩
theorem rd_tail {w : World} {g c : Nat} {xs : List C} (h : Rd w (some ⟨g, 0, none⟩) (vC xs)) (hl : xs.length ≤ c) (h1 : ¬c = 1) : Rd w (some ⟨g, 0 + 2, none⟩) (vC (xs.drop 1)) := by
  have h2 := Rd.drop h 2 (2 * c) (by rw [vC_length]; omega)
  rw [if_neg (by omega)] at h2
  have e2 : (some ⟨g, 0, none⟩ : Option Addr).map (·.add 2) = some ⟨g, 0 + 2, none⟩ := by simp only [Option.map_some]; unfold Addr.add; split <;> simp_all
  rw [e2] at h2
  cases xs with
  | nil => exact h2
  | cons x xs => exact h2
/-- One of a list's numbers was drawn. -/
def RetPick (w : World) (g : Nat) (A : Option Addr) (n c : Nat) (bs : List UInt8) (l : List Int) (e : Ending) (w' : World) : Prop :=
  ∃ v, e = .returned (.int .i64 v) ∧ v ∈ l ∧ Cur w' g A n c bs ∧ w.grownBy w' (some g)
set_option maxRecDepth 100000 in
theorem l1PickInt_s (A B : Option Addr) (n c g m d : Nat) (l : List Int) (bs : List UInt8) (w : World) (hc : Cur w g A n c bs) (hn : n ≤ 1048576) (hr : Rd w B (vI l)) (hl : l.length = m) (hm : 1 ≤ m) (hm2 : m ≤ 256) (hB : ∀ b, ob B = some b → b ≠ g) :
    Calls Tryz.prog 144 #[.pointer (some ⟨g, 0, none⟩), .slice B m d] w (RetPick w g A n c bs l) := by
  have HC := Lib.hid hc
  have HR := Lib.hid hr
  have HL := Lib.hid hl
  clear hc hr hl
  go_enter Tryz.func144, Tryz.ntmps144
  go_wp2_with fail
  refine (l1Below_s A n c g m bs w HC.out hn hm hm2).mono ?_
  rintro e w2 ⟨q, rfl, hq, hc2, hg2⟩
  have hr2 := HR.out.grown hg2 (fun b e r => hB b e (Option.some.inj r))
  obtain ⟨g1, o1, rfl, hg1, hx⟩ := RdI.at_ hr2 (show q < l.length by rw [HL.out]; exact hq)
  have HM := Lib.hid (List.getElem_mem (show q < l.length by rw [HL.out]; exact hq))
  obtain ⟨v, hv⟩ : ∃ v, l[q]'(by rw [HL.out]; exact hq) = v := ⟨_, rfl⟩
  rw [hv] at hx HM
  have hq0 : (0 : Int) ≤ (q : Int) := by omega
  have hq1 : (q : Int) < (m : Int) := by omega
  have HC2 := Lib.hid hc2
  have HG2 := Lib.hid hg2
  clear hc2 hg2 hr2 hv hq
  go_wp2_with fail
  go_ret
  exact ⟨v, rfl, HM.out, HC2.out, HG2.out⟩
set_option maxRecDepth 100000 in
set_option maxHeartbeats 1600000 in
theorem l2Any_s (A : Option Addr) (n c g : Nat) (bs : List UInt8) (w : World) (hc : Cur w g A n c bs) (hn : n ≤ 1048576) :
    Calls Tryz.prog 95 #[.pointer (some ⟨g, 0, none⟩)] w (RetAny w g A n c bs) := by
  have hgl : g < w.heap.size := by obtain ⟨i, x, hi, hB⟩ := hc.blk; exact hB.lt
  have hAb : 0 < n → ∀ b, ob A = some b → b < w.heap.size := fun h0 b e => by
    obtain ⟨gb, off, hA, hgb, _⟩ := RdB.at_ hc.rd (show 0 < bs.length by rw [hc.len]; exact h0)
    subst hA
    simp only [ob, Option.map_some, Option.some.injEq] at e
    omega
  have HC := Lib.hid hc
  have HAB := Lib.hid hAb
  clear hc hAb
  go_enter Tryz.func95, Tryz.ntmps95
  go_wp2_with fail
  refine (l2Shape_s A n c g bs w HC.out hn).mono ?_
  rintro e w1 ⟨D, k, cD, xs, rfl, hO, hk1, hk7, hc1, hg1⟩
  have HO1 := Lib.hid hO
  have HC1 := Lib.hid hc1
  have HG1 := Lib.hid hg1
  have hxl : xs.length = k := by have := own_len hO; rw [vC_length] at this; omega
  have HXL := Lib.hid hxl
  have hcap := own_capD hO
  clear hO hc1 hg1 hxl
  go_wp2_with fail
  refine (l1Below_s A n c g 12 bs w1 HC1.out hn (by omega) (by omega)).mono ?_
  rintro e w2 ⟨q, rfl, hq, hc2, hg2⟩
  have hDg : ∀ b, ob D = some b → b ≠ g := fun b e => by have := (own_lt HO1.out b e).1; omega
  have HDG := Lib.hid hDg
  have HO2 := Lib.hid (own_keptD HO1.out hg2 (fun b e r => hDg b e (by injection r with r; exact r.symm)))
  have HC2 := Lib.hid hc2
  have HG2 := Lib.hid (grown_trans HG1.out hg2)
  have hsz2 : w.heap.size ≤ w2.heap.size := HG2.out.size
  clear hc2 hg2 HO1 HC1 HG1 hDg
  by_cases h0 : q = 0
  · have e0 : ((q : Int) == 0) = true := by simp [h0]
    clear h0 hq
    go_wp2_with fail
    refine (l1Below_s A n c g 9 bs w2 HC2.out hn (by omega) (by omega)).mono ?_
    rintro e w3 ⟨q1, rfl, hq1, hc3, hg3⟩
    have HC3 := Lib.hid hc3
    have HG3 := Lib.hid (grown_trans HG2.out hg3)
    have HO3 := Lib.hid (own_keptD HO2.out hg3 (fun b e r => HDG.out b e (by injection r with r; exact r.symm)))
    have w1' : IntKind.i64.wrap ((q1 : Int) - 1) = (q1 : Int) - 1 := Go.IntWalk.i64_in _ (by omega)
    clear hc3 hg3
    go_wp2_with fail
    refine (l1Below_s A n c g 9 bs w3 HC3.out hn (by omega) (by omega)).mono ?_
    rintro e w4 ⟨q2, rfl, hq2, hc4, hg4⟩
    have HC4 := Lib.hid hc4
    have HG4 := Lib.hid (grown_trans HG3.out hg4)
    have HO4 := Lib.hid (own_keptD HO3.out hg4 (fun b e r => HDG.out b e (by injection r with r; exact r.symm)))
    have hsz4 : w.heap.size ≤ w4.heap.size := HG4.out.size
    clear hc4 hg4
    go_wp2_with (at_builtin; go_must (refine app_C _ rfl _ _ rfl w.heap.size _ _ _ xs rfl (HO4.out.alloc _) _ _ _ [((q1 : Int) - 1, (q2 : Int))] rfl (rd_newC _ _ _ _) rfl (by omega) (by simp; omega) ?_); intro D6 c6 w8 ho6 hg6 hat6; have HO8 := Lib.hid ho6; have HG8 := Lib.hid hg6; clear ho6 hg6 hat6)
    go_ret
    have hlt : ∀ b, ob D = some b → w.heap.size ≤ b := fun b e => (own_lt HO4.out b e).1
    have hfr : FrG w.heap.size g w w8 := (((FrG.refl _ g w).draw HG4.out (Nat.le_refl _)).below (bel_alloc (Below.refl _ _) _) hsz4).row HG8.out (by simp; omega) hlt
    have hc8 : Cur w8 g A n c bs := (HC4.out.below (bel_alloc (Below.refl _ _) _)).row HG8.out (fun b e => HDG.out b e) (fun h0 b e r => by have h1 := hlt b e; have h2 := HAB.out h0 b r; omega)
    exact ⟨D6, k + 1, c6, _, rfl, Rd.of_own HO8.out, by have := HXL.out; simp; omega, by omega, own_capD HO8.out, hc8, hfr.grown, fun b e => by have := (own_lt HO8.out b e).1; omega⟩
  · have e0 : ((q : Int) == 0) = false := by simp only [beq_eq_false_iff_ne]; omega
    by_cases h1 : q = 1
    · have e1 : ((q : Int) == 1) = true := by simp [h1]
      clear h0 h1 hq
      go_wp2_with fail
      refine (l1Below_s A n c g 8 bs w2 HC2.out hn (by omega) (by omega)).mono ?_
      rintro e w3 ⟨q1, rfl, hq1, hc3, hg3⟩
      have HC3 := Lib.hid hc3
      have HG3 := Lib.hid (grown_trans HG2.out hg3)
      have HO3 := Lib.hid (own_keptD HO2.out hg3 (fun b e r => HDG.out b e (by injection r with r; exact r.symm)))
      clear hc3 hg3
      go_wp2_with fail
      refine (l1Below_s A n c g 8 bs w3 HC3.out hn (by omega) (by omega)).mono ?_
      rintro e w4 ⟨q2, rfl, hq2, hc4, hg4⟩
      have HC4 := Lib.hid hc4
      have HG4 := Lib.hid (grown_trans HG3.out hg4)
      have HO4 := Lib.hid (own_keptD HO3.out hg4 (fun b e r => HDG.out b e (by injection r with r; exact r.symm)))
      have hsz4 : w.heap.size ≤ w4.heap.size := HG4.out.size
      clear hc4 hg4
      go_wp2_with (at_builtin; go_must (refine app_C _ rfl _ _ rfl w.heap.size _ _ _ xs rfl (HO4.out.alloc _) _ _ _ [((q1 : Int), (q2 : Int))] rfl (rd_newC _ _ _ _) rfl (by omega) (by simp; omega) ?_); intro D6 c6 w8 ho6 hg6 hat6; have HO8 := Lib.hid ho6; have HG8 := Lib.hid hg6; clear ho6 hg6 hat6)
      have hlt : ∀ b, ob D = some b → w.heap.size ≤ b := fun b e => (own_lt HO4.out b e).1
      have HFR := Lib.hid ((((FrG.refl _ g w).draw HG4.out (Nat.le_refl _)).below (bel_alloc (Below.refl _ _) _) hsz4).row HG8.out (by simp; omega) hlt)
      have HC8 := Lib.hid (Cur.row (HC4.out.below (bel_alloc (Below.refl _ _) _)) HG8.out (fun b e => HDG.out b e) (fun h0 b e r => by have h1 := hlt b e; have h2 := HAB.out h0 b r; omega))
      have hsz8 : w.heap.size ≤ w8.heap.size := HFR.out.size
      refine (SortCells_s D6 (k + 1) c6 (xs ++ [((q1 : Int), (q2 : Int))]) w8 (Rd.of_own HO8.out) (by have := HXL.out; simp; omega) (by omega)).mono ?_
      rintro e w9 ⟨D9, k9, c9, rfl, ho9, hb9⟩
      have hl9 := own_len ho9
      have hx9 : (sortC (xs ++ [((q1 : Int), (q2 : Int))])).length ≤ k + 1 := by have h1 := sortC_len (xs ++ [((q1 : Int), (q2 : Int))]); have := HXL.out; simp at h1; omega
      rw [vC_length] at hl9
      have HO9 := Lib.hid ho9
      have HB9 := Lib.hid hb9
      have HX9 := Lib.hid hx9
      clear ho9 hb9 hx9
      go_wp2_with fail
      go_ret
      exact ⟨D9, k9, c9, _, rfl, Rd.of_own HO9.out, by omega, by have := HX9.out; omega, own_capD HO9.out, HC8.out.below HB9.out, (HFR.out.below HB9.out hsz8).grown, fun b e => by have := (own_lt HO9.out b e).1; omega⟩
    · have e1 : ((q : Int) == 1) = false := by simp only [beq_eq_false_iff_ne]; omega
      by_cases h2 : q = 2
      · have e2 : ((q : Int) == 2) = true := by simp [h2]
        clear h0 h1 h2 hq
        obtain ⟨gD, hD, hgD, hgl2⟩ := own_someD HO2.out hk1
        subst hD
        go_wp2_with fail
        · have e1 : k = 1 := by omega
          go_ret
          exact ⟨_, k - 1, _, [], rfl, .inl rfl, by rw [e1]; rfl, by omega, by omega, HC2.out, HG2.out, fun b e => by simp only [ob, Option.map_some, Option.some.injEq] at e; omega⟩
        · go_ret
          exact ⟨_, k - 1, cD - 1, xs.drop 1, rfl, rd_tail (Rd.of_own HO2.out) (by rw [HXL.out]; exact hcap) h, by rw [List.length_drop, HXL.out], by omega, by omega, HC2.out, HG2.out, fun b e => by simp only [ob, Option.map_some, Option.some.injEq] at e; omega⟩
      · have e2 : ((q : Int) == 2) = false := by simp only [beq_eq_false_iff_ne]; omega
        by_cases h3 : q = 3
        · have e3 : ((q : Int) == 3) = true := by simp [h3]
          clear h0 h1 h2 h3 hq
          obtain ⟨gD, hD, hgD, hgl2⟩ := own_someD HO2.out hk1
          subst hD
          go_wp2_with fail
          refine (l1PickInt_s A (some ⟨w2.heap.size, 0, none⟩) n c g 3 3 [-1, 8, 9223372036854775807] bs _ (HC2.out.below (bel_alloc (Below.refl _ _) _)) hn (rd_new w2 3 _) rfl (by omega) (by omega) (fun b e => by simp only [ob, Option.map_some, Option.some.injEq] at e; omega)).mono ?_
          rintro e w3 ⟨v, rfl, hv, hc3, hg3⟩
          have HC3 := Lib.hid hc3
          have HFR3 := Lib.hid (((FrG.refl w.heap.size g w).draw HG2.out (Nat.le_refl _)).below (bel_alloc (Below.refl _ _) (.cells #[.int .i64 (-1), .int .i64 8, .int .i64 9223372036854775807] 3)) hsz2)
          have HO3 := Lib.hid (own_keptD (own_keep HO2.out (bel_alloc (Below.refl _ _) (.cells #[.int .i64 (-1), .int .i64 8, .int .i64 9223372036854775807] 3))) hg3 (fun b e r => HDG.out b e (by injection r with r; exact r.symm)))
          have HFR4 := Lib.hid (HFR3.out.draw hg3 (by simp; omega))
          have hbx : w3.frozen? ⟨gD, 0, none⟩ = false := HO3.out.frozenAt 0
          obtain ⟨u, hbc⟩ : ∃ u, w3.cell? ⟨gD, 0, none⟩ = some u := by
            obtain ⟨g1, o1, e1, _, a1, a2⟩ := RdC.at_ (Rd.of_own HO3.out) (show 0 < xs.length by rw [HXL.out]; omega)
            simp only [Option.some.injEq, Addr.mk.injEq, and_true] at e1
            obtain ⟨rfl, rfl⟩ := e1
            exact ⟨_, a1⟩
          clear hc3 hg3
          go_wp2_with fail
          have hst := (HO3.out.stored 0 (.int .i64 v)).1
          have hk := grown_set (World.grownBy.refl w3 (some gD)) (p := ⟨gD, 0, none⟩) rfl (.int .i64 v)
          have hsz3 : w.heap.size ≤ w3.heap.size := HFR4.out.size
          have hc4 : Cur (w3.setCell ⟨gD, 0, none⟩ (.int .i64 v)) g A n c bs := HC3.out.row hk (fun b e => by have := HDG.out gD rfl; injection e with e; omega) (fun h0 b e r => by have h2 := HAB.out h0 b r; injection e with e; omega)
          have hf4 := (HFR4.out.row hk hsz3 (fun b e => by injection e with e; omega)).grown
          obtain ⟨x, ys, rfl⟩ : ∃ x ys, xs = x :: ys := by
            cases xs with
            | nil => have := HXL.out; simp at this; omega
            | cons x ys => exact ⟨x, ys, rfl⟩
          go_ret
          exact ⟨_, k, cD, (v, x.2) :: ys, rfl, Rd.of_own hst, by rw [← HXL.out]; rfl, by omega, hcap, hc4, hf4, fun b e => by simp only [ob, Option.map_some, Option.some.injEq] at e; omega⟩
        · have e3 : ((q : Int) == 3) = false := by simp only [beq_eq_false_iff_ne]; omega
          clear h0 h1 h2 h3 hq
          go_wp2_with fail
          go_ret
          exact ⟨D, k, cD, _, rfl, Rd.of_own HO2.out, HXL.out, by omega, hcap, HC2.out, HG2.out, fun b e => ⟨HDG.out b e, (own_lt HO2.out b e).1⟩⟩
end Go.Proofs.YtkcgdnnipohehaaGreatDoor

/- The order of cells and shapes: walks of the reference. -/
namespace Go.Proofs.YtkcgdnnipohehaaGreatDoor
open Go.RowKit
set_option linter.unusedVariables false
attribute [local go_sem ↓] Go.wp_at_zero Go.wp_at_succ

theorem onB_split (x y : Int) : onB (x, y) = ((decide (0 ≤ x) && decide (x ≤ 7)) && (decide (0 ≤ y) && decide (y ≤ 7))) := rfl
set_option maxHeartbeats 1600000 in
theorem IsShape_s (A : Option Addr) (n c : Nat) (xs : List C) (w : World) (hr : Rd w A (vC xs)) (hl : xs.length = n) (hn : n ≤ 1099511627776) :
    Calls Tryz.prog 91 #[.slice A n c] w (Ret w (.bool (isShape xs))) := by
  have HL := Lib.hid hl
  clear hl
  go_enter Tryz.func91, Tryz.ntmps91
  go_wp2
  go_loopw [3] (fun i wr => ∃ k : Nat, k ≤ n ∧ i = .int .i64 k ∧ shapeTo xs k = true ∧ Below w.heap.size w wr) (fun i _ => n - (intOf i).toNat)
  case atStart => exact ⟨0, Nat.zero_le _, rfl, rfl, Below.refl _ _⟩
  case round =>
    obtain ⟨k, hk, rfl, hgo, hb⟩ := hrel
    by_cases hlt : k < n
    · have hkx : k < xs.length := by rw [HL.out]; omega
      obtain ⟨g, off, rfl, hgw, c1, c2⟩ := RdC.at_ (hr.below hb) hkx
      have hs := shapeTo_succ xs k hkx
      have hno := isShape_no xs k hkx
      obtain ⟨⟨x, y⟩, hx⟩ : ∃ p, xs[k] = p := ⟨_, rfl⟩
      rw [hx] at c1 c2 hs hno
      have hi0 : (0 : Int) ≤ (k : Int) := by omega
      have hi1 : (k : Int) < (n : Int) := by omega
      have HS := Lib.hid hs
      have HNO := Lib.hid hno
      have HG := Lib.hid hgo
      have hrw := hr.below hb
      clear hs hno hgo hx
      go_upto_region 4 with fail
      go_cut [42] (fun s wx => s = .bool (!shapeAt xs k (x, y)) ∧ Below wr.heap.size wr wx)
      case first =>
        cases hbx : (decide (0 ≤ x) && decide (x ≤ 7)) with
        | false =>
          have HV : Hid (shapeAt xs k (x, y) = false) := by unfold Hid shapeAt; rw [onB_split, hbx]; rfl
          have HX := Lib.hid hbx.symm
          clear hbx
          refine wp_region_noPanic ?_
          refine wp_region_held_drew (S := (fun w' => w'.cell? ⟨g, off + k * 2, none⟩ = some (.int .i64 x) ∧ w'.cell? ⟨g, off + k * 2 + 1, none⟩ = some (.int .i64 y))) (by kernel_rfl) ?_ (fun hS => ?_)
          · ((go_split_ands; (try dsimp only); (repeat' (with_reducible apply And.intro)) <;> (repeat (first | with_reducible assumption | with_reducible apply keep_alloc | with_reducible apply keep_drew | with_reducible refine keep_below hb1 ?_ | ((with_reducible refine keep_set ?_ ?_); rotate_left; (simp <;> omega))))))
          refine wpT (i := 0) (v := ?_) rfl rfl (by kernel_rfl) (by kernel_rfl) (by kernel_rfl) (fun _ _ _ h => h) (Or.inl ⟨by rfl, ?_⟩) hS ?_
          rotate_left
          · (intro w hSw; (try dsimp only at hSw); go_simp; first | done | with_reducible rfl)
          simp only [List.setIfInBounds_toArray, List.set_cons_zero, List.set_cons_succ]
          refine wpT (i := 1) (v := ?_) rfl rfl (by kernel_rfl) (by kernel_rfl) (by kernel_rfl) (fun _ _ _ h => h) (Or.inl ⟨by rfl, ?_⟩) hS ?_
          rotate_left
          · (intro w hSw; (try dsimp only at hSw); go_simp; first | done | with_reducible rfl)
          simp only [List.setIfInBounds_toArray, List.set_cons_zero, List.set_cons_succ]
          refine wpT (i := 2) (v := ?_) rfl rfl (by kernel_rfl) (by kernel_rfl) (by kernel_rfl) (fun _ _ _ h => h) (Or.inl ⟨by rfl, ?_⟩) hS ?_
          rotate_left
          · (intro w hSw; (try dsimp only at hSw); go_simp; first | done | with_reducible rfl)
          simp only [List.setIfInBounds_toArray, List.set_cons_zero, List.set_cons_succ]
          refine wpT (i := 3) (v := ?_) rfl rfl (by kernel_rfl) (by kernel_rfl) (by kernel_rfl) (fun _ _ _ h => h) (Or.inl ⟨by rfl, ?_⟩) hS ?_
          rotate_left
          · (intro w hSw; (try dsimp only at hSw); go_simp; first | done | with_reducible rfl)
          simp only [List.setIfInBounds_toArray, List.set_cons_zero, List.set_cons_succ]
          refine wpT (i := 4) (v := ?_) rfl rfl (by kernel_rfl) (by kernel_rfl) (by kernel_rfl) (fun _ _ _ h => h) (Or.inl ⟨by rfl, ?_⟩) hS ?_
          rotate_left
          · (intro w hSw; (try dsimp only at hSw); go_simp; first | done | with_reducible rfl)
          simp only [List.setIfInBounds_toArray, List.set_cons_zero, List.set_cons_succ]
          refine wpAnyH_ready (rs := [5]) (by kernel_rfl) (by simp) ?_
          refine AllReadyH.cons rfl (fun K hK => ?_) AllReadyH.nil
          go_simp
          (go_at_call 83; refine (l1In_b _ _ _ _ _ HX.out).mono ?_; rintro e w1 ⟨rfl, hb1⟩)
          try go_wp2_with fail
          refine hK.out _ _ ?_ (fun hS2 => ?_)
          · (clear hK K; ((go_split_ands; (try dsimp only); (repeat' (with_reducible apply And.intro)) <;> (repeat (first | with_reducible assumption | with_reducible apply keep_alloc | with_reducible apply keep_drew | with_reducible refine keep_below hb1 ?_ | ((with_reducible refine keep_set ?_ ?_); rotate_left; (simp <;> omega)))))))
          clear hS hK K
          have hS := hS2
          clear hS2
          refine wpT (i := 6) (v := ?_) rfl rfl (by kernel_rfl) (by kernel_rfl) (by kernel_rfl) (fun _ _ _ h => h) (Or.inl ⟨by rfl, ?_⟩) hS ?_
          rotate_left
          · (intro w hSw; (try dsimp only at hSw); go_simp; first | done | with_reducible rfl)
          simp only [List.setIfInBounds_toArray, List.set_cons_zero, List.set_cons_succ]
          refine wpT (i := 7) (v := ?_) rfl rfl (by kernel_rfl) (by kernel_rfl) (by kernel_rfl) (fun _ _ _ h => h) (Or.inl ⟨by rfl, ?_⟩) hS ?_
          rotate_left
          · (intro w hSw; (try dsimp only at hSw); go_simp; first | done | with_reducible rfl)
          simp only [List.setIfInBounds_toArray, List.set_cons_zero, List.set_cons_succ]
          refine wpT (i := 8) (v := undef) rfl rfl (by kernel_rfl) (by kernel_rfl) (by kernel_rfl) (fun _ _ _ h => h) (Or.inr ⟨by rfl, rfl⟩) hS ?_
          simp only [List.setIfInBounds_toArray, List.set_cons_zero, List.set_cons_succ]
          refine wpT (i := 9) (v := undef) rfl rfl (by kernel_rfl) (by kernel_rfl) (by kernel_rfl) (fun _ _ _ h => h) (Or.inr ⟨by rfl, rfl⟩) hS ?_
          simp only [List.setIfInBounds_toArray, List.set_cons_zero, List.set_cons_succ]
          refine wpT (i := 10) (v := undef) rfl rfl (by kernel_rfl) (by kernel_rfl) (by kernel_rfl) (fun _ _ _ h => h) (Or.inr ⟨by rfl, rfl⟩) hS ?_
          simp only [List.setIfInBounds_toArray, List.set_cons_zero, List.set_cons_succ]
          refine wpT (i := 11) (v := undef) rfl rfl (by kernel_rfl) (by kernel_rfl) (by kernel_rfl) (fun _ _ _ h => h) (Or.inr ⟨by rfl, rfl⟩) hS ?_
          simp only [List.setIfInBounds_toArray, List.set_cons_zero, List.set_cons_succ]
          refine wpT (i := 12) (v := undef) rfl rfl (by kernel_rfl) (by kernel_rfl) (by kernel_rfl) (fun _ _ _ h => h) (Or.inr ⟨by rfl, rfl⟩) hS ?_
          simp only [List.setIfInBounds_toArray, List.set_cons_zero, List.set_cons_succ]
          refine wpT (i := 13) (v := undef) rfl rfl (by kernel_rfl) (by kernel_rfl) (by kernel_rfl) (fun _ _ _ h => h) (Or.inr ⟨by rfl, rfl⟩) hS ?_
          simp only [List.setIfInBounds_toArray, List.set_cons_zero, List.set_cons_succ]
          refine wpT (i := 14) (v := undef) rfl rfl (by kernel_rfl) (by kernel_rfl) (by kernel_rfl) (fun _ _ _ h => h) (Or.inr ⟨by rfl, rfl⟩) hS ?_
          simp only [List.setIfInBounds_toArray, List.set_cons_zero, List.set_cons_succ]
          refine wpT (i := 15) (v := ?_) rfl rfl (by kernel_rfl) (by kernel_rfl) (by kernel_rfl) (fun _ _ _ h => h) (Or.inl ⟨by rfl, ?_⟩) hS ?_
          rotate_left
          · (intro w hSw; (try dsimp only at hSw); go_simp; first | done | with_reducible rfl)
          simp only [List.setIfInBounds_toArray, List.set_cons_zero, List.set_cons_succ]
          refine wpT (i := 16) (v := ?_) rfl rfl (by kernel_rfl) (by kernel_rfl) (by kernel_rfl) (fun _ _ _ h => h) (Or.inl ⟨by rfl, ?_⟩) hS ?_
          rotate_left
          · (intro w hSw; (try dsimp only at hSw); go_simp; first | done | with_reducible rfl)
          simp only [List.setIfInBounds_toArray, List.set_cons_zero, List.set_cons_succ]
          refine wpT (i := 17) (v := undef) rfl rfl (by kernel_rfl) (by kernel_rfl) (by kernel_rfl) (fun _ _ _ h => h) (Or.inr ⟨by rfl, rfl⟩) hS ?_
          simp only [List.setIfInBounds_toArray, List.set_cons_zero, List.set_cons_succ]
          refine wpT (i := 18) (v := undef) rfl rfl (by kernel_rfl) (by kernel_rfl) (by kernel_rfl) (fun _ _ _ h => h) (Or.inr ⟨by rfl, rfl⟩) hS ?_
          simp only [List.setIfInBounds_toArray, List.set_cons_zero, List.set_cons_succ]
          refine wpT (i := 19) (v := undef) rfl rfl (by kernel_rfl) (by kernel_rfl) (by kernel_rfl) (fun _ _ _ h => h) (Or.inr ⟨by rfl, rfl⟩) hS ?_
          simp only [List.setIfInBounds_toArray, List.set_cons_zero, List.set_cons_succ]
          refine wpT (i := 20) (v := undef) rfl rfl (by kernel_rfl) (by kernel_rfl) (by kernel_rfl) (fun _ _ _ h => h) (Or.inr ⟨by rfl, rfl⟩) hS ?_
          simp only [List.setIfInBounds_toArray, List.set_cons_zero, List.set_cons_succ]
          refine wpT (i := 21) (v := undef) rfl rfl (by kernel_rfl) (by kernel_rfl) (by kernel_rfl) (fun _ _ _ h => h) (Or.inr ⟨by rfl, rfl⟩) hS ?_
          simp only [List.setIfInBounds_toArray, List.set_cons_zero, List.set_cons_succ]
          refine wpT (i := 22) (v := undef) rfl rfl (by kernel_rfl) (by kernel_rfl) (by kernel_rfl) (fun _ _ _ h => h) (Or.inr ⟨by rfl, rfl⟩) hS ?_
          simp only [List.setIfInBounds_toArray, List.set_cons_zero, List.set_cons_succ]
          refine wpT (i := 23) (v := undef) rfl rfl (by kernel_rfl) (by kernel_rfl) (by kernel_rfl) (fun _ _ _ h => h) (Or.inr ⟨by rfl, rfl⟩) hS ?_
          simp only [List.setIfInBounds_toArray, List.set_cons_zero, List.set_cons_succ]
          refine wpT (i := 24) (v := undef) rfl rfl (by kernel_rfl) (by kernel_rfl) (by kernel_rfl) (fun _ _ _ h => h) (Or.inr ⟨by rfl, rfl⟩) hS ?_
          simp only [List.setIfInBounds_toArray, List.set_cons_zero, List.set_cons_succ]
          refine wpT (i := 25) (v := undef) rfl rfl (by kernel_rfl) (by kernel_rfl) (by kernel_rfl) (fun _ _ _ h => h) (Or.inr ⟨by rfl, rfl⟩) hS ?_
          simp only [List.setIfInBounds_toArray, List.set_cons_zero, List.set_cons_succ]
          refine wpT (i := 26) (v := undef) rfl rfl (by kernel_rfl) (by kernel_rfl) (by kernel_rfl) (fun _ _ _ h => h) (Or.inr ⟨by rfl, rfl⟩) hS ?_
          simp only [List.setIfInBounds_toArray, List.set_cons_zero, List.set_cons_succ]
          refine wpT (i := 27) (v := undef) rfl rfl (by kernel_rfl) (by kernel_rfl) (by kernel_rfl) (fun _ _ _ h => h) (Or.inr ⟨by rfl, rfl⟩) hS ?_
          simp only [List.setIfInBounds_toArray, List.set_cons_zero, List.set_cons_succ]
          refine wpT (i := 28) (v := undef) rfl rfl (by kernel_rfl) (by kernel_rfl) (by kernel_rfl) (fun _ _ _ h => h) (Or.inr ⟨by rfl, rfl⟩) hS ?_
          simp only [List.setIfInBounds_toArray, List.set_cons_zero, List.set_cons_succ]
          refine wpT (i := 29) (v := undef) rfl rfl (by kernel_rfl) (by kernel_rfl) (by kernel_rfl) (fun _ _ _ h => h) (Or.inr ⟨by rfl, rfl⟩) hS ?_
          simp only [List.setIfInBounds_toArray, List.set_cons_zero, List.set_cons_succ]
          refine wpT (i := 30) (v := undef) rfl rfl (by kernel_rfl) (by kernel_rfl) (by kernel_rfl) (fun _ _ _ h => h) (Or.inr ⟨by rfl, rfl⟩) hS ?_
          simp only [List.setIfInBounds_toArray, List.set_cons_zero, List.set_cons_succ]
          refine wpT (i := 31) (v := undef) rfl rfl (by kernel_rfl) (by kernel_rfl) (by kernel_rfl) (fun _ _ _ h => h) (Or.inr ⟨by rfl, rfl⟩) hS ?_
          simp only [List.setIfInBounds_toArray, List.set_cons_zero, List.set_cons_succ]
          refine wpT (i := 32) (v := ?_) rfl rfl (by kernel_rfl) (by kernel_rfl) (by kernel_rfl) (fun _ _ _ h => h) (Or.inl ⟨by rfl, ?_⟩) hS ?_
          rotate_left
          · (intro w hSw; (try dsimp only at hSw); go_simp; first | done | with_reducible rfl)
          simp only [List.setIfInBounds_toArray, List.set_cons_zero, List.set_cons_succ]
          refine wpAnyH_done (by kernel_rfl) ?_ _
          refine NoPanic.normal ?_
          go_wp2_with fail
          go_meet
          exact ⟨by rw [HV.out]; rfl, (by (repeat (first | with_reducible exact Below.refl _ _ | with_reducible assumption | with_reducible apply bel_alloc | with_reducible apply bel_drew | with_reducible apply bel_drewN | ((with_reducible refine bel_set ?_ ?_); rotate_left; (simp <;> omega)) | (with_reducible refine bel_trans ?_ (by with_reducible assumption)))))⟩
        | true =>
          cases hby : (decide (0 ≤ y) && decide (y ≤ 7)) with
          | false =>
            have HV : Hid (shapeAt xs k (x, y) = false) := by unfold Hid shapeAt; rw [onB_split, hbx, hby]; rfl
            have HX := Lib.hid hbx.symm
            have HY := Lib.hid hby.symm
            clear hbx hby
            refine wp_region_noPanic ?_
            refine wp_region_held_drew (S := (fun w' => w'.cell? ⟨g, off + k * 2, none⟩ = some (.int .i64 x) ∧ w'.cell? ⟨g, off + k * 2 + 1, none⟩ = some (.int .i64 y))) (by kernel_rfl) ?_ (fun hS => ?_)
            · ((go_split_ands; (try dsimp only); (repeat' (with_reducible apply And.intro)) <;> (repeat (first | with_reducible assumption | with_reducible apply keep_alloc | with_reducible apply keep_drew | with_reducible refine keep_below hb1 ?_ | ((with_reducible refine keep_set ?_ ?_); rotate_left; (simp <;> omega))))))
            refine wpT (i := 0) (v := ?_) rfl rfl (by kernel_rfl) (by kernel_rfl) (by kernel_rfl) (fun _ _ _ h => h) (Or.inl ⟨by rfl, ?_⟩) hS ?_
            rotate_left
            · (intro w hSw; (try dsimp only at hSw); go_simp; first | done | with_reducible rfl)
            simp only [List.setIfInBounds_toArray, List.set_cons_zero, List.set_cons_succ]
            refine wpT (i := 1) (v := ?_) rfl rfl (by kernel_rfl) (by kernel_rfl) (by kernel_rfl) (fun _ _ _ h => h) (Or.inl ⟨by rfl, ?_⟩) hS ?_
            rotate_left
            · (intro w hSw; (try dsimp only at hSw); go_simp; first | done | with_reducible rfl)
            simp only [List.setIfInBounds_toArray, List.set_cons_zero, List.set_cons_succ]
            refine wpT (i := 2) (v := ?_) rfl rfl (by kernel_rfl) (by kernel_rfl) (by kernel_rfl) (fun _ _ _ h => h) (Or.inl ⟨by rfl, ?_⟩) hS ?_
            rotate_left
            · (intro w hSw; (try dsimp only at hSw); go_simp; first | done | with_reducible rfl)
            simp only [List.setIfInBounds_toArray, List.set_cons_zero, List.set_cons_succ]
            refine wpT (i := 3) (v := ?_) rfl rfl (by kernel_rfl) (by kernel_rfl) (by kernel_rfl) (fun _ _ _ h => h) (Or.inl ⟨by rfl, ?_⟩) hS ?_
            rotate_left
            · (intro w hSw; (try dsimp only at hSw); go_simp; first | done | with_reducible rfl)
            simp only [List.setIfInBounds_toArray, List.set_cons_zero, List.set_cons_succ]
            refine wpT (i := 4) (v := ?_) rfl rfl (by kernel_rfl) (by kernel_rfl) (by kernel_rfl) (fun _ _ _ h => h) (Or.inl ⟨by rfl, ?_⟩) hS ?_
            rotate_left
            · (intro w hSw; (try dsimp only at hSw); go_simp; first | done | with_reducible rfl)
            simp only [List.setIfInBounds_toArray, List.set_cons_zero, List.set_cons_succ]
            refine wpAnyH_ready (rs := [5]) (by kernel_rfl) (by simp) ?_
            refine AllReadyH.cons rfl (fun K hK => ?_) AllReadyH.nil
            go_simp
            (go_at_call 83; refine (l1In_b _ _ _ _ _ HX.out).mono ?_; rintro e w1 ⟨rfl, hb1⟩)
            try go_wp2_with fail
            refine hK.out _ _ ?_ (fun hS2 => ?_)
            · (clear hK K; ((go_split_ands; (try dsimp only); (repeat' (with_reducible apply And.intro)) <;> (repeat (first | with_reducible assumption | with_reducible apply keep_alloc | with_reducible apply keep_drew | with_reducible refine keep_below hb1 ?_ | ((with_reducible refine keep_set ?_ ?_); rotate_left; (simp <;> omega)))))))
            clear hS hK K
            have hS := hS2
            clear hS2
            refine wpT (i := 6) (v := ?_) rfl rfl (by kernel_rfl) (by kernel_rfl) (by kernel_rfl) (fun _ _ _ h => h) (Or.inl ⟨by rfl, ?_⟩) hS ?_
            rotate_left
            · (intro w hSw; (try dsimp only at hSw); go_simp; first | done | with_reducible rfl)
            simp only [List.setIfInBounds_toArray, List.set_cons_zero, List.set_cons_succ]
            refine wpT (i := 7) (v := ?_) rfl rfl (by kernel_rfl) (by kernel_rfl) (by kernel_rfl) (fun _ _ _ h => h) (Or.inl ⟨by rfl, ?_⟩) hS ?_
            rotate_left
            · (intro w hSw; (try dsimp only at hSw); go_simp; first | done | with_reducible rfl)
            simp only [List.setIfInBounds_toArray, List.set_cons_zero, List.set_cons_succ]
            refine wpT (i := 8) (v := ?_) rfl rfl (by kernel_rfl) (by kernel_rfl) (by kernel_rfl) (fun _ _ _ h => h) (Or.inl ⟨by rfl, ?_⟩) hS ?_
            rotate_left
            · (intro w hSw; (try dsimp only at hSw); go_simp; first | done | with_reducible rfl)
            simp only [List.setIfInBounds_toArray, List.set_cons_zero, List.set_cons_succ]
            refine wpT (i := 9) (v := ?_) rfl rfl (by kernel_rfl) (by kernel_rfl) (by kernel_rfl) (fun _ _ _ h => h) (Or.inl ⟨by rfl, ?_⟩) hS ?_
            rotate_left
            · (intro w hSw; (try dsimp only at hSw); go_simp; first | done | with_reducible rfl)
            simp only [List.setIfInBounds_toArray, List.set_cons_zero, List.set_cons_succ]
            refine wpT (i := 10) (v := ?_) rfl rfl (by kernel_rfl) (by kernel_rfl) (by kernel_rfl) (fun _ _ _ h => h) (Or.inl ⟨by rfl, ?_⟩) hS ?_
            rotate_left
            · (intro w hSw; (try dsimp only at hSw); go_simp; first | done | with_reducible rfl)
            simp only [List.setIfInBounds_toArray, List.set_cons_zero, List.set_cons_succ]
            refine wpT (i := 11) (v := ?_) rfl rfl (by kernel_rfl) (by kernel_rfl) (by kernel_rfl) (fun _ _ _ h => h) (Or.inl ⟨by rfl, ?_⟩) hS ?_
            rotate_left
            · (intro w hSw; (try dsimp only at hSw); go_simp; first | done | with_reducible rfl)
            simp only [List.setIfInBounds_toArray, List.set_cons_zero, List.set_cons_succ]
            refine wpT (i := 12) (v := ?_) rfl rfl (by kernel_rfl) (by kernel_rfl) (by kernel_rfl) (fun _ _ _ h => h) (Or.inl ⟨by rfl, ?_⟩) hS ?_
            rotate_left
            · (intro w hSw; (try dsimp only at hSw); go_simp; first | done | with_reducible rfl)
            simp only [List.setIfInBounds_toArray, List.set_cons_zero, List.set_cons_succ]
            refine wpAnyH_ready (rs := [13]) (by kernel_rfl) (by simp) ?_
            refine AllReadyH.cons rfl (fun K hK => ?_) AllReadyH.nil
            go_simp
            (go_at_call 83; refine (l1In_b _ _ _ _ _ HY.out).mono ?_; rintro e w2 ⟨rfl, hb2⟩)
            try go_wp2_with fail
            refine hK.out _ _ ?_ (fun hS2 => ?_)
            · (clear hK K; ((go_split_ands; (try dsimp only); (repeat' (with_reducible apply And.intro)) <;> (repeat (first | with_reducible assumption | with_reducible apply keep_alloc | with_reducible apply keep_drew | with_reducible refine keep_below hb2 ?_ | ((with_reducible refine keep_set ?_ ?_); rotate_left; (simp <;> omega)))))))
            clear hS hK K
            have hS := hS2
            clear hS2
            refine wpT (i := 14) (v := ?_) rfl rfl (by kernel_rfl) (by kernel_rfl) (by kernel_rfl) (fun _ _ _ h => h) (Or.inl ⟨by rfl, ?_⟩) hS ?_
            rotate_left
            · (intro w hSw; (try dsimp only at hSw); go_simp; first | done | with_reducible rfl)
            simp only [List.setIfInBounds_toArray, List.set_cons_zero, List.set_cons_succ]
            refine wpT (i := 15) (v := ?_) rfl rfl (by kernel_rfl) (by kernel_rfl) (by kernel_rfl) (fun _ _ _ h => h) (Or.inl ⟨by rfl, ?_⟩) hS ?_
            rotate_left
            · (intro w hSw; (try dsimp only at hSw); go_simp; first | done | with_reducible rfl)
            simp only [List.setIfInBounds_toArray, List.set_cons_zero, List.set_cons_succ]
            refine wpT (i := 16) (v := ?_) rfl rfl (by kernel_rfl) (by kernel_rfl) (by kernel_rfl) (fun _ _ _ h => h) (Or.inl ⟨by rfl, ?_⟩) hS ?_
            rotate_left
            · (intro w hSw; (try dsimp only at hSw); go_simp; first | done | with_reducible rfl)
            simp only [List.setIfInBounds_toArray, List.set_cons_zero, List.set_cons_succ]
            refine wpT (i := 17) (v := undef) rfl rfl (by kernel_rfl) (by kernel_rfl) (by kernel_rfl) (fun _ _ _ h => h) (Or.inr ⟨by rfl, rfl⟩) hS ?_
            simp only [List.setIfInBounds_toArray, List.set_cons_zero, List.set_cons_succ]
            refine wpT (i := 18) (v := undef) rfl rfl (by kernel_rfl) (by kernel_rfl) (by kernel_rfl) (fun _ _ _ h => h) (Or.inr ⟨by rfl, rfl⟩) hS ?_
            simp only [List.setIfInBounds_toArray, List.set_cons_zero, List.set_cons_succ]
            refine wpT (i := 19) (v := undef) rfl rfl (by kernel_rfl) (by kernel_rfl) (by kernel_rfl) (fun _ _ _ h => h) (Or.inr ⟨by rfl, rfl⟩) hS ?_
            simp only [List.setIfInBounds_toArray, List.set_cons_zero, List.set_cons_succ]
            refine wpT (i := 20) (v := undef) rfl rfl (by kernel_rfl) (by kernel_rfl) (by kernel_rfl) (fun _ _ _ h => h) (Or.inr ⟨by rfl, rfl⟩) hS ?_
            simp only [List.setIfInBounds_toArray, List.set_cons_zero, List.set_cons_succ]
            refine wpT (i := 21) (v := undef) rfl rfl (by kernel_rfl) (by kernel_rfl) (by kernel_rfl) (fun _ _ _ h => h) (Or.inr ⟨by rfl, rfl⟩) hS ?_
            simp only [List.setIfInBounds_toArray, List.set_cons_zero, List.set_cons_succ]
            refine wpT (i := 22) (v := undef) rfl rfl (by kernel_rfl) (by kernel_rfl) (by kernel_rfl) (fun _ _ _ h => h) (Or.inr ⟨by rfl, rfl⟩) hS ?_
            simp only [List.setIfInBounds_toArray, List.set_cons_zero, List.set_cons_succ]
            refine wpT (i := 23) (v := undef) rfl rfl (by kernel_rfl) (by kernel_rfl) (by kernel_rfl) (fun _ _ _ h => h) (Or.inr ⟨by rfl, rfl⟩) hS ?_
            simp only [List.setIfInBounds_toArray, List.set_cons_zero, List.set_cons_succ]
            refine wpT (i := 24) (v := undef) rfl rfl (by kernel_rfl) (by kernel_rfl) (by kernel_rfl) (fun _ _ _ h => h) (Or.inr ⟨by rfl, rfl⟩) hS ?_
            simp only [List.setIfInBounds_toArray, List.set_cons_zero, List.set_cons_succ]
            refine wpT (i := 25) (v := undef) rfl rfl (by kernel_rfl) (by kernel_rfl) (by kernel_rfl) (fun _ _ _ h => h) (Or.inr ⟨by rfl, rfl⟩) hS ?_
            simp only [List.setIfInBounds_toArray, List.set_cons_zero, List.set_cons_succ]
            refine wpT (i := 26) (v := undef) rfl rfl (by kernel_rfl) (by kernel_rfl) (by kernel_rfl) (fun _ _ _ h => h) (Or.inr ⟨by rfl, rfl⟩) hS ?_
            simp only [List.setIfInBounds_toArray, List.set_cons_zero, List.set_cons_succ]
            refine wpT (i := 27) (v := undef) rfl rfl (by kernel_rfl) (by kernel_rfl) (by kernel_rfl) (fun _ _ _ h => h) (Or.inr ⟨by rfl, rfl⟩) hS ?_
            simp only [List.setIfInBounds_toArray, List.set_cons_zero, List.set_cons_succ]
            refine wpT (i := 28) (v := undef) rfl rfl (by kernel_rfl) (by kernel_rfl) (by kernel_rfl) (fun _ _ _ h => h) (Or.inr ⟨by rfl, rfl⟩) hS ?_
            simp only [List.setIfInBounds_toArray, List.set_cons_zero, List.set_cons_succ]
            refine wpT (i := 29) (v := undef) rfl rfl (by kernel_rfl) (by kernel_rfl) (by kernel_rfl) (fun _ _ _ h => h) (Or.inr ⟨by rfl, rfl⟩) hS ?_
            simp only [List.setIfInBounds_toArray, List.set_cons_zero, List.set_cons_succ]
            refine wpT (i := 30) (v := undef) rfl rfl (by kernel_rfl) (by kernel_rfl) (by kernel_rfl) (fun _ _ _ h => h) (Or.inr ⟨by rfl, rfl⟩) hS ?_
            simp only [List.setIfInBounds_toArray, List.set_cons_zero, List.set_cons_succ]
            refine wpT (i := 31) (v := undef) rfl rfl (by kernel_rfl) (by kernel_rfl) (by kernel_rfl) (fun _ _ _ h => h) (Or.inr ⟨by rfl, rfl⟩) hS ?_
            simp only [List.setIfInBounds_toArray, List.set_cons_zero, List.set_cons_succ]
            refine wpT (i := 32) (v := ?_) rfl rfl (by kernel_rfl) (by kernel_rfl) (by kernel_rfl) (fun _ _ _ h => h) (Or.inl ⟨by rfl, ?_⟩) hS ?_
            rotate_left
            · (intro w hSw; (try dsimp only at hSw); go_simp; first | done | with_reducible rfl)
            simp only [List.setIfInBounds_toArray, List.set_cons_zero, List.set_cons_succ]
            refine wpAnyH_done (by kernel_rfl) ?_ _
            refine NoPanic.normal ?_
            go_wp2_with fail
            go_meet
            exact ⟨by rw [HV.out]; rfl, (by (repeat (first | with_reducible exact Below.refl _ _ | with_reducible assumption | with_reducible apply bel_alloc | with_reducible apply bel_drew | with_reducible apply bel_drewN | ((with_reducible refine bel_set ?_ ?_); rotate_left; (simp <;> omega)) | (with_reducible refine bel_trans ?_ (by with_reducible assumption)))))⟩
          | true =>
            have ho : onB (x, y) = true := by rw [onB_split, hbx, hby]; rfl
            have HX := Lib.hid hbx.symm
            have HY := Lib.hid hby.symm
            clear hbx hby
            by_cases hk0 : 0 < k
            · obtain ⟨j, hj⟩ : ∃ j, k = j + 1 := ⟨k - 1, by omega⟩
              have hkj : (k : Int) - 1 = (j : Int) := by omega
              have hj0 : (0 : Int) ≤ (j : Int) := by omega
              have hj1 : (j : Int) < (n : Int) := by omega
              have hjw : IntKind.i64.wrap (j : Int) = (j : Int) := IntWalk.i64_in _ (by omega)
              have hk2 : (0 : Int) < (k : Int) := by omega
              have hjx : j < xs.length := by omega
              have d1 : wr.cell? ⟨g, off + j * 2, none⟩ = some (.int .i64 xs[j].1) := by
                obtain ⟨g', off', e, _, h1, _⟩ := RdC.at_ hrw hjx
                simp only [Option.some.injEq, Addr.mk.injEq, and_true] at e
                obtain ⟨rfl, rfl⟩ := e
                exact h1
              have d2 : wr.cell? ⟨g, off + j * 2 + 1, none⟩ = some (.int .i64 xs[j].2) := by
                obtain ⟨g', off', e, _, _, h1⟩ := RdC.at_ hrw hjx
                simp only [Option.some.injEq, Addr.mk.injEq, and_true] at e
                obtain ⟨rfl, rfl⟩ := e
                exact h1
              obtain ⟨⟨x', y'⟩, hx'⟩ : ∃ p, xs[j] = p := ⟨_, rfl⟩
              rw [hx'] at d1 d2
              have HV : Hid (shapeAt xs k (x, y) = befC (x', y') (x, y)) := by
                unfold Hid shapeAt
                rw [ho, Bool.true_and, show (k == 0) = false from by simp; omega, Bool.false_or, show k - 1 = j from by omega, List.getD_eq_getElem?_getD, List.getElem?_eq_getElem hjx, hx']; rfl
              clear ho hx' hj
              refine wp_region_noPanic ?_
              refine wp_region_held_drew (S := (fun w' => w'.cell? ⟨g, off + k * 2, none⟩ = some (.int .i64 x) ∧ w'.cell? ⟨g, off + k * 2 + 1, none⟩ = some (.int .i64 y) ∧ w'.cell? ⟨g, off + j * 2, none⟩ = some (.int .i64 x') ∧ w'.cell? ⟨g, off + j * 2 + 1, none⟩ = some (.int .i64 y'))) (by kernel_rfl) ?_ (fun hS => ?_)
              · ((go_split_ands; (try dsimp only); (repeat' (with_reducible apply And.intro)) <;> (repeat (first | with_reducible assumption | with_reducible apply keep_alloc | with_reducible apply keep_drew | with_reducible refine keep_below hb1 ?_ | ((with_reducible refine keep_set ?_ ?_); rotate_left; (simp <;> omega))))))
              refine wpT (i := 0) (v := ?_) rfl rfl (by kernel_rfl) (by kernel_rfl) (by kernel_rfl) (fun _ _ _ h => h) (Or.inl ⟨by rfl, ?_⟩) hS ?_
              rotate_left
              · (intro w hSw; (try dsimp only at hSw); go_simp; first | done | with_reducible rfl)
              simp only [List.setIfInBounds_toArray, List.set_cons_zero, List.set_cons_succ]
              refine wpT (i := 1) (v := ?_) rfl rfl (by kernel_rfl) (by kernel_rfl) (by kernel_rfl) (fun _ _ _ h => h) (Or.inl ⟨by rfl, ?_⟩) hS ?_
              rotate_left
              · (intro w hSw; (try dsimp only at hSw); go_simp; first | done | with_reducible rfl)
              simp only [List.setIfInBounds_toArray, List.set_cons_zero, List.set_cons_succ]
              refine wpT (i := 2) (v := ?_) rfl rfl (by kernel_rfl) (by kernel_rfl) (by kernel_rfl) (fun _ _ _ h => h) (Or.inl ⟨by rfl, ?_⟩) hS ?_
              rotate_left
              · (intro w hSw; (try dsimp only at hSw); go_simp; first | done | with_reducible rfl)
              simp only [List.setIfInBounds_toArray, List.set_cons_zero, List.set_cons_succ]
              refine wpT (i := 3) (v := ?_) rfl rfl (by kernel_rfl) (by kernel_rfl) (by kernel_rfl) (fun _ _ _ h => h) (Or.inl ⟨by rfl, ?_⟩) hS ?_
              rotate_left
              · (intro w hSw; (try dsimp only at hSw); go_simp; first | done | with_reducible rfl)
              simp only [List.setIfInBounds_toArray, List.set_cons_zero, List.set_cons_succ]
              refine wpT (i := 4) (v := ?_) rfl rfl (by kernel_rfl) (by kernel_rfl) (by kernel_rfl) (fun _ _ _ h => h) (Or.inl ⟨by rfl, ?_⟩) hS ?_
              rotate_left
              · (intro w hSw; (try dsimp only at hSw); go_simp; first | done | with_reducible rfl)
              simp only [List.setIfInBounds_toArray, List.set_cons_zero, List.set_cons_succ]
              refine wpAnyH_ready (rs := [5]) (by kernel_rfl) (by simp) ?_
              refine AllReadyH.cons rfl (fun K hK => ?_) AllReadyH.nil
              go_simp
              (go_at_call 83; refine (l1In_b _ _ _ _ _ HX.out).mono ?_; rintro e w1 ⟨rfl, hb1⟩)
              try go_wp2_with fail
              refine hK.out _ _ ?_ (fun hS2 => ?_)
              · (clear hK K; ((go_split_ands; (try dsimp only); (repeat' (with_reducible apply And.intro)) <;> (repeat (first | with_reducible assumption | with_reducible apply keep_alloc | with_reducible apply keep_drew | with_reducible refine keep_below hb1 ?_ | ((with_reducible refine keep_set ?_ ?_); rotate_left; (simp <;> omega)))))))
              clear hS hK K
              have hS := hS2
              clear hS2
              refine wpT (i := 6) (v := ?_) rfl rfl (by kernel_rfl) (by kernel_rfl) (by kernel_rfl) (fun _ _ _ h => h) (Or.inl ⟨by rfl, ?_⟩) hS ?_
              rotate_left
              · (intro w hSw; (try dsimp only at hSw); go_simp; first | done | with_reducible rfl)
              simp only [List.setIfInBounds_toArray, List.set_cons_zero, List.set_cons_succ]
              refine wpT (i := 7) (v := ?_) rfl rfl (by kernel_rfl) (by kernel_rfl) (by kernel_rfl) (fun _ _ _ h => h) (Or.inl ⟨by rfl, ?_⟩) hS ?_
              rotate_left
              · (intro w hSw; (try dsimp only at hSw); go_simp; first | done | with_reducible rfl)
              simp only [List.setIfInBounds_toArray, List.set_cons_zero, List.set_cons_succ]
              refine wpT (i := 8) (v := ?_) rfl rfl (by kernel_rfl) (by kernel_rfl) (by kernel_rfl) (fun _ _ _ h => h) (Or.inl ⟨by rfl, ?_⟩) hS ?_
              rotate_left
              · (intro w hSw; (try dsimp only at hSw); go_simp; first | done | with_reducible rfl)
              simp only [List.setIfInBounds_toArray, List.set_cons_zero, List.set_cons_succ]
              refine wpT (i := 9) (v := ?_) rfl rfl (by kernel_rfl) (by kernel_rfl) (by kernel_rfl) (fun _ _ _ h => h) (Or.inl ⟨by rfl, ?_⟩) hS ?_
              rotate_left
              · (intro w hSw; (try dsimp only at hSw); go_simp; first | done | with_reducible rfl)
              simp only [List.setIfInBounds_toArray, List.set_cons_zero, List.set_cons_succ]
              refine wpT (i := 10) (v := ?_) rfl rfl (by kernel_rfl) (by kernel_rfl) (by kernel_rfl) (fun _ _ _ h => h) (Or.inl ⟨by rfl, ?_⟩) hS ?_
              rotate_left
              · (intro w hSw; (try dsimp only at hSw); go_simp; first | done | with_reducible rfl)
              simp only [List.setIfInBounds_toArray, List.set_cons_zero, List.set_cons_succ]
              refine wpT (i := 11) (v := ?_) rfl rfl (by kernel_rfl) (by kernel_rfl) (by kernel_rfl) (fun _ _ _ h => h) (Or.inl ⟨by rfl, ?_⟩) hS ?_
              rotate_left
              · (intro w hSw; (try dsimp only at hSw); go_simp; first | done | with_reducible rfl)
              simp only [List.setIfInBounds_toArray, List.set_cons_zero, List.set_cons_succ]
              refine wpT (i := 12) (v := ?_) rfl rfl (by kernel_rfl) (by kernel_rfl) (by kernel_rfl) (fun _ _ _ h => h) (Or.inl ⟨by rfl, ?_⟩) hS ?_
              rotate_left
              · (intro w hSw; (try dsimp only at hSw); go_simp; first | done | with_reducible rfl)
              simp only [List.setIfInBounds_toArray, List.set_cons_zero, List.set_cons_succ]
              refine wpAnyH_ready (rs := [13]) (by kernel_rfl) (by simp) ?_
              refine AllReadyH.cons rfl (fun K hK => ?_) AllReadyH.nil
              go_simp
              (go_at_call 83; refine (l1In_b _ _ _ _ _ HY.out).mono ?_; rintro e w2 ⟨rfl, hb2⟩)
              try go_wp2_with fail
              refine hK.out _ _ ?_ (fun hS2 => ?_)
              · (clear hK K; ((go_split_ands; (try dsimp only); (repeat' (with_reducible apply And.intro)) <;> (repeat (first | with_reducible assumption | with_reducible apply keep_alloc | with_reducible apply keep_drew | with_reducible refine keep_below hb2 ?_ | ((with_reducible refine keep_set ?_ ?_); rotate_left; (simp <;> omega)))))))
              clear hS hK K
              have hS := hS2
              clear hS2
              refine wpT (i := 14) (v := ?_) rfl rfl (by kernel_rfl) (by kernel_rfl) (by kernel_rfl) (fun _ _ _ h => h) (Or.inl ⟨by rfl, ?_⟩) hS ?_
              rotate_left
              · (intro w hSw; (try dsimp only at hSw); go_simp; first | done | with_reducible rfl)
              simp only [List.setIfInBounds_toArray, List.set_cons_zero, List.set_cons_succ]
              refine wpT (i := 15) (v := ?_) rfl rfl (by kernel_rfl) (by kernel_rfl) (by kernel_rfl) (fun _ _ _ h => h) (Or.inl ⟨by rfl, ?_⟩) hS ?_
              rotate_left
              · (intro w hSw; (try dsimp only at hSw); go_simp; first | done | with_reducible rfl)
              simp only [List.setIfInBounds_toArray, List.set_cons_zero, List.set_cons_succ]
              refine wpT (i := 16) (v := ?_) rfl rfl (by kernel_rfl) (by kernel_rfl) (by kernel_rfl) (fun _ _ _ h => h) (Or.inl ⟨by rfl, ?_⟩) hS ?_
              rotate_left
              · (intro w hSw; (try dsimp only at hSw); go_simp; first | done | with_reducible rfl)
              simp only [List.setIfInBounds_toArray, List.set_cons_zero, List.set_cons_succ]
              refine wpT (i := 17) (v := ?_) rfl rfl (by kernel_rfl) (by kernel_rfl) (by kernel_rfl) (fun _ _ _ h => h) (Or.inl ⟨by rfl, ?_⟩) hS ?_
              rotate_left
              · (intro w hSw; (try dsimp only at hSw); go_simp; first | done | with_reducible rfl)
              simp only [List.setIfInBounds_toArray, List.set_cons_zero, List.set_cons_succ]
              refine wpT (i := 18) (v := ?_) rfl rfl (by kernel_rfl) (by kernel_rfl) (by kernel_rfl) (fun _ _ _ h => h) (Or.inl ⟨by rfl, ?_⟩) hS ?_
              rotate_left
              · (intro w hSw; (try dsimp only at hSw); go_simp; first | done | with_reducible rfl)
              simp only [List.setIfInBounds_toArray, List.set_cons_zero, List.set_cons_succ]
              refine wpT (i := 19) (v := ?_) rfl rfl (by kernel_rfl) (by kernel_rfl) (by kernel_rfl) (fun _ _ _ h => h) (Or.inl ⟨by rfl, ?_⟩) hS ?_
              rotate_left
              · (intro w hSw; (try dsimp only at hSw); go_simp; first | done | with_reducible rfl)
              simp only [List.setIfInBounds_toArray, List.set_cons_zero, List.set_cons_succ]
              refine wpT (i := 20) (v := ?_) rfl rfl (by kernel_rfl) (by kernel_rfl) (by kernel_rfl) (fun _ _ _ h => h) (Or.inl ⟨by rfl, ?_⟩) hS ?_
              rotate_left
              · (intro w hSw; (try dsimp only at hSw); go_simp; first | done | with_reducible rfl)
              simp only [List.setIfInBounds_toArray, List.set_cons_zero, List.set_cons_succ]
              refine wpT (i := 21) (v := ?_) rfl rfl (by kernel_rfl) (by kernel_rfl) (by kernel_rfl) (fun _ _ _ h => h) (Or.inl ⟨by rfl, ?_⟩) hS ?_
              rotate_left
              · (intro w hSw; (try dsimp only at hSw); go_simp; first | done | with_reducible rfl)
              simp only [List.setIfInBounds_toArray, List.set_cons_zero, List.set_cons_succ]
              refine wpT (i := 22) (v := ?_) rfl rfl (by kernel_rfl) (by kernel_rfl) (by kernel_rfl) (fun _ _ _ h => h) (Or.inl ⟨by rfl, ?_⟩) hS ?_
              rotate_left
              · (intro w hSw; (try dsimp only at hSw); go_simp; first | done | with_reducible rfl)
              simp only [List.setIfInBounds_toArray, List.set_cons_zero, List.set_cons_succ]
              refine wpT (i := 23) (v := ?_) rfl rfl (by kernel_rfl) (by kernel_rfl) (by kernel_rfl) (fun _ _ _ h => h) (Or.inl ⟨by rfl, ?_⟩) hS ?_
              rotate_left
              · (intro w hSw; (try dsimp only at hSw); go_simp; first | done | with_reducible rfl)
              simp only [List.setIfInBounds_toArray, List.set_cons_zero, List.set_cons_succ]
              refine wpT (i := 24) (v := ?_) rfl rfl (by kernel_rfl) (by kernel_rfl) (by kernel_rfl) (fun _ _ _ h => h) (Or.inl ⟨by rfl, ?_⟩) hS ?_
              rotate_left
              · (intro w hSw; (try dsimp only at hSw); go_simp; first | done | with_reducible rfl)
              simp only [List.setIfInBounds_toArray, List.set_cons_zero, List.set_cons_succ]
              refine wpT (i := 25) (v := ?_) rfl rfl (by kernel_rfl) (by kernel_rfl) (by kernel_rfl) (fun _ _ _ h => h) (Or.inl ⟨by rfl, ?_⟩) hS ?_
              rotate_left
              · (intro w hSw; (try dsimp only at hSw); go_simp; first | done | with_reducible rfl)
              simp only [List.setIfInBounds_toArray, List.set_cons_zero, List.set_cons_succ]
              refine wpT (i := 26) (v := ?_) rfl rfl (by kernel_rfl) (by kernel_rfl) (by kernel_rfl) (fun _ _ _ h => h) (Or.inl ⟨by rfl, ?_⟩) hS ?_
              rotate_left
              · (intro w hSw; (try dsimp only at hSw); go_simp; first | done | with_reducible rfl)
              simp only [List.setIfInBounds_toArray, List.set_cons_zero, List.set_cons_succ]
              refine wpT (i := 27) (v := ?_) rfl rfl (by kernel_rfl) (by kernel_rfl) (by kernel_rfl) (fun _ _ _ h => h) (Or.inl ⟨by rfl, ?_⟩) hS ?_
              rotate_left
              · (intro w hSw; (try dsimp only at hSw); go_simp; first | done | with_reducible rfl)
              simp only [List.setIfInBounds_toArray, List.set_cons_zero, List.set_cons_succ]
              refine wpT (i := 28) (v := ?_) rfl rfl (by kernel_rfl) (by kernel_rfl) (by kernel_rfl) (fun _ _ _ h => h) (Or.inl ⟨by rfl, ?_⟩) hS ?_
              rotate_left
              · (intro w hSw; (try dsimp only at hSw); go_simp; first | done | with_reducible rfl)
              simp only [List.setIfInBounds_toArray, List.set_cons_zero, List.set_cons_succ]
              refine wpAnyH_ready (rs := [29]) (by kernel_rfl) (by simp) ?_
              refine AllReadyH.cons rfl (fun K hK => ?_) AllReadyH.nil
              go_simp
              (go_at_call 141; refine (l2Before_s _ _ _ _ _).mono ?_; rintro e w3 ⟨rfl, hb3⟩)
              try go_wp2_with fail
              refine hK.out _ _ ?_ (fun hS2 => ?_)
              · (clear hK K; ((go_split_ands; (try dsimp only); (repeat' (with_reducible apply And.intro)) <;> (repeat (first | with_reducible assumption | with_reducible apply keep_alloc | with_reducible apply keep_drew | with_reducible refine keep_below hb3 ?_ | ((with_reducible refine keep_set ?_ ?_); rotate_left; (simp <;> omega)))))))
              clear hS hK K
              have hS := hS2
              clear hS2
              refine wpT (i := 30) (v := ?_) rfl rfl (by kernel_rfl) (by kernel_rfl) (by kernel_rfl) (fun _ _ _ h => h) (Or.inl ⟨by rfl, ?_⟩) hS ?_
              rotate_left
              · (intro w hSw; (try dsimp only at hSw); go_simp; first | done | with_reducible rfl)
              simp only [List.setIfInBounds_toArray, List.set_cons_zero, List.set_cons_succ]
              refine wpT (i := 31) (v := ?_) rfl rfl (by kernel_rfl) (by kernel_rfl) (by kernel_rfl) (fun _ _ _ h => h) (Or.inl ⟨by rfl, ?_⟩) hS ?_
              rotate_left
              · (intro w hSw; (try dsimp only at hSw); go_simp; first | done | with_reducible rfl)
              simp only [List.setIfInBounds_toArray, List.set_cons_zero, List.set_cons_succ]
              refine wpT (i := 32) (v := ?_) rfl rfl (by kernel_rfl) (by kernel_rfl) (by kernel_rfl) (fun _ _ _ h => h) (Or.inl ⟨by rfl, ?_⟩) hS ?_
              rotate_left
              · (intro w hSw; (try dsimp only at hSw); go_simp; first | done | with_reducible rfl)
              simp only [List.setIfInBounds_toArray, List.set_cons_zero, List.set_cons_succ]
              refine wpAnyH_done (by kernel_rfl) ?_ _
              refine NoPanic.normal ?_
              go_wp2_with fail
              go_meet
              exact ⟨by rw [HV.out], (by (repeat (first | with_reducible exact Below.refl _ _ | with_reducible assumption | with_reducible apply bel_alloc | with_reducible apply bel_drew | with_reducible apply bel_drewN | ((with_reducible refine bel_set ?_ ?_); rotate_left; (simp <;> omega)) | (with_reducible refine bel_trans ?_ (by with_reducible assumption)))))⟩
            · have hk3 : k = 0 := by omega
              have HV : Hid (shapeAt xs k (x, y) = true) := by unfold Hid shapeAt; rw [ho, hk3]; rfl
              have hk2 : decide ((0 : Int) < (k : Int)) = false := by simp; omega
              have hk4 : ¬ (0 : Int) < (k : Int) := by omega
              clear ho hk3
              refine wp_region_noPanic ?_
              refine wp_region_held_drew (S := (fun w' => w'.cell? ⟨g, off + k * 2, none⟩ = some (.int .i64 x) ∧ w'.cell? ⟨g, off + k * 2 + 1, none⟩ = some (.int .i64 y))) (by kernel_rfl) ?_ (fun hS => ?_)
              · ((go_split_ands; (try dsimp only); (repeat' (with_reducible apply And.intro)) <;> (repeat (first | with_reducible assumption | with_reducible apply keep_alloc | with_reducible apply keep_drew | with_reducible refine keep_below hb1 ?_ | ((with_reducible refine keep_set ?_ ?_); rotate_left; (simp <;> omega))))))
              refine wpT (i := 0) (v := ?_) rfl rfl (by kernel_rfl) (by kernel_rfl) (by kernel_rfl) (fun _ _ _ h => h) (Or.inl ⟨by rfl, ?_⟩) hS ?_
              rotate_left
              · (intro w hSw; (try dsimp only at hSw); go_simp; first | done | with_reducible rfl)
              simp only [List.setIfInBounds_toArray, List.set_cons_zero, List.set_cons_succ]
              refine wpT (i := 1) (v := ?_) rfl rfl (by kernel_rfl) (by kernel_rfl) (by kernel_rfl) (fun _ _ _ h => h) (Or.inl ⟨by rfl, ?_⟩) hS ?_
              rotate_left
              · (intro w hSw; (try dsimp only at hSw); go_simp; first | done | with_reducible rfl)
              simp only [List.setIfInBounds_toArray, List.set_cons_zero, List.set_cons_succ]
              refine wpT (i := 2) (v := ?_) rfl rfl (by kernel_rfl) (by kernel_rfl) (by kernel_rfl) (fun _ _ _ h => h) (Or.inl ⟨by rfl, ?_⟩) hS ?_
              rotate_left
              · (intro w hSw; (try dsimp only at hSw); go_simp; first | done | with_reducible rfl)
              simp only [List.setIfInBounds_toArray, List.set_cons_zero, List.set_cons_succ]
              refine wpT (i := 3) (v := ?_) rfl rfl (by kernel_rfl) (by kernel_rfl) (by kernel_rfl) (fun _ _ _ h => h) (Or.inl ⟨by rfl, ?_⟩) hS ?_
              rotate_left
              · (intro w hSw; (try dsimp only at hSw); go_simp; first | done | with_reducible rfl)
              simp only [List.setIfInBounds_toArray, List.set_cons_zero, List.set_cons_succ]
              refine wpT (i := 4) (v := ?_) rfl rfl (by kernel_rfl) (by kernel_rfl) (by kernel_rfl) (fun _ _ _ h => h) (Or.inl ⟨by rfl, ?_⟩) hS ?_
              rotate_left
              · (intro w hSw; (try dsimp only at hSw); go_simp; first | done | with_reducible rfl)
              simp only [List.setIfInBounds_toArray, List.set_cons_zero, List.set_cons_succ]
              refine wpAnyH_ready (rs := [5]) (by kernel_rfl) (by simp) ?_
              refine AllReadyH.cons rfl (fun K hK => ?_) AllReadyH.nil
              go_simp
              (go_at_call 83; refine (l1In_b _ _ _ _ _ HX.out).mono ?_; rintro e w1 ⟨rfl, hb1⟩)
              try go_wp2_with fail
              refine hK.out _ _ ?_ (fun hS2 => ?_)
              · (clear hK K; ((go_split_ands; (try dsimp only); (repeat' (with_reducible apply And.intro)) <;> (repeat (first | with_reducible assumption | with_reducible apply keep_alloc | with_reducible apply keep_drew | with_reducible refine keep_below hb1 ?_ | ((with_reducible refine keep_set ?_ ?_); rotate_left; (simp <;> omega)))))))
              clear hS hK K
              have hS := hS2
              clear hS2
              refine wpT (i := 6) (v := ?_) rfl rfl (by kernel_rfl) (by kernel_rfl) (by kernel_rfl) (fun _ _ _ h => h) (Or.inl ⟨by rfl, ?_⟩) hS ?_
              rotate_left
              · (intro w hSw; (try dsimp only at hSw); go_simp; first | done | with_reducible rfl)
              simp only [List.setIfInBounds_toArray, List.set_cons_zero, List.set_cons_succ]
              refine wpT (i := 7) (v := ?_) rfl rfl (by kernel_rfl) (by kernel_rfl) (by kernel_rfl) (fun _ _ _ h => h) (Or.inl ⟨by rfl, ?_⟩) hS ?_
              rotate_left
              · (intro w hSw; (try dsimp only at hSw); go_simp; first | done | with_reducible rfl)
              simp only [List.setIfInBounds_toArray, List.set_cons_zero, List.set_cons_succ]
              refine wpT (i := 8) (v := ?_) rfl rfl (by kernel_rfl) (by kernel_rfl) (by kernel_rfl) (fun _ _ _ h => h) (Or.inl ⟨by rfl, ?_⟩) hS ?_
              rotate_left
              · (intro w hSw; (try dsimp only at hSw); go_simp; first | done | with_reducible rfl)
              simp only [List.setIfInBounds_toArray, List.set_cons_zero, List.set_cons_succ]
              refine wpT (i := 9) (v := ?_) rfl rfl (by kernel_rfl) (by kernel_rfl) (by kernel_rfl) (fun _ _ _ h => h) (Or.inl ⟨by rfl, ?_⟩) hS ?_
              rotate_left
              · (intro w hSw; (try dsimp only at hSw); go_simp; first | done | with_reducible rfl)
              simp only [List.setIfInBounds_toArray, List.set_cons_zero, List.set_cons_succ]
              refine wpT (i := 10) (v := ?_) rfl rfl (by kernel_rfl) (by kernel_rfl) (by kernel_rfl) (fun _ _ _ h => h) (Or.inl ⟨by rfl, ?_⟩) hS ?_
              rotate_left
              · (intro w hSw; (try dsimp only at hSw); go_simp; first | done | with_reducible rfl)
              simp only [List.setIfInBounds_toArray, List.set_cons_zero, List.set_cons_succ]
              refine wpT (i := 11) (v := ?_) rfl rfl (by kernel_rfl) (by kernel_rfl) (by kernel_rfl) (fun _ _ _ h => h) (Or.inl ⟨by rfl, ?_⟩) hS ?_
              rotate_left
              · (intro w hSw; (try dsimp only at hSw); go_simp; first | done | with_reducible rfl)
              simp only [List.setIfInBounds_toArray, List.set_cons_zero, List.set_cons_succ]
              refine wpT (i := 12) (v := ?_) rfl rfl (by kernel_rfl) (by kernel_rfl) (by kernel_rfl) (fun _ _ _ h => h) (Or.inl ⟨by rfl, ?_⟩) hS ?_
              rotate_left
              · (intro w hSw; (try dsimp only at hSw); go_simp; first | done | with_reducible rfl)
              simp only [List.setIfInBounds_toArray, List.set_cons_zero, List.set_cons_succ]
              refine wpAnyH_ready (rs := [13]) (by kernel_rfl) (by simp) ?_
              refine AllReadyH.cons rfl (fun K hK => ?_) AllReadyH.nil
              go_simp
              (go_at_call 83; refine (l1In_b _ _ _ _ _ HY.out).mono ?_; rintro e w2 ⟨rfl, hb2⟩)
              try go_wp2_with fail
              refine hK.out _ _ ?_ (fun hS2 => ?_)
              · (clear hK K; ((go_split_ands; (try dsimp only); (repeat' (with_reducible apply And.intro)) <;> (repeat (first | with_reducible assumption | with_reducible apply keep_alloc | with_reducible apply keep_drew | with_reducible refine keep_below hb2 ?_ | ((with_reducible refine keep_set ?_ ?_); rotate_left; (simp <;> omega)))))))
              clear hS hK K
              have hS := hS2
              clear hS2
              refine wpT (i := 14) (v := ?_) rfl rfl (by kernel_rfl) (by kernel_rfl) (by kernel_rfl) (fun _ _ _ h => h) (Or.inl ⟨by rfl, ?_⟩) hS ?_
              rotate_left
              · (intro w hSw; (try dsimp only at hSw); go_simp; first | done | with_reducible rfl)
              simp only [List.setIfInBounds_toArray, List.set_cons_zero, List.set_cons_succ]
              refine wpT (i := 15) (v := ?_) rfl rfl (by kernel_rfl) (by kernel_rfl) (by kernel_rfl) (fun _ _ _ h => h) (Or.inl ⟨by rfl, ?_⟩) hS ?_
              rotate_left
              · (intro w hSw; (try dsimp only at hSw); go_simp; first | done | with_reducible rfl)
              simp only [List.setIfInBounds_toArray, List.set_cons_zero, List.set_cons_succ]
              refine wpT (i := 16) (v := ?_) rfl rfl (by kernel_rfl) (by kernel_rfl) (by kernel_rfl) (fun _ _ _ h => h) (Or.inl ⟨by rfl, ?_⟩) hS ?_
              rotate_left
              · (intro w hSw; (try dsimp only at hSw); go_simp; first | done | with_reducible rfl)
              simp only [List.setIfInBounds_toArray, List.set_cons_zero, List.set_cons_succ]
              refine wpT (i := 17) (v := ?_) rfl rfl (by kernel_rfl) (by kernel_rfl) (by kernel_rfl) (fun _ _ _ h => h) (Or.inl ⟨by rfl, ?_⟩) hS ?_
              rotate_left
              · (intro w hSw; (try dsimp only at hSw); go_simp; first | done | with_reducible rfl)
              simp only [List.setIfInBounds_toArray, List.set_cons_zero, List.set_cons_succ]
              refine wpT (i := 18) (v := ?_) rfl rfl (by kernel_rfl) (by kernel_rfl) (by kernel_rfl) (fun _ _ _ h => h) (Or.inl ⟨by rfl, ?_⟩) hS ?_
              rotate_left
              · (intro w hSw; (try dsimp only at hSw); go_simp; first | done | with_reducible rfl)
              simp only [List.setIfInBounds_toArray, List.set_cons_zero, List.set_cons_succ]
              refine wpT (i := 19) (v := ?_) rfl rfl (by kernel_rfl) (by kernel_rfl) (by kernel_rfl) (fun _ _ _ h => h) (Or.inl ⟨by rfl, ?_⟩) hS ?_
              rotate_left
              · (intro w hSw; (try dsimp only at hSw); go_simp; first | done | with_reducible rfl)
              simp only [List.setIfInBounds_toArray, List.set_cons_zero, List.set_cons_succ]
              refine wpT (i := 20) (v := undef) rfl rfl (by kernel_rfl) (by kernel_rfl) (by kernel_rfl) (fun _ _ _ h => h) (Or.inr ⟨by rfl, rfl⟩) hS ?_
              simp only [List.setIfInBounds_toArray, List.set_cons_zero, List.set_cons_succ]
              refine wpT (i := 21) (v := undef) rfl rfl (by kernel_rfl) (by kernel_rfl) (by kernel_rfl) (fun _ _ _ h => h) (Or.inr ⟨by rfl, rfl⟩) hS ?_
              simp only [List.setIfInBounds_toArray, List.set_cons_zero, List.set_cons_succ]
              refine wpT (i := 22) (v := undef) rfl rfl (by kernel_rfl) (by kernel_rfl) (by kernel_rfl) (fun _ _ _ h => h) (Or.inr ⟨by rfl, rfl⟩) hS ?_
              simp only [List.setIfInBounds_toArray, List.set_cons_zero, List.set_cons_succ]
              refine wpT (i := 23) (v := undef) rfl rfl (by kernel_rfl) (by kernel_rfl) (by kernel_rfl) (fun _ _ _ h => h) (Or.inr ⟨by rfl, rfl⟩) hS ?_
              simp only [List.setIfInBounds_toArray, List.set_cons_zero, List.set_cons_succ]
              refine wpT (i := 24) (v := undef) rfl rfl (by kernel_rfl) (by kernel_rfl) (by kernel_rfl) (fun _ _ _ h => h) (Or.inr ⟨by rfl, rfl⟩) hS ?_
              simp only [List.setIfInBounds_toArray, List.set_cons_zero, List.set_cons_succ]
              refine wpT (i := 25) (v := undef) rfl rfl (by kernel_rfl) (by kernel_rfl) (by kernel_rfl) (fun _ _ _ h => h) (Or.inr ⟨by rfl, rfl⟩) hS ?_
              simp only [List.setIfInBounds_toArray, List.set_cons_zero, List.set_cons_succ]
              refine wpT (i := 26) (v := undef) rfl rfl (by kernel_rfl) (by kernel_rfl) (by kernel_rfl) (fun _ _ _ h => h) (Or.inr ⟨by rfl, rfl⟩) hS ?_
              simp only [List.setIfInBounds_toArray, List.set_cons_zero, List.set_cons_succ]
              refine wpT (i := 27) (v := undef) rfl rfl (by kernel_rfl) (by kernel_rfl) (by kernel_rfl) (fun _ _ _ h => h) (Or.inr ⟨by rfl, rfl⟩) hS ?_
              simp only [List.setIfInBounds_toArray, List.set_cons_zero, List.set_cons_succ]
              refine wpT (i := 28) (v := undef) rfl rfl (by kernel_rfl) (by kernel_rfl) (by kernel_rfl) (fun _ _ _ h => h) (Or.inr ⟨by rfl, rfl⟩) hS ?_
              simp only [List.setIfInBounds_toArray, List.set_cons_zero, List.set_cons_succ]
              refine wpT (i := 29) (v := undef) rfl rfl (by kernel_rfl) (by kernel_rfl) (by kernel_rfl) (fun _ _ _ h => h) (Or.inr ⟨by rfl, rfl⟩) hS ?_
              simp only [List.setIfInBounds_toArray, List.set_cons_zero, List.set_cons_succ]
              refine wpT (i := 30) (v := undef) rfl rfl (by kernel_rfl) (by kernel_rfl) (by kernel_rfl) (fun _ _ _ h => h) (Or.inr ⟨by rfl, rfl⟩) hS ?_
              simp only [List.setIfInBounds_toArray, List.set_cons_zero, List.set_cons_succ]
              refine wpT (i := 31) (v := ?_) rfl rfl (by kernel_rfl) (by kernel_rfl) (by kernel_rfl) (fun _ _ _ h => h) (Or.inl ⟨by rfl, ?_⟩) hS ?_
              rotate_left
              · (intro w hSw; (try dsimp only at hSw); go_simp; first | done | with_reducible rfl)
              simp only [List.setIfInBounds_toArray, List.set_cons_zero, List.set_cons_succ]
              refine wpT (i := 32) (v := ?_) rfl rfl (by kernel_rfl) (by kernel_rfl) (by kernel_rfl) (fun _ _ _ h => h) (Or.inl ⟨by rfl, ?_⟩) hS ?_
              rotate_left
              · (intro w hSw; (try dsimp only at hSw); go_simp; first | done | with_reducible rfl)
              simp only [List.setIfInBounds_toArray, List.set_cons_zero, List.set_cons_succ]
              refine wpAnyH_done (by kernel_rfl) ?_ _
              refine NoPanic.normal ?_
              go_wp2_with fail
              go_meet
              exact ⟨by rw [HV.out]; rfl, (by (repeat (first | with_reducible exact Below.refl _ _ | with_reducible assumption | with_reducible apply bel_alloc | with_reducible apply bel_drew | with_reducible apply bel_drewN | ((with_reducible refine bel_set ?_ ?_); rotate_left; (simp <;> omega)) | (with_reducible refine bel_trans ?_ (by with_reducible assumption)))))⟩
      case rest =>
        obtain ⟨rfl, hb3⟩ := hcut
        cases hg : shapeAt xs k (x, y) with
        | true =>
          have HN : Hid (shapeTo xs (k + 1) = true) := by show shapeTo xs (k + 1) = true; rw [HS.out, HG.out, hg]; rfl
          clear hg
          go_wp2
          exact ⟨⟨k + 1, by omega, by go_num, HN.out, (by (repeat (first | with_reducible exact Below.refl _ _ | with_reducible assumption | with_reducible apply bel_alloc | with_reducible apply bel_drew | with_reducible apply bel_drewN | ((with_reducible refine bel_set ?_ ?_); rotate_left; (simp <;> omega)) | (with_reducible refine bel_trans ?_ (by with_reducible assumption)))))⟩, by simp [intOf]; omega⟩
        | false =>
          have HN := Lib.hid (HNO.out hg)
          clear hg
          go_wp2
          go_ret
          exact ⟨by rw [HN.out]; rfl, (by (repeat (first | with_reducible exact Below.refl _ _ | with_reducible assumption | with_reducible apply bel_alloc | with_reducible apply bel_drew | with_reducible apply bel_drewN | ((with_reducible refine bel_set ?_ ?_); rotate_left; (simp <;> omega)) | (with_reducible refine bel_trans ?_ (by with_reducible assumption)))))⟩
    · have hkk : k = n := by omega
      subst hkk
      have hv : isShape xs = (decide ((1 : Int) ≤ (k : Int)) && decide ((k : Int) ≤ 8)) := by
        unfold isShape
        rw [HL.out, hgo]
        rw [Bool.true_and]
        congr 1 <;> (rw [decide_eq_decide]; omega)
      have HV := Lib.hid hv
      clear hgo hv
      go_wp2_with (go_at_call 83; refine (l1In_b _ _ _ (isShape xs) _ HV.out).mono ?_; rintro e w1 ⟨rfl, hb1⟩)
      go_ret
      exact ⟨rfl, (by (repeat (first | with_reducible exact Below.refl _ _ | with_reducible assumption | with_reducible apply bel_alloc | with_reducible apply bel_drew | with_reducible apply bel_drewN | ((with_reducible refine bel_set ?_ ?_); rotate_left; (simp <;> omega)) | (with_reducible refine bel_trans ?_ (by with_reducible assumption)))))⟩
end Go.Proofs.YtkcgdnnipohehaaGreatDoor

/- The reference's shapes out of texts: what a draw wants of them. -/
namespace Go.Proofs.YtkcgdnnipohehaaGreatDoor
open Go.RowKit
set_option linter.unusedVariables false
attribute [local go_sem ↓] Go.wp_at_zero Go.wp_at_succ

/-- Cells in a corner of the board. -/
def cor7 (c : C) : Prop := (0 ≤ c.1 ∧ c.1 ≤ 7) ∧ (0 ≤ c.2 ∧ c.2 ≤ 7)
theorem cornS_cor {xs : List C} (hs : isShape xs = true) : ∀ c ∈ cornS xs, cor7 c := by
  intro c hc
  have hl := shape_len hs
  unfold cornS at hc
  rw [mv_mem] at hc
  have h6 := shape_onB hs _ hc
  have h7 := minC_le (·.1) hc
  have h8 := minC_le (·.2) hc
  obtain ⟨a, ha, e⟩ := minC_at (·.1) (show 0 < xs.length by omega)
  obtain ⟨b, hb, f⟩ := minC_at (·.2) (show 0 < xs.length by omega)
  have h9 := shape_onB hs a ha
  have h10 := shape_onB hs b hb
  simp only [onB, Bool.and_eq_true, decide_eq_true_eq] at h6 h9 h10
  simp only at h7 h8
  unfold cor7
  omega
def RetCor (w : World) (e : Ending) (w' : World) : Prop := ∃ D k cD ys, e = .returned (.slice D k cD) ∧ Rd w' D (vC ys) ∧ ys.length = k ∧ k ≤ 8 ∧ (∀ c ∈ ys, cor7 c) ∧ Below w.heap.size w w'
/-- A string, of no great length. -/
def RetStr (w : World) (e : Ending) (w' : World) : Prop := ∃ t : ByteArray, e = .returned (.string t) ∧ t.size ≤ 1000 ∧ Below w.heap.size w w'
theorem u8_neq {b k : UInt8} (h : ¬ b = k) : ((b.toNat : Int) == (k.toNat : Int)) = false := by
  rw [beq_eq_false_iff_ne]
  intro e
  exact h (UInt8.toNat_inj.1 (by omega))
def RetPS (w : World) (e : Ending) (w' : World) : Prop := ∃ D k cD xs b, e = .returned (.tuple #[.slice D k cD, .bool b]) ∧ Rd w' D (vC xs) ∧ xs.length = k ∧ k ≤ 70 ∧ k ≤ cD ∧ Below w.heap.size w w' ∧ ∀ b, ob D = some b → w.heap.size ≤ b
end Go.Proofs.YtkcgdnnipohehaaGreatDoor

/- Slices of shapes: read, owned. -/
namespace Go.Proofs.YtkcgdnnipohehaaGreatDoor
open Go.RowKit
set_option linter.unusedVariables false
/-- A slice header whose memory is a block of cells that reads as f. -/
def CRow (w : World) (x : H) (f : List C) : Prop := f.length = x.2.1 ∧ Rd w x.1 (vC f) ∧ (∀ g, ob x.1 = some g → ∃ cur z, w.heap[g]? = some (.cells cur 87 z)) ∧ x.2.1 ≤ x.2.2
/-- A slice of shapes that reads as F. -/
structure RdF (w : World) (A : Option Addr) (n : Nat) (hs : List H) (F : List (List C)) : Prop where
  top : Rd w A (vS hs)
  hlen : hs.length = n
  flen : F.length = n
  row : ∀ (i : Nat) x f, hs[i]? = some x → F[i]? = some f → CRow w x f
/-- .. and whose own block is the call's own. -/
structure OwnF (base : Nat) (w : World) (A : Option Addr) (n c : Nat) (hs : List H) (F : List (List C)) : Prop where
  own : w.ownsRow base 52 1 (.slice A n c) n (vS hs)
  flen : F.length = n
  row : ∀ (i : Nat) x f, hs[i]? = some x → F[i]? = some f → CRow w x f
section
variable {w w' : World} {x : H} {f : List C} {A : Option Addr} {n c base : Nat} {hs : List H} {F : List (List C)}
theorem CRow.lt (h : CRow w x f) : ∀ g, ob x.1 = some g → g < w.heap.size := fun g e => by
  obtain ⟨cur, z, h1⟩ := h.2.2.1 g e
  exact (Array.getElem?_eq_some_iff.1 h1).1
theorem CRow.below (h : CRow w x f) (hb : Below w.heap.size w w') : CRow w' x f :=
  ⟨h.1, h.2.1.below hb, fun g e => by obtain ⟨cur, z, h1⟩ := h.2.2.1 g e; exact ⟨cur, z, (hb.block g (Array.getElem?_eq_some_iff.1 h1).1).trans h1⟩, h.2.2.2⟩
theorem CRow.of_own (h : w.ownsRow base 87 2 (.slice A n c) n (vC f)) : CRow w (A, n, c) f := by
  refine ⟨by have := own_len h; rw [vC_length] at this; show f.length = n; omega, Rd.of_own h, fun g e => ?_, ?_⟩
  · rcases h.2 with ⟨hv, _⟩ | ⟨g', cap, cur, hv, _, hg, _⟩
    · injection hv with hA
      subst hA
      simp [ob] at e
    · injection hv with hA
      subst hA
      simp only [ob, Option.map_some, Option.some.injEq] at e
      subst e
      exact ⟨cur, _, hg⟩
  · show n ≤ c
    rcases h.2 with ⟨hv, hn⟩ | ⟨g', cap, cur, hv, hb, hg, hnc, _⟩
    · omega
    · injection hv with _ _ h3
      omega
/-- A row of cells lies apart from a block of headers. -/
theorem CRow.apart (h : CRow w x f) {A : Option Addr} {n c base : Nat} {vs : List Value} {sz : Nat} (ho : w.ownsRow base 52 sz (.slice A n c) n vs) : ∀ g, ob x.1 = some g → ob A ≠ some g := by
  intro g e ea
  obtain ⟨cur, z, h1⟩ := h.2.2.1 g e
  rcases ho.2 with ⟨hv, _⟩ | ⟨g', cap, cur', hv, _, hg, _⟩
  · injection hv with hA
    subst hA
    simp [ob] at ea
  · injection hv with hA
    subst hA
    simp only [ob, Option.map_some, Option.some.injEq] at ea
    subst ea
    rw [h1] at hg
    injection hg with hg
    injection hg with _ h3
    exact absurd h3 (by decide)
theorem CRow.grown {row : Option Nat} (h : CRow w x f) (hg : w.grownBy w' row) (hn : ∀ g, ob x.1 = some g → row ≠ some g) : CRow w' x f :=
  ⟨h.1, h.2.1.grown hg (fun g e r => hn g (by simpa using e) r.symm), fun g e => by
    obtain ⟨cur, z, h1⟩ := h.2.2.1 g e
    exact ⟨cur, z, (hg.block g (Array.getElem?_eq_some_iff.1 h1).1 (fun r => hn g e r.symm)).trans h1⟩, h.2.2.2⟩
theorem OwnF.hlen (h : OwnF base w A n c hs F) : hs.length = n := by have := own_len h.own; rw [vS_length] at this; omega
theorem OwnF.rd (h : OwnF base w A n c hs F) : RdF w A n hs F := ⟨Rd.of_own h.own, h.hlen, h.flen, h.row⟩
theorem RdF.below (h : RdF w A n hs F) (hb : Below w.heap.size w w') : RdF w' A n hs F := ⟨h.top.below hb, h.hlen, h.flen, fun i x f a b => (h.row i x f a b).below hb⟩
theorem OwnF.below (h : OwnF base w A n c hs F) (hb : Below w.heap.size w w') : OwnF base w' A n c hs F := ⟨own_keep h.own hb, h.flen, fun i x f a b => (h.row i x f a b).below hb⟩
theorem OwnF.mono {base' : Nat} (h : OwnF base w A n c hs F) (hb : base' ≤ base) : OwnF base' w A n c hs F := ⟨own_base h.own hb, h.flen, h.row⟩
theorem OwnF.nil (base : Nat) (w : World) : OwnF base w none 0 0 [] [] := ⟨own_nil _ _ _ _, rfl, fun i x f a => by simp at a⟩
theorem OwnF.none_ (h : w.ownsRow base 52 1 (.slice A 0 c) 0 []) : OwnF base w A 0 c [] [] := ⟨h, rfl, fun i x f a => by simp at a⟩
theorem RdF.at_ (h : RdF w A n hs F) {k : Nat} (hk : k < n) : ∃ (x : H) (f : List C) (g off : Nat), hs[k]? = some x ∧ F[k]? = some f ∧ A = some ⟨g, off, none⟩ ∧ g < w.heap.size ∧ w.cell? ⟨g, off + k, none⟩ = some (.slice x.1 x.2.1 x.2.2) ∧ CRow w x f := by
  have a : k < hs.length := by rw [h.hlen]; exact hk
  have b : k < F.length := by rw [h.flen]; exact hk
  obtain ⟨g, off, e, hg, c1⟩ := RdS.at_ h.top a
  exact ⟨hs[k], F[k], g, off, List.getElem?_eq_getElem a, List.getElem?_eq_getElem b, e, hg, c1, h.row k _ _ (List.getElem?_eq_getElem a) (List.getElem?_eq_getElem b)⟩
end
/-- A result that is a slice of shapes of the call's own. -/
def RetF (w : World) (F : List (List C)) (e : Ending) (w' : World) : Prop :=
  ∃ A n c hs, e = .returned (.slice A n c) ∧ OwnF w.heap.size w' A n c hs F ∧ Below w.heap.size w w'
/-- The place in an ordered list. -/
theorem countP_cut {α : Type} {p : α → Bool} {F : List α} {k : Nat} (hk : k ≤ F.length) (h1 : ∀ (t : Nat) x, t < k → F[t]? = some x → p x = true) (h2 : ∀ (t : Nat) x, k ≤ t → F[t]? = some x → p x = false) : F.countP p = k := by
  have e : F.countP p = (F.take k).countP p + (F.drop k).countP p := by rw [← List.countP_append, List.take_append_drop]
  have e1 : (F.take k).countP p = k := by
    have : (F.take k).countP p = (F.take k).length := by
      rw [List.countP_eq_length]
      intro x hx
      obtain ⟨i, hi, rfl⟩ := List.mem_iff_getElem.1 hx
      rw [List.length_take] at hi
      exact h1 i _ (by omega) (by rw [List.getElem_take]; exact List.getElem?_eq_getElem (by omega))
    rw [this, List.length_take]
    omega
  have e2 : (F.drop k).countP p = 0 := by
    rw [List.countP_eq_zero]
    intro x hx
    obtain ⟨i, hi, rfl⟩ := List.mem_iff_getElem.1 hx
    rw [List.length_drop] at hi
    rw [List.getElem_drop]
    simpa using h2 (k + i) _ (by omega) (List.getElem?_eq_getElem (by omega))
  omega
end Go.Proofs.YtkcgdnnipohehaaGreatDoor
