/- Texts of this claim, one behind the other: part 2. -/
import Derived.Test.YtagkopemcabkpaaU1FnGrowth
import Derived.Outline
import Derived.WalkLawsBesides
import Derived.WalkSpells
import Derived.BigQuiet
import Derived.Deep.QuietTactic
import Derived.Deep.RegionHeld3
import Derived.Deep.RegionWith
import Derived.Deep.DeepCutAuto
import Derived.Deep.CutBlock
import Derived.Deep.DrawnRows
import Derived.IntWalk
/- The order of cells and shapes: walks of the reference. -/
namespace Go.Proofs.Ytagkopemcabkpaa
open Go.RowKit
set_option linter.unusedVariables false
attribute [local go_sem ↓] Go.wp_at_zero Go.wp_at_succ

theorem onB_split (x y : Int) : onB (x, y) = ((decide (0 ≤ x) && decide (x ≤ 7)) && (decide (0 ≤ y) && decide (y ≤ 7))) := rfl
set_option maxHeartbeats 1600000 in
theorem IsShape_s (A : Option Addr) (n c : Nat) (xs : List C) (w : World) (hr : Rd w A (vC xs)) (hl : xs.length = n) (hn : n ≤ 1099511627776) :
    Calls Try.prog 61 #[.slice A n c] w (Ret w (.bool (isShape xs))) := by
  have HL := Lib.hid hl
  clear hl
  go_enter Try.func61, Try.ntmps61
  go_wp2
  go_loopw [3] (fun i wr => ∃ k : Nat, k ≤ n ∧ i = .int .i64 k ∧ shapeTo xs k = true ∧ Below w.heap.size w wr) (fun i _ => n - (intOf i).toNat)
  case atStart => exact ⟨0, Nat.zero_le _, rfl, rfl, Below.refl _ _⟩
  case round =>
    obtain ⟨k, hk, rfl, hgo, hb⟩ := hrel
    by_cases hlt : k < n
    · have hkx : k < xs.length := by rw [HL.out]; omega
      obtain ⟨g, off, rfl, hgw, c1, c2⟩ := RdC.at_ (hr.below hb) hkx
      have hs := shapeTo_succ xs k hkx
      have hno := isShape_no xs k hkx
      obtain ⟨⟨x, y⟩, hx⟩ : ∃ p, xs[k] = p := ⟨_, rfl⟩
      rw [hx] at c1 c2 hs hno
      have hi0 : (0 : Int) ≤ (k : Int) := by omega
      have hi1 : (k : Int) < (n : Int) := by omega
      have HS := Lib.hid hs
      have HNO := Lib.hid hno
      have HG := Lib.hid hgo
      have hrw := hr.below hb
      clear hs hno hgo hx
      go_upto_region 4 with fail
      go_cut [42] (fun s wx => s = .bool (!shapeAt xs k (x, y)) ∧ Below wr.heap.size wr wx)
      case first =>
        cases hbx : (decide (0 ≤ x) && decide (x ≤ 7)) with
        | false =>
          have HV : Hid (shapeAt xs k (x, y) = false) := by unfold Hid shapeAt; rw [onB_split, hbx]; rfl
          have HX := Lib.hid hbx.symm
          clear hbx
          refine wp_region_noPanic ?_
          refine wp_region_held_drew (S := (fun w' => w'.cell? ⟨g, off + k * 2, none⟩ = some (.int .i64 x) ∧ w'.cell? ⟨g, off + k * 2 + 1, none⟩ = some (.int .i64 y))) (by kernel_rfl) ?_ (fun hS => ?_)
          · ((go_split_ands; (try dsimp only); (repeat' (with_reducible apply And.intro)) <;> (repeat (first | with_reducible assumption | with_reducible apply keep_alloc | with_reducible apply keep_drew | with_reducible refine keep_below hb1 ?_ | ((with_reducible refine keep_set ?_ ?_); rotate_left; (simp <;> omega))))))
          refine wpT (i := 0) (v := ?_) rfl rfl (by kernel_rfl) (by kernel_rfl) (by kernel_rfl) (fun _ _ _ h => h) (Or.inl ⟨by rfl, ?_⟩) hS ?_
          rotate_left
          · (intro w hSw; (try dsimp only at hSw); go_simp; first | done | with_reducible rfl)
          simp only [List.setIfInBounds_toArray, List.set_cons_zero, List.set_cons_succ]
          refine wpT (i := 1) (v := ?_) rfl rfl (by kernel_rfl) (by kernel_rfl) (by kernel_rfl) (fun _ _ _ h => h) (Or.inl ⟨by rfl, ?_⟩) hS ?_
          rotate_left
          · (intro w hSw; (try dsimp only at hSw); go_simp; first | done | with_reducible rfl)
          simp only [List.setIfInBounds_toArray, List.set_cons_zero, List.set_cons_succ]
          refine wpT (i := 2) (v := ?_) rfl rfl (by kernel_rfl) (by kernel_rfl) (by kernel_rfl) (fun _ _ _ h => h) (Or.inl ⟨by rfl, ?_⟩) hS ?_
          rotate_left
          · (intro w hSw; (try dsimp only at hSw); go_simp; first | done | with_reducible rfl)
          simp only [List.setIfInBounds_toArray, List.set_cons_zero, List.set_cons_succ]
          refine wpT (i := 3) (v := ?_) rfl rfl (by kernel_rfl) (by kernel_rfl) (by kernel_rfl) (fun _ _ _ h => h) (Or.inl ⟨by rfl, ?_⟩) hS ?_
          rotate_left
          · (intro w hSw; (try dsimp only at hSw); go_simp; first | done | with_reducible rfl)
          simp only [List.setIfInBounds_toArray, List.set_cons_zero, List.set_cons_succ]
          refine wpT (i := 4) (v := ?_) rfl rfl (by kernel_rfl) (by kernel_rfl) (by kernel_rfl) (fun _ _ _ h => h) (Or.inl ⟨by rfl, ?_⟩) hS ?_
          rotate_left
          · (intro w hSw; (try dsimp only at hSw); go_simp; first | done | with_reducible rfl)
          simp only [List.setIfInBounds_toArray, List.set_cons_zero, List.set_cons_succ]
          refine wpAnyH_ready (rs := [5]) (by kernel_rfl) (by simp) ?_
          refine AllReadyH.cons rfl (fun K hK => ?_) AllReadyH.nil
          go_simp
          (go_at_call 50; refine (l1In_b _ _ _ _ _ HX.out).mono ?_; rintro e w1 ⟨rfl, hb1⟩)
          try go_wp2_with fail
          refine hK.out _ _ ?_ (fun hS2 => ?_)
          · (clear hK K; ((go_split_ands; (try dsimp only); (repeat' (with_reducible apply And.intro)) <;> (repeat (first | with_reducible assumption | with_reducible apply keep_alloc | with_reducible apply keep_drew | with_reducible refine keep_below hb1 ?_ | ((with_reducible refine keep_set ?_ ?_); rotate_left; (simp <;> omega)))))))
          clear hS hK K
          have hS := hS2
          clear hS2
          refine wpT (i := 6) (v := ?_) rfl rfl (by kernel_rfl) (by kernel_rfl) (by kernel_rfl) (fun _ _ _ h => h) (Or.inl ⟨by rfl, ?_⟩) hS ?_
          rotate_left
          · (intro w hSw; (try dsimp only at hSw); go_simp; first | done | with_reducible rfl)
          simp only [List.setIfInBounds_toArray, List.set_cons_zero, List.set_cons_succ]
          refine wpT (i := 7) (v := ?_) rfl rfl (by kernel_rfl) (by kernel_rfl) (by kernel_rfl) (fun _ _ _ h => h) (Or.inl ⟨by rfl, ?_⟩) hS ?_
          rotate_left
          · (intro w hSw; (try dsimp only at hSw); go_simp; first | done | with_reducible rfl)
          simp only [List.setIfInBounds_toArray, List.set_cons_zero, List.set_cons_succ]
          refine wpT (i := 8) (v := undef) rfl rfl (by kernel_rfl) (by kernel_rfl) (by kernel_rfl) (fun _ _ _ h => h) (Or.inr ⟨by rfl, rfl⟩) hS ?_
          simp only [List.setIfInBounds_toArray, List.set_cons_zero, List.set_cons_succ]
          refine wpT (i := 9) (v := undef) rfl rfl (by kernel_rfl) (by kernel_rfl) (by kernel_rfl) (fun _ _ _ h => h) (Or.inr ⟨by rfl, rfl⟩) hS ?_
          simp only [List.setIfInBounds_toArray, List.set_cons_zero, List.set_cons_succ]
          refine wpT (i := 10) (v := undef) rfl rfl (by kernel_rfl) (by kernel_rfl) (by kernel_rfl) (fun _ _ _ h => h) (Or.inr ⟨by rfl, rfl⟩) hS ?_
          simp only [List.setIfInBounds_toArray, List.set_cons_zero, List.set_cons_succ]
          refine wpT (i := 11) (v := undef) rfl rfl (by kernel_rfl) (by kernel_rfl) (by kernel_rfl) (fun _ _ _ h => h) (Or.inr ⟨by rfl, rfl⟩) hS ?_
          simp only [List.setIfInBounds_toArray, List.set_cons_zero, List.set_cons_succ]
          refine wpT (i := 12) (v := undef) rfl rfl (by kernel_rfl) (by kernel_rfl) (by kernel_rfl) (fun _ _ _ h => h) (Or.inr ⟨by rfl, rfl⟩) hS ?_
          simp only [List.setIfInBounds_toArray, List.set_cons_zero, List.set_cons_succ]
          refine wpT (i := 13) (v := undef) rfl rfl (by kernel_rfl) (by kernel_rfl) (by kernel_rfl) (fun _ _ _ h => h) (Or.inr ⟨by rfl, rfl⟩) hS ?_
          simp only [List.setIfInBounds_toArray, List.set_cons_zero, List.set_cons_succ]
          refine wpT (i := 14) (v := undef) rfl rfl (by kernel_rfl) (by kernel_rfl) (by kernel_rfl) (fun _ _ _ h => h) (Or.inr ⟨by rfl, rfl⟩) hS ?_
          simp only [List.setIfInBounds_toArray, List.set_cons_zero, List.set_cons_succ]
          refine wpT (i := 15) (v := ?_) rfl rfl (by kernel_rfl) (by kernel_rfl) (by kernel_rfl) (fun _ _ _ h => h) (Or.inl ⟨by rfl, ?_⟩) hS ?_
          rotate_left
          · (intro w hSw; (try dsimp only at hSw); go_simp; first | done | with_reducible rfl)
          simp only [List.setIfInBounds_toArray, List.set_cons_zero, List.set_cons_succ]
          refine wpT (i := 16) (v := ?_) rfl rfl (by kernel_rfl) (by kernel_rfl) (by kernel_rfl) (fun _ _ _ h => h) (Or.inl ⟨by rfl, ?_⟩) hS ?_
          rotate_left
          · (intro w hSw; (try dsimp only at hSw); go_simp; first | done | with_reducible rfl)
          simp only [List.setIfInBounds_toArray, List.set_cons_zero, List.set_cons_succ]
          refine wpT (i := 17) (v := undef) rfl rfl (by kernel_rfl) (by kernel_rfl) (by kernel_rfl) (fun _ _ _ h => h) (Or.inr ⟨by rfl, rfl⟩) hS ?_
          simp only [List.setIfInBounds_toArray, List.set_cons_zero, List.set_cons_succ]
          refine wpT (i := 18) (v := undef) rfl rfl (by kernel_rfl) (by kernel_rfl) (by kernel_rfl) (fun _ _ _ h => h) (Or.inr ⟨by rfl, rfl⟩) hS ?_
          simp only [List.setIfInBounds_toArray, List.set_cons_zero, List.set_cons_succ]
          refine wpT (i := 19) (v := undef) rfl rfl (by kernel_rfl) (by kernel_rfl) (by kernel_rfl) (fun _ _ _ h => h) (Or.inr ⟨by rfl, rfl⟩) hS ?_
          simp only [List.setIfInBounds_toArray, List.set_cons_zero, List.set_cons_succ]
          refine wpT (i := 20) (v := undef) rfl rfl (by kernel_rfl) (by kernel_rfl) (by kernel_rfl) (fun _ _ _ h => h) (Or.inr ⟨by rfl, rfl⟩) hS ?_
          simp only [List.setIfInBounds_toArray, List.set_cons_zero, List.set_cons_succ]
          refine wpT (i := 21) (v := undef) rfl rfl (by kernel_rfl) (by kernel_rfl) (by kernel_rfl) (fun _ _ _ h => h) (Or.inr ⟨by rfl, rfl⟩) hS ?_
          simp only [List.setIfInBounds_toArray, List.set_cons_zero, List.set_cons_succ]
          refine wpT (i := 22) (v := undef) rfl rfl (by kernel_rfl) (by kernel_rfl) (by kernel_rfl) (fun _ _ _ h => h) (Or.inr ⟨by rfl, rfl⟩) hS ?_
          simp only [List.setIfInBounds_toArray, List.set_cons_zero, List.set_cons_succ]
          refine wpT (i := 23) (v := undef) rfl rfl (by kernel_rfl) (by kernel_rfl) (by kernel_rfl) (fun _ _ _ h => h) (Or.inr ⟨by rfl, rfl⟩) hS ?_
          simp only [List.setIfInBounds_toArray, List.set_cons_zero, List.set_cons_succ]
          refine wpT (i := 24) (v := undef) rfl rfl (by kernel_rfl) (by kernel_rfl) (by kernel_rfl) (fun _ _ _ h => h) (Or.inr ⟨by rfl, rfl⟩) hS ?_
          simp only [List.setIfInBounds_toArray, List.set_cons_zero, List.set_cons_succ]
          refine wpT (i := 25) (v := undef) rfl rfl (by kernel_rfl) (by kernel_rfl) (by kernel_rfl) (fun _ _ _ h => h) (Or.inr ⟨by rfl, rfl⟩) hS ?_
          simp only [List.setIfInBounds_toArray, List.set_cons_zero, List.set_cons_succ]
          refine wpT (i := 26) (v := undef) rfl rfl (by kernel_rfl) (by kernel_rfl) (by kernel_rfl) (fun _ _ _ h => h) (Or.inr ⟨by rfl, rfl⟩) hS ?_
          simp only [List.setIfInBounds_toArray, List.set_cons_zero, List.set_cons_succ]
          refine wpT (i := 27) (v := undef) rfl rfl (by kernel_rfl) (by kernel_rfl) (by kernel_rfl) (fun _ _ _ h => h) (Or.inr ⟨by rfl, rfl⟩) hS ?_
          simp only [List.setIfInBounds_toArray, List.set_cons_zero, List.set_cons_succ]
          refine wpT (i := 28) (v := undef) rfl rfl (by kernel_rfl) (by kernel_rfl) (by kernel_rfl) (fun _ _ _ h => h) (Or.inr ⟨by rfl, rfl⟩) hS ?_
          simp only [List.setIfInBounds_toArray, List.set_cons_zero, List.set_cons_succ]
          refine wpT (i := 29) (v := undef) rfl rfl (by kernel_rfl) (by kernel_rfl) (by kernel_rfl) (fun _ _ _ h => h) (Or.inr ⟨by rfl, rfl⟩) hS ?_
          simp only [List.setIfInBounds_toArray, List.set_cons_zero, List.set_cons_succ]
          refine wpT (i := 30) (v := undef) rfl rfl (by kernel_rfl) (by kernel_rfl) (by kernel_rfl) (fun _ _ _ h => h) (Or.inr ⟨by rfl, rfl⟩) hS ?_
          simp only [List.setIfInBounds_toArray, List.set_cons_zero, List.set_cons_succ]
          refine wpT (i := 31) (v := undef) rfl rfl (by kernel_rfl) (by kernel_rfl) (by kernel_rfl) (fun _ _ _ h => h) (Or.inr ⟨by rfl, rfl⟩) hS ?_
          simp only [List.setIfInBounds_toArray, List.set_cons_zero, List.set_cons_succ]
          refine wpT (i := 32) (v := ?_) rfl rfl (by kernel_rfl) (by kernel_rfl) (by kernel_rfl) (fun _ _ _ h => h) (Or.inl ⟨by rfl, ?_⟩) hS ?_
          rotate_left
          · (intro w hSw; (try dsimp only at hSw); go_simp; first | done | with_reducible rfl)
          simp only [List.setIfInBounds_toArray, List.set_cons_zero, List.set_cons_succ]
          refine wpAnyH_done (by kernel_rfl) ?_ _
          refine NoPanic.normal ?_
          go_wp2_with fail
          go_meet
          exact ⟨by rw [HV.out]; rfl, (by (repeat (first | with_reducible exact Below.refl _ _ | with_reducible assumption | with_reducible apply bel_alloc | with_reducible apply bel_drew | with_reducible apply bel_drewN | ((with_reducible refine bel_set ?_ ?_); rotate_left; (simp <;> omega)) | (with_reducible refine bel_trans ?_ (by with_reducible assumption)))))⟩
        | true =>
          cases hby : (decide (0 ≤ y) && decide (y ≤ 7)) with
          | false =>
            have HV : Hid (shapeAt xs k (x, y) = false) := by unfold Hid shapeAt; rw [onB_split, hbx, hby]; rfl
            have HX := Lib.hid hbx.symm
            have HY := Lib.hid hby.symm
            clear hbx hby
            refine wp_region_noPanic ?_
            refine wp_region_held_drew (S := (fun w' => w'.cell? ⟨g, off + k * 2, none⟩ = some (.int .i64 x) ∧ w'.cell? ⟨g, off + k * 2 + 1, none⟩ = some (.int .i64 y))) (by kernel_rfl) ?_ (fun hS => ?_)
            · ((go_split_ands; (try dsimp only); (repeat' (with_reducible apply And.intro)) <;> (repeat (first | with_reducible assumption | with_reducible apply keep_alloc | with_reducible apply keep_drew | with_reducible refine keep_below hb1 ?_ | ((with_reducible refine keep_set ?_ ?_); rotate_left; (simp <;> omega))))))
            refine wpT (i := 0) (v := ?_) rfl rfl (by kernel_rfl) (by kernel_rfl) (by kernel_rfl) (fun _ _ _ h => h) (Or.inl ⟨by rfl, ?_⟩) hS ?_
            rotate_left
            · (intro w hSw; (try dsimp only at hSw); go_simp; first | done | with_reducible rfl)
            simp only [List.setIfInBounds_toArray, List.set_cons_zero, List.set_cons_succ]
            refine wpT (i := 1) (v := ?_) rfl rfl (by kernel_rfl) (by kernel_rfl) (by kernel_rfl) (fun _ _ _ h => h) (Or.inl ⟨by rfl, ?_⟩) hS ?_
            rotate_left
            · (intro w hSw; (try dsimp only at hSw); go_simp; first | done | with_reducible rfl)
            simp only [List.setIfInBounds_toArray, List.set_cons_zero, List.set_cons_succ]
            refine wpT (i := 2) (v := ?_) rfl rfl (by kernel_rfl) (by kernel_rfl) (by kernel_rfl) (fun _ _ _ h => h) (Or.inl ⟨by rfl, ?_⟩) hS ?_
            rotate_left
            · (intro w hSw; (try dsimp only at hSw); go_simp; first | done | with_reducible rfl)
            simp only [List.setIfInBounds_toArray, List.set_cons_zero, List.set_cons_succ]
            refine wpT (i := 3) (v := ?_) rfl rfl (by kernel_rfl) (by kernel_rfl) (by kernel_rfl) (fun _ _ _ h => h) (Or.inl ⟨by rfl, ?_⟩) hS ?_
            rotate_left
            · (intro w hSw; (try dsimp only at hSw); go_simp; first | done | with_reducible rfl)
            simp only [List.setIfInBounds_toArray, List.set_cons_zero, List.set_cons_succ]
            refine wpT (i := 4) (v := ?_) rfl rfl (by kernel_rfl) (by kernel_rfl) (by kernel_rfl) (fun _ _ _ h => h) (Or.inl ⟨by rfl, ?_⟩) hS ?_
            rotate_left
            · (intro w hSw; (try dsimp only at hSw); go_simp; first | done | with_reducible rfl)
            simp only [List.setIfInBounds_toArray, List.set_cons_zero, List.set_cons_succ]
            refine wpAnyH_ready (rs := [5]) (by kernel_rfl) (by simp) ?_
            refine AllReadyH.cons rfl (fun K hK => ?_) AllReadyH.nil
            go_simp
            (go_at_call 50; refine (l1In_b _ _ _ _ _ HX.out).mono ?_; rintro e w1 ⟨rfl, hb1⟩)
            try go_wp2_with fail
            refine hK.out _ _ ?_ (fun hS2 => ?_)
            · (clear hK K; ((go_split_ands; (try dsimp only); (repeat' (with_reducible apply And.intro)) <;> (repeat (first | with_reducible assumption | with_reducible apply keep_alloc | with_reducible apply keep_drew | with_reducible refine keep_below hb1 ?_ | ((with_reducible refine keep_set ?_ ?_); rotate_left; (simp <;> omega)))))))
            clear hS hK K
            have hS := hS2
            clear hS2
            refine wpT (i := 6) (v := ?_) rfl rfl (by kernel_rfl) (by kernel_rfl) (by kernel_rfl) (fun _ _ _ h => h) (Or.inl ⟨by rfl, ?_⟩) hS ?_
            rotate_left
            · (intro w hSw; (try dsimp only at hSw); go_simp; first | done | with_reducible rfl)
            simp only [List.setIfInBounds_toArray, List.set_cons_zero, List.set_cons_succ]
            refine wpT (i := 7) (v := ?_) rfl rfl (by kernel_rfl) (by kernel_rfl) (by kernel_rfl) (fun _ _ _ h => h) (Or.inl ⟨by rfl, ?_⟩) hS ?_
            rotate_left
            · (intro w hSw; (try dsimp only at hSw); go_simp; first | done | with_reducible rfl)
            simp only [List.setIfInBounds_toArray, List.set_cons_zero, List.set_cons_succ]
            refine wpT (i := 8) (v := ?_) rfl rfl (by kernel_rfl) (by kernel_rfl) (by kernel_rfl) (fun _ _ _ h => h) (Or.inl ⟨by rfl, ?_⟩) hS ?_
            rotate_left
            · (intro w hSw; (try dsimp only at hSw); go_simp; first | done | with_reducible rfl)
            simp only [List.setIfInBounds_toArray, List.set_cons_zero, List.set_cons_succ]
            refine wpT (i := 9) (v := ?_) rfl rfl (by kernel_rfl) (by kernel_rfl) (by kernel_rfl) (fun _ _ _ h => h) (Or.inl ⟨by rfl, ?_⟩) hS ?_
            rotate_left
            · (intro w hSw; (try dsimp only at hSw); go_simp; first | done | with_reducible rfl)
            simp only [List.setIfInBounds_toArray, List.set_cons_zero, List.set_cons_succ]
            refine wpT (i := 10) (v := ?_) rfl rfl (by kernel_rfl) (by kernel_rfl) (by kernel_rfl) (fun _ _ _ h => h) (Or.inl ⟨by rfl, ?_⟩) hS ?_
            rotate_left
            · (intro w hSw; (try dsimp only at hSw); go_simp; first | done | with_reducible rfl)
            simp only [List.setIfInBounds_toArray, List.set_cons_zero, List.set_cons_succ]
            refine wpT (i := 11) (v := ?_) rfl rfl (by kernel_rfl) (by kernel_rfl) (by kernel_rfl) (fun _ _ _ h => h) (Or.inl ⟨by rfl, ?_⟩) hS ?_
            rotate_left
            · (intro w hSw; (try dsimp only at hSw); go_simp; first | done | with_reducible rfl)
            simp only [List.setIfInBounds_toArray, List.set_cons_zero, List.set_cons_succ]
            refine wpT (i := 12) (v := ?_) rfl rfl (by kernel_rfl) (by kernel_rfl) (by kernel_rfl) (fun _ _ _ h => h) (Or.inl ⟨by rfl, ?_⟩) hS ?_
            rotate_left
            · (intro w hSw; (try dsimp only at hSw); go_simp; first | done | with_reducible rfl)
            simp only [List.setIfInBounds_toArray, List.set_cons_zero, List.set_cons_succ]
            refine wpAnyH_ready (rs := [13]) (by kernel_rfl) (by simp) ?_
            refine AllReadyH.cons rfl (fun K hK => ?_) AllReadyH.nil
            go_simp
            (go_at_call 50; refine (l1In_b _ _ _ _ _ HY.out).mono ?_; rintro e w2 ⟨rfl, hb2⟩)
            try go_wp2_with fail
            refine hK.out _ _ ?_ (fun hS2 => ?_)
            · (clear hK K; ((go_split_ands; (try dsimp only); (repeat' (with_reducible apply And.intro)) <;> (repeat (first | with_reducible assumption | with_reducible apply keep_alloc | with_reducible apply keep_drew | with_reducible refine keep_below hb2 ?_ | ((with_reducible refine keep_set ?_ ?_); rotate_left; (simp <;> omega)))))))
            clear hS hK K
            have hS := hS2
            clear hS2
            refine wpT (i := 14) (v := ?_) rfl rfl (by kernel_rfl) (by kernel_rfl) (by kernel_rfl) (fun _ _ _ h => h) (Or.inl ⟨by rfl, ?_⟩) hS ?_
            rotate_left
            · (intro w hSw; (try dsimp only at hSw); go_simp; first | done | with_reducible rfl)
            simp only [List.setIfInBounds_toArray, List.set_cons_zero, List.set_cons_succ]
            refine wpT (i := 15) (v := ?_) rfl rfl (by kernel_rfl) (by kernel_rfl) (by kernel_rfl) (fun _ _ _ h => h) (Or.inl ⟨by rfl, ?_⟩) hS ?_
            rotate_left
            · (intro w hSw; (try dsimp only at hSw); go_simp; first | done | with_reducible rfl)
            simp only [List.setIfInBounds_toArray, List.set_cons_zero, List.set_cons_succ]
            refine wpT (i := 16) (v := ?_) rfl rfl (by kernel_rfl) (by kernel_rfl) (by kernel_rfl) (fun _ _ _ h => h) (Or.inl ⟨by rfl, ?_⟩) hS ?_
            rotate_left
            · (intro w hSw; (try dsimp only at hSw); go_simp; first | done | with_reducible rfl)
            simp only [List.setIfInBounds_toArray, List.set_cons_zero, List.set_cons_succ]
            refine wpT (i := 17) (v := undef) rfl rfl (by kernel_rfl) (by kernel_rfl) (by kernel_rfl) (fun _ _ _ h => h) (Or.inr ⟨by rfl, rfl⟩) hS ?_
            simp only [List.setIfInBounds_toArray, List.set_cons_zero, List.set_cons_succ]
            refine wpT (i := 18) (v := undef) rfl rfl (by kernel_rfl) (by kernel_rfl) (by kernel_rfl) (fun _ _ _ h => h) (Or.inr ⟨by rfl, rfl⟩) hS ?_
            simp only [List.setIfInBounds_toArray, List.set_cons_zero, List.set_cons_succ]
            refine wpT (i := 19) (v := undef) rfl rfl (by kernel_rfl) (by kernel_rfl) (by kernel_rfl) (fun _ _ _ h => h) (Or.inr ⟨by rfl, rfl⟩) hS ?_
            simp only [List.setIfInBounds_toArray, List.set_cons_zero, List.set_cons_succ]
            refine wpT (i := 20) (v := undef) rfl rfl (by kernel_rfl) (by kernel_rfl) (by kernel_rfl) (fun _ _ _ h => h) (Or.inr ⟨by rfl, rfl⟩) hS ?_
            simp only [List.setIfInBounds_toArray, List.set_cons_zero, List.set_cons_succ]
            refine wpT (i := 21) (v := undef) rfl rfl (by kernel_rfl) (by kernel_rfl) (by kernel_rfl) (fun _ _ _ h => h) (Or.inr ⟨by rfl, rfl⟩) hS ?_
            simp only [List.setIfInBounds_toArray, List.set_cons_zero, List.set_cons_succ]
            refine wpT (i := 22) (v := undef) rfl rfl (by kernel_rfl) (by kernel_rfl) (by kernel_rfl) (fun _ _ _ h => h) (Or.inr ⟨by rfl, rfl⟩) hS ?_
            simp only [List.setIfInBounds_toArray, List.set_cons_zero, List.set_cons_succ]
            refine wpT (i := 23) (v := undef) rfl rfl (by kernel_rfl) (by kernel_rfl) (by kernel_rfl) (fun _ _ _ h => h) (Or.inr ⟨by rfl, rfl⟩) hS ?_
            simp only [List.setIfInBounds_toArray, List.set_cons_zero, List.set_cons_succ]
            refine wpT (i := 24) (v := undef) rfl rfl (by kernel_rfl) (by kernel_rfl) (by kernel_rfl) (fun _ _ _ h => h) (Or.inr ⟨by rfl, rfl⟩) hS ?_
            simp only [List.setIfInBounds_toArray, List.set_cons_zero, List.set_cons_succ]
            refine wpT (i := 25) (v := undef) rfl rfl (by kernel_rfl) (by kernel_rfl) (by kernel_rfl) (fun _ _ _ h => h) (Or.inr ⟨by rfl, rfl⟩) hS ?_
            simp only [List.setIfInBounds_toArray, List.set_cons_zero, List.set_cons_succ]
            refine wpT (i := 26) (v := undef) rfl rfl (by kernel_rfl) (by kernel_rfl) (by kernel_rfl) (fun _ _ _ h => h) (Or.inr ⟨by rfl, rfl⟩) hS ?_
            simp only [List.setIfInBounds_toArray, List.set_cons_zero, List.set_cons_succ]
            refine wpT (i := 27) (v := undef) rfl rfl (by kernel_rfl) (by kernel_rfl) (by kernel_rfl) (fun _ _ _ h => h) (Or.inr ⟨by rfl, rfl⟩) hS ?_
            simp only [List.setIfInBounds_toArray, List.set_cons_zero, List.set_cons_succ]
            refine wpT (i := 28) (v := undef) rfl rfl (by kernel_rfl) (by kernel_rfl) (by kernel_rfl) (fun _ _ _ h => h) (Or.inr ⟨by rfl, rfl⟩) hS ?_
            simp only [List.setIfInBounds_toArray, List.set_cons_zero, List.set_cons_succ]
            refine wpT (i := 29) (v := undef) rfl rfl (by kernel_rfl) (by kernel_rfl) (by kernel_rfl) (fun _ _ _ h => h) (Or.inr ⟨by rfl, rfl⟩) hS ?_
            simp only [List.setIfInBounds_toArray, List.set_cons_zero, List.set_cons_succ]
            refine wpT (i := 30) (v := undef) rfl rfl (by kernel_rfl) (by kernel_rfl) (by kernel_rfl) (fun _ _ _ h => h) (Or.inr ⟨by rfl, rfl⟩) hS ?_
            simp only [List.setIfInBounds_toArray, List.set_cons_zero, List.set_cons_succ]
            refine wpT (i := 31) (v := undef) rfl rfl (by kernel_rfl) (by kernel_rfl) (by kernel_rfl) (fun _ _ _ h => h) (Or.inr ⟨by rfl, rfl⟩) hS ?_
            simp only [List.setIfInBounds_toArray, List.set_cons_zero, List.set_cons_succ]
            refine wpT (i := 32) (v := ?_) rfl rfl (by kernel_rfl) (by kernel_rfl) (by kernel_rfl) (fun _ _ _ h => h) (Or.inl ⟨by rfl, ?_⟩) hS ?_
            rotate_left
            · (intro w hSw; (try dsimp only at hSw); go_simp; first | done | with_reducible rfl)
            simp only [List.setIfInBounds_toArray, List.set_cons_zero, List.set_cons_succ]
            refine wpAnyH_done (by kernel_rfl) ?_ _
            refine NoPanic.normal ?_
            go_wp2_with fail
            go_meet
            exact ⟨by rw [HV.out]; rfl, (by (repeat (first | with_reducible exact Below.refl _ _ | with_reducible assumption | with_reducible apply bel_alloc | with_reducible apply bel_drew | with_reducible apply bel_drewN | ((with_reducible refine bel_set ?_ ?_); rotate_left; (simp <;> omega)) | (with_reducible refine bel_trans ?_ (by with_reducible assumption)))))⟩
          | true =>
            have ho : onB (x, y) = true := by rw [onB_split, hbx, hby]; rfl
            have HX := Lib.hid hbx.symm
            have HY := Lib.hid hby.symm
            clear hbx hby
            by_cases hk0 : 0 < k
            · obtain ⟨j, hj⟩ : ∃ j, k = j + 1 := ⟨k - 1, by omega⟩
              have hkj : (k : Int) - 1 = (j : Int) := by omega
              have hj0 : (0 : Int) ≤ (j : Int) := by omega
              have hj1 : (j : Int) < (n : Int) := by omega
              have hjw : IntKind.i64.wrap (j : Int) = (j : Int) := IntWalk.i64_in _ (by omega)
              have hk2 : (0 : Int) < (k : Int) := by omega
              have hjx : j < xs.length := by omega
              have d1 : wr.cell? ⟨g, off + j * 2, none⟩ = some (.int .i64 xs[j].1) := by
                obtain ⟨g', off', e, _, h1, _⟩ := RdC.at_ hrw hjx
                simp only [Option.some.injEq, Addr.mk.injEq, and_true] at e
                obtain ⟨rfl, rfl⟩ := e
                exact h1
              have d2 : wr.cell? ⟨g, off + j * 2 + 1, none⟩ = some (.int .i64 xs[j].2) := by
                obtain ⟨g', off', e, _, _, h1⟩ := RdC.at_ hrw hjx
                simp only [Option.some.injEq, Addr.mk.injEq, and_true] at e
                obtain ⟨rfl, rfl⟩ := e
                exact h1
              obtain ⟨⟨x', y'⟩, hx'⟩ : ∃ p, xs[j] = p := ⟨_, rfl⟩
              rw [hx'] at d1 d2
              have HV : Hid (shapeAt xs k (x, y) = befC (x', y') (x, y)) := by
                unfold Hid shapeAt
                rw [ho, Bool.true_and, show (k == 0) = false from by simp; omega, Bool.false_or, show k - 1 = j from by omega, List.getD_eq_getElem?_getD, List.getElem?_eq_getElem hjx, hx']; rfl
              clear ho hx' hj
              refine wp_region_noPanic ?_
              refine wp_region_held_drew (S := (fun w' => w'.cell? ⟨g, off + k * 2, none⟩ = some (.int .i64 x) ∧ w'.cell? ⟨g, off + k * 2 + 1, none⟩ = some (.int .i64 y) ∧ w'.cell? ⟨g, off + j * 2, none⟩ = some (.int .i64 x') ∧ w'.cell? ⟨g, off + j * 2 + 1, none⟩ = some (.int .i64 y'))) (by kernel_rfl) ?_ (fun hS => ?_)
              · ((go_split_ands; (try dsimp only); (repeat' (with_reducible apply And.intro)) <;> (repeat (first | with_reducible assumption | with_reducible apply keep_alloc | with_reducible apply keep_drew | with_reducible refine keep_below hb1 ?_ | ((with_reducible refine keep_set ?_ ?_); rotate_left; (simp <;> omega))))))
              refine wpT (i := 0) (v := ?_) rfl rfl (by kernel_rfl) (by kernel_rfl) (by kernel_rfl) (fun _ _ _ h => h) (Or.inl ⟨by rfl, ?_⟩) hS ?_
              rotate_left
              · (intro w hSw; (try dsimp only at hSw); go_simp; first | done | with_reducible rfl)
              simp only [List.setIfInBounds_toArray, List.set_cons_zero, List.set_cons_succ]
              refine wpT (i := 1) (v := ?_) rfl rfl (by kernel_rfl) (by kernel_rfl) (by kernel_rfl) (fun _ _ _ h => h) (Or.inl ⟨by rfl, ?_⟩) hS ?_
              rotate_left
              · (intro w hSw; (try dsimp only at hSw); go_simp; first | done | with_reducible rfl)
              simp only [List.setIfInBounds_toArray, List.set_cons_zero, List.set_cons_succ]
              refine wpT (i := 2) (v := ?_) rfl rfl (by kernel_rfl) (by kernel_rfl) (by kernel_rfl) (fun _ _ _ h => h) (Or.inl ⟨by rfl, ?_⟩) hS ?_
              rotate_left
              · (intro w hSw; (try dsimp only at hSw); go_simp; first | done | with_reducible rfl)
              simp only [List.setIfInBounds_toArray, List.set_cons_zero, List.set_cons_succ]
              refine wpT (i := 3) (v := ?_) rfl rfl (by kernel_rfl) (by kernel_rfl) (by kernel_rfl) (fun _ _ _ h => h) (Or.inl ⟨by rfl, ?_⟩) hS ?_
              rotate_left
              · (intro w hSw; (try dsimp only at hSw); go_simp; first | done | with_reducible rfl)
              simp only [List.setIfInBounds_toArray, List.set_cons_zero, List.set_cons_succ]
              refine wpT (i := 4) (v := ?_) rfl rfl (by kernel_rfl) (by kernel_rfl) (by kernel_rfl) (fun _ _ _ h => h) (Or.inl ⟨by rfl, ?_⟩) hS ?_
              rotate_left
              · (intro w hSw; (try dsimp only at hSw); go_simp; first | done | with_reducible rfl)
              simp only [List.setIfInBounds_toArray, List.set_cons_zero, List.set_cons_succ]
              refine wpAnyH_ready (rs := [5]) (by kernel_rfl) (by simp) ?_
              refine AllReadyH.cons rfl (fun K hK => ?_) AllReadyH.nil
              go_simp
              (go_at_call 50; refine (l1In_b _ _ _ _ _ HX.out).mono ?_; rintro e w1 ⟨rfl, hb1⟩)
              try go_wp2_with fail
              refine hK.out _ _ ?_ (fun hS2 => ?_)
              · (clear hK K; ((go_split_ands; (try dsimp only); (repeat' (with_reducible apply And.intro)) <;> (repeat (first | with_reducible assumption | with_reducible apply keep_alloc | with_reducible apply keep_drew | with_reducible refine keep_below hb1 ?_ | ((with_reducible refine keep_set ?_ ?_); rotate_left; (simp <;> omega)))))))
              clear hS hK K
              have hS := hS2
              clear hS2
              refine wpT (i := 6) (v := ?_) rfl rfl (by kernel_rfl) (by kernel_rfl) (by kernel_rfl) (fun _ _ _ h => h) (Or.inl ⟨by rfl, ?_⟩) hS ?_
              rotate_left
              · (intro w hSw; (try dsimp only at hSw); go_simp; first | done | with_reducible rfl)
              simp only [List.setIfInBounds_toArray, List.set_cons_zero, List.set_cons_succ]
              refine wpT (i := 7) (v := ?_) rfl rfl (by kernel_rfl) (by kernel_rfl) (by kernel_rfl) (fun _ _ _ h => h) (Or.inl ⟨by rfl, ?_⟩) hS ?_
              rotate_left
              · (intro w hSw; (try dsimp only at hSw); go_simp; first | done | with_reducible rfl)
              simp only [List.setIfInBounds_toArray, List.set_cons_zero, List.set_cons_succ]
              refine wpT (i := 8) (v := ?_) rfl rfl (by kernel_rfl) (by kernel_rfl) (by kernel_rfl) (fun _ _ _ h => h) (Or.inl ⟨by rfl, ?_⟩) hS ?_
              rotate_left
              · (intro w hSw; (try dsimp only at hSw); go_simp; first | done | with_reducible rfl)
              simp only [List.setIfInBounds_toArray, List.set_cons_zero, List.set_cons_succ]
              refine wpT (i := 9) (v := ?_) rfl rfl (by kernel_rfl) (by kernel_rfl) (by kernel_rfl) (fun _ _ _ h => h) (Or.inl ⟨by rfl, ?_⟩) hS ?_
              rotate_left
              · (intro w hSw; (try dsimp only at hSw); go_simp; first | done | with_reducible rfl)
              simp only [List.setIfInBounds_toArray, List.set_cons_zero, List.set_cons_succ]
              refine wpT (i := 10) (v := ?_) rfl rfl (by kernel_rfl) (by kernel_rfl) (by kernel_rfl) (fun _ _ _ h => h) (Or.inl ⟨by rfl, ?_⟩) hS ?_
              rotate_left
              · (intro w hSw; (try dsimp only at hSw); go_simp; first | done | with_reducible rfl)
              simp only [List.setIfInBounds_toArray, List.set_cons_zero, List.set_cons_succ]
              refine wpT (i := 11) (v := ?_) rfl rfl (by kernel_rfl) (by kernel_rfl) (by kernel_rfl) (fun _ _ _ h => h) (Or.inl ⟨by rfl, ?_⟩) hS ?_
              rotate_left
              · (intro w hSw; (try dsimp only at hSw); go_simp; first | done | with_reducible rfl)
              simp only [List.setIfInBounds_toArray, List.set_cons_zero, List.set_cons_succ]
              refine wpT (i := 12) (v := ?_) rfl rfl (by kernel_rfl) (by kernel_rfl) (by kernel_rfl) (fun _ _ _ h => h) (Or.inl ⟨by rfl, ?_⟩) hS ?_
              rotate_left
              · (intro w hSw; (try dsimp only at hSw); go_simp; first | done | with_reducible rfl)
              simp only [List.setIfInBounds_toArray, List.set_cons_zero, List.set_cons_succ]
              refine wpAnyH_ready (rs := [13]) (by kernel_rfl) (by simp) ?_
              refine AllReadyH.cons rfl (fun K hK => ?_) AllReadyH.nil
              go_simp
              (go_at_call 50; refine (l1In_b _ _ _ _ _ HY.out).mono ?_; rintro e w2 ⟨rfl, hb2⟩)
              try go_wp2_with fail
              refine hK.out _ _ ?_ (fun hS2 => ?_)
              · (clear hK K; ((go_split_ands; (try dsimp only); (repeat' (with_reducible apply And.intro)) <;> (repeat (first | with_reducible assumption | with_reducible apply keep_alloc | with_reducible apply keep_drew | with_reducible refine keep_below hb2 ?_ | ((with_reducible refine keep_set ?_ ?_); rotate_left; (simp <;> omega)))))))
              clear hS hK K
              have hS := hS2
              clear hS2
              refine wpT (i := 14) (v := ?_) rfl rfl (by kernel_rfl) (by kernel_rfl) (by kernel_rfl) (fun _ _ _ h => h) (Or.inl ⟨by rfl, ?_⟩) hS ?_
              rotate_left
              · (intro w hSw; (try dsimp only at hSw); go_simp; first | done | with_reducible rfl)
              simp only [List.setIfInBounds_toArray, List.set_cons_zero, List.set_cons_succ]
              refine wpT (i := 15) (v := ?_) rfl rfl (by kernel_rfl) (by kernel_rfl) (by kernel_rfl) (fun _ _ _ h => h) (Or.inl ⟨by rfl, ?_⟩) hS ?_
              rotate_left
              · (intro w hSw; (try dsimp only at hSw); go_simp; first | done | with_reducible rfl)
              simp only [List.setIfInBounds_toArray, List.set_cons_zero, List.set_cons_succ]
              refine wpT (i := 16) (v := ?_) rfl rfl (by kernel_rfl) (by kernel_rfl) (by kernel_rfl) (fun _ _ _ h => h) (Or.inl ⟨by rfl, ?_⟩) hS ?_
              rotate_left
              · (intro w hSw; (try dsimp only at hSw); go_simp; first | done | with_reducible rfl)
              simp only [List.setIfInBounds_toArray, List.set_cons_zero, List.set_cons_succ]
              refine wpT (i := 17) (v := ?_) rfl rfl (by kernel_rfl) (by kernel_rfl) (by kernel_rfl) (fun _ _ _ h => h) (Or.inl ⟨by rfl, ?_⟩) hS ?_
              rotate_left
              · (intro w hSw; (try dsimp only at hSw); go_simp; first | done | with_reducible rfl)
              simp only [List.setIfInBounds_toArray, List.set_cons_zero, List.set_cons_succ]
              refine wpT (i := 18) (v := ?_) rfl rfl (by kernel_rfl) (by kernel_rfl) (by kernel_rfl) (fun _ _ _ h => h) (Or.inl ⟨by rfl, ?_⟩) hS ?_
              rotate_left
              · (intro w hSw; (try dsimp only at hSw); go_simp; first | done | with_reducible rfl)
              simp only [List.setIfInBounds_toArray, List.set_cons_zero, List.set_cons_succ]
              refine wpT (i := 19) (v := ?_) rfl rfl (by kernel_rfl) (by kernel_rfl) (by kernel_rfl) (fun _ _ _ h => h) (Or.inl ⟨by rfl, ?_⟩) hS ?_
              rotate_left
              · (intro w hSw; (try dsimp only at hSw); go_simp; first | done | with_reducible rfl)
              simp only [List.setIfInBounds_toArray, List.set_cons_zero, List.set_cons_succ]
              refine wpT (i := 20) (v := ?_) rfl rfl (by kernel_rfl) (by kernel_rfl) (by kernel_rfl) (fun _ _ _ h => h) (Or.inl ⟨by rfl, ?_⟩) hS ?_
              rotate_left
              · (intro w hSw; (try dsimp only at hSw); go_simp; first | done | with_reducible rfl)
              simp only [List.setIfInBounds_toArray, List.set_cons_zero, List.set_cons_succ]
              refine wpT (i := 21) (v := ?_) rfl rfl (by kernel_rfl) (by kernel_rfl) (by kernel_rfl) (fun _ _ _ h => h) (Or.inl ⟨by rfl, ?_⟩) hS ?_
              rotate_left
              · (intro w hSw; (try dsimp only at hSw); go_simp; first | done | with_reducible rfl)
              simp only [List.setIfInBounds_toArray, List.set_cons_zero, List.set_cons_succ]
              refine wpT (i := 22) (v := ?_) rfl rfl (by kernel_rfl) (by kernel_rfl) (by kernel_rfl) (fun _ _ _ h => h) (Or.inl ⟨by rfl, ?_⟩) hS ?_
              rotate_left
              · (intro w hSw; (try dsimp only at hSw); go_simp; first | done | with_reducible rfl)
              simp only [List.setIfInBounds_toArray, List.set_cons_zero, List.set_cons_succ]
              refine wpT (i := 23) (v := ?_) rfl rfl (by kernel_rfl) (by kernel_rfl) (by kernel_rfl) (fun _ _ _ h => h) (Or.inl ⟨by rfl, ?_⟩) hS ?_
              rotate_left
              · (intro w hSw; (try dsimp only at hSw); go_simp; first | done | with_reducible rfl)
              simp only [List.setIfInBounds_toArray, List.set_cons_zero, List.set_cons_succ]
              refine wpT (i := 24) (v := ?_) rfl rfl (by kernel_rfl) (by kernel_rfl) (by kernel_rfl) (fun _ _ _ h => h) (Or.inl ⟨by rfl, ?_⟩) hS ?_
              rotate_left
              · (intro w hSw; (try dsimp only at hSw); go_simp; first | done | with_reducible rfl)
              simp only [List.setIfInBounds_toArray, List.set_cons_zero, List.set_cons_succ]
              refine wpT (i := 25) (v := ?_) rfl rfl (by kernel_rfl) (by kernel_rfl) (by kernel_rfl) (fun _ _ _ h => h) (Or.inl ⟨by rfl, ?_⟩) hS ?_
              rotate_left
              · (intro w hSw; (try dsimp only at hSw); go_simp; first | done | with_reducible rfl)
              simp only [List.setIfInBounds_toArray, List.set_cons_zero, List.set_cons_succ]
              refine wpT (i := 26) (v := ?_) rfl rfl (by kernel_rfl) (by kernel_rfl) (by kernel_rfl) (fun _ _ _ h => h) (Or.inl ⟨by rfl, ?_⟩) hS ?_
              rotate_left
              · (intro w hSw; (try dsimp only at hSw); go_simp; first | done | with_reducible rfl)
              simp only [List.setIfInBounds_toArray, List.set_cons_zero, List.set_cons_succ]
              refine wpT (i := 27) (v := ?_) rfl rfl (by kernel_rfl) (by kernel_rfl) (by kernel_rfl) (fun _ _ _ h => h) (Or.inl ⟨by rfl, ?_⟩) hS ?_
              rotate_left
              · (intro w hSw; (try dsimp only at hSw); go_simp; first | done | with_reducible rfl)
              simp only [List.setIfInBounds_toArray, List.set_cons_zero, List.set_cons_succ]
              refine wpT (i := 28) (v := ?_) rfl rfl (by kernel_rfl) (by kernel_rfl) (by kernel_rfl) (fun _ _ _ h => h) (Or.inl ⟨by rfl, ?_⟩) hS ?_
              rotate_left
              · (intro w hSw; (try dsimp only at hSw); go_simp; first | done | with_reducible rfl)
              simp only [List.setIfInBounds_toArray, List.set_cons_zero, List.set_cons_succ]
              refine wpAnyH_ready (rs := [29]) (by kernel_rfl) (by simp) ?_
              refine AllReadyH.cons rfl (fun K hK => ?_) AllReadyH.nil
              go_simp
              (go_at_call 84; refine (l2Before_s _ _ _ _ _).mono ?_; rintro e w3 ⟨rfl, hb3⟩)
              try go_wp2_with fail
              refine hK.out _ _ ?_ (fun hS2 => ?_)
              · (clear hK K; ((go_split_ands; (try dsimp only); (repeat' (with_reducible apply And.intro)) <;> (repeat (first | with_reducible assumption | with_reducible apply keep_alloc | with_reducible apply keep_drew | with_reducible refine keep_below hb3 ?_ | ((with_reducible refine keep_set ?_ ?_); rotate_left; (simp <;> omega)))))))
              clear hS hK K
              have hS := hS2
              clear hS2
              refine wpT (i := 30) (v := ?_) rfl rfl (by kernel_rfl) (by kernel_rfl) (by kernel_rfl) (fun _ _ _ h => h) (Or.inl ⟨by rfl, ?_⟩) hS ?_
              rotate_left
              · (intro w hSw; (try dsimp only at hSw); go_simp; first | done | with_reducible rfl)
              simp only [List.setIfInBounds_toArray, List.set_cons_zero, List.set_cons_succ]
              refine wpT (i := 31) (v := ?_) rfl rfl (by kernel_rfl) (by kernel_rfl) (by kernel_rfl) (fun _ _ _ h => h) (Or.inl ⟨by rfl, ?_⟩) hS ?_
              rotate_left
              · (intro w hSw; (try dsimp only at hSw); go_simp; first | done | with_reducible rfl)
              simp only [List.setIfInBounds_toArray, List.set_cons_zero, List.set_cons_succ]
              refine wpT (i := 32) (v := ?_) rfl rfl (by kernel_rfl) (by kernel_rfl) (by kernel_rfl) (fun _ _ _ h => h) (Or.inl ⟨by rfl, ?_⟩) hS ?_
              rotate_left
              · (intro w hSw; (try dsimp only at hSw); go_simp; first | done | with_reducible rfl)
              simp only [List.setIfInBounds_toArray, List.set_cons_zero, List.set_cons_succ]
              refine wpAnyH_done (by kernel_rfl) ?_ _
              refine NoPanic.normal ?_
              go_wp2_with fail
              go_meet
              exact ⟨by rw [HV.out], (by (repeat (first | with_reducible exact Below.refl _ _ | with_reducible assumption | with_reducible apply bel_alloc | with_reducible apply bel_drew | with_reducible apply bel_drewN | ((with_reducible refine bel_set ?_ ?_); rotate_left; (simp <;> omega)) | (with_reducible refine bel_trans ?_ (by with_reducible assumption)))))⟩
            · have hk3 : k = 0 := by omega
              have HV : Hid (shapeAt xs k (x, y) = true) := by unfold Hid shapeAt; rw [ho, hk3]; rfl
              have hk2 : decide ((0 : Int) < (k : Int)) = false := by simp; omega
              have hk4 : ¬ (0 : Int) < (k : Int) := by omega
              clear ho hk3
              refine wp_region_noPanic ?_
              refine wp_region_held_drew (S := (fun w' => w'.cell? ⟨g, off + k * 2, none⟩ = some (.int .i64 x) ∧ w'.cell? ⟨g, off + k * 2 + 1, none⟩ = some (.int .i64 y))) (by kernel_rfl) ?_ (fun hS => ?_)
              · ((go_split_ands; (try dsimp only); (repeat' (with_reducible apply And.intro)) <;> (repeat (first | with_reducible assumption | with_reducible apply keep_alloc | with_reducible apply keep_drew | with_reducible refine keep_below hb1 ?_ | ((with_reducible refine keep_set ?_ ?_); rotate_left; (simp <;> omega))))))
              refine wpT (i := 0) (v := ?_) rfl rfl (by kernel_rfl) (by kernel_rfl) (by kernel_rfl) (fun _ _ _ h => h) (Or.inl ⟨by rfl, ?_⟩) hS ?_
              rotate_left
              · (intro w hSw; (try dsimp only at hSw); go_simp; first | done | with_reducible rfl)
              simp only [List.setIfInBounds_toArray, List.set_cons_zero, List.set_cons_succ]
              refine wpT (i := 1) (v := ?_) rfl rfl (by kernel_rfl) (by kernel_rfl) (by kernel_rfl) (fun _ _ _ h => h) (Or.inl ⟨by rfl, ?_⟩) hS ?_
              rotate_left
              · (intro w hSw; (try dsimp only at hSw); go_simp; first | done | with_reducible rfl)
              simp only [List.setIfInBounds_toArray, List.set_cons_zero, List.set_cons_succ]
              refine wpT (i := 2) (v := ?_) rfl rfl (by kernel_rfl) (by kernel_rfl) (by kernel_rfl) (fun _ _ _ h => h) (Or.inl ⟨by rfl, ?_⟩) hS ?_
              rotate_left
              · (intro w hSw; (try dsimp only at hSw); go_simp; first | done | with_reducible rfl)
              simp only [List.setIfInBounds_toArray, List.set_cons_zero, List.set_cons_succ]
              refine wpT (i := 3) (v := ?_) rfl rfl (by kernel_rfl) (by kernel_rfl) (by kernel_rfl) (fun _ _ _ h => h) (Or.inl ⟨by rfl, ?_⟩) hS ?_
              rotate_left
              · (intro w hSw; (try dsimp only at hSw); go_simp; first | done | with_reducible rfl)
              simp only [List.setIfInBounds_toArray, List.set_cons_zero, List.set_cons_succ]
              refine wpT (i := 4) (v := ?_) rfl rfl (by kernel_rfl) (by kernel_rfl) (by kernel_rfl) (fun _ _ _ h => h) (Or.inl ⟨by rfl, ?_⟩) hS ?_
              rotate_left
              · (intro w hSw; (try dsimp only at hSw); go_simp; first | done | with_reducible rfl)
              simp only [List.setIfInBounds_toArray, List.set_cons_zero, List.set_cons_succ]
              refine wpAnyH_ready (rs := [5]) (by kernel_rfl) (by simp) ?_
              refine AllReadyH.cons rfl (fun K hK => ?_) AllReadyH.nil
              go_simp
              (go_at_call 50; refine (l1In_b _ _ _ _ _ HX.out).mono ?_; rintro e w1 ⟨rfl, hb1⟩)
              try go_wp2_with fail
              refine hK.out _ _ ?_ (fun hS2 => ?_)
              · (clear hK K; ((go_split_ands; (try dsimp only); (repeat' (with_reducible apply And.intro)) <;> (repeat (first | with_reducible assumption | with_reducible apply keep_alloc | with_reducible apply keep_drew | with_reducible refine keep_below hb1 ?_ | ((with_reducible refine keep_set ?_ ?_); rotate_left; (simp <;> omega)))))))
              clear hS hK K
              have hS := hS2
              clear hS2
              refine wpT (i := 6) (v := ?_) rfl rfl (by kernel_rfl) (by kernel_rfl) (by kernel_rfl) (fun _ _ _ h => h) (Or.inl ⟨by rfl, ?_⟩) hS ?_
              rotate_left
              · (intro w hSw; (try dsimp only at hSw); go_simp; first | done | with_reducible rfl)
              simp only [List.setIfInBounds_toArray, List.set_cons_zero, List.set_cons_succ]
              refine wpT (i := 7) (v := ?_) rfl rfl (by kernel_rfl) (by kernel_rfl) (by kernel_rfl) (fun _ _ _ h => h) (Or.inl ⟨by rfl, ?_⟩) hS ?_
              rotate_left
              · (intro w hSw; (try dsimp only at hSw); go_simp; first | done | with_reducible rfl)
              simp only [List.setIfInBounds_toArray, List.set_cons_zero, List.set_cons_succ]
              refine wpT (i := 8) (v := ?_) rfl rfl (by kernel_rfl) (by kernel_rfl) (by kernel_rfl) (fun _ _ _ h => h) (Or.inl ⟨by rfl, ?_⟩) hS ?_
              rotate_left
              · (intro w hSw; (try dsimp only at hSw); go_simp; first | done | with_reducible rfl)
              simp only [List.setIfInBounds_toArray, List.set_cons_zero, List.set_cons_succ]
              refine wpT (i := 9) (v := ?_) rfl rfl (by kernel_rfl) (by kernel_rfl) (by kernel_rfl) (fun _ _ _ h => h) (Or.inl ⟨by rfl, ?_⟩) hS ?_
              rotate_left
              · (intro w hSw; (try dsimp only at hSw); go_simp; first | done | with_reducible rfl)
              simp only [List.setIfInBounds_toArray, List.set_cons_zero, List.set_cons_succ]
              refine wpT (i := 10) (v := ?_) rfl rfl (by kernel_rfl) (by kernel_rfl) (by kernel_rfl) (fun _ _ _ h => h) (Or.inl ⟨by rfl, ?_⟩) hS ?_
              rotate_left
              · (intro w hSw; (try dsimp only at hSw); go_simp; first | done | with_reducible rfl)
              simp only [List.setIfInBounds_toArray, List.set_cons_zero, List.set_cons_succ]
              refine wpT (i := 11) (v := ?_) rfl rfl (by kernel_rfl) (by kernel_rfl) (by kernel_rfl) (fun _ _ _ h => h) (Or.inl ⟨by rfl, ?_⟩) hS ?_
              rotate_left
              · (intro w hSw; (try dsimp only at hSw); go_simp; first | done | with_reducible rfl)
              simp only [List.setIfInBounds_toArray, List.set_cons_zero, List.set_cons_succ]
              refine wpT (i := 12) (v := ?_) rfl rfl (by kernel_rfl) (by kernel_rfl) (by kernel_rfl) (fun _ _ _ h => h) (Or.inl ⟨by rfl, ?_⟩) hS ?_
              rotate_left
              · (intro w hSw; (try dsimp only at hSw); go_simp; first | done | with_reducible rfl)
              simp only [List.setIfInBounds_toArray, List.set_cons_zero, List.set_cons_succ]
              refine wpAnyH_ready (rs := [13]) (by kernel_rfl) (by simp) ?_
              refine AllReadyH.cons rfl (fun K hK => ?_) AllReadyH.nil
              go_simp
              (go_at_call 50; refine (l1In_b _ _ _ _ _ HY.out).mono ?_; rintro e w2 ⟨rfl, hb2⟩)
              try go_wp2_with fail
              refine hK.out _ _ ?_ (fun hS2 => ?_)
              · (clear hK K; ((go_split_ands; (try dsimp only); (repeat' (with_reducible apply And.intro)) <;> (repeat (first | with_reducible assumption | with_reducible apply keep_alloc | with_reducible apply keep_drew | with_reducible refine keep_below hb2 ?_ | ((with_reducible refine keep_set ?_ ?_); rotate_left; (simp <;> omega)))))))
              clear hS hK K
              have hS := hS2
              clear hS2
              refine wpT (i := 14) (v := ?_) rfl rfl (by kernel_rfl) (by kernel_rfl) (by kernel_rfl) (fun _ _ _ h => h) (Or.inl ⟨by rfl, ?_⟩) hS ?_
              rotate_left
              · (intro w hSw; (try dsimp only at hSw); go_simp; first | done | with_reducible rfl)
              simp only [List.setIfInBounds_toArray, List.set_cons_zero, List.set_cons_succ]
              refine wpT (i := 15) (v := ?_) rfl rfl (by kernel_rfl) (by kernel_rfl) (by kernel_rfl) (fun _ _ _ h => h) (Or.inl ⟨by rfl, ?_⟩) hS ?_
              rotate_left
              · (intro w hSw; (try dsimp only at hSw); go_simp; first | done | with_reducible rfl)
              simp only [List.setIfInBounds_toArray, List.set_cons_zero, List.set_cons_succ]
              refine wpT (i := 16) (v := ?_) rfl rfl (by kernel_rfl) (by kernel_rfl) (by kernel_rfl) (fun _ _ _ h => h) (Or.inl ⟨by rfl, ?_⟩) hS ?_
              rotate_left
              · (intro w hSw; (try dsimp only at hSw); go_simp; first | done | with_reducible rfl)
              simp only [List.setIfInBounds_toArray, List.set_cons_zero, List.set_cons_succ]
              refine wpT (i := 17) (v := ?_) rfl rfl (by kernel_rfl) (by kernel_rfl) (by kernel_rfl) (fun _ _ _ h => h) (Or.inl ⟨by rfl, ?_⟩) hS ?_
              rotate_left
              · (intro w hSw; (try dsimp only at hSw); go_simp; first | done | with_reducible rfl)
              simp only [List.setIfInBounds_toArray, List.set_cons_zero, List.set_cons_succ]
              refine wpT (i := 18) (v := ?_) rfl rfl (by kernel_rfl) (by kernel_rfl) (by kernel_rfl) (fun _ _ _ h => h) (Or.inl ⟨by rfl, ?_⟩) hS ?_
              rotate_left
              · (intro w hSw; (try dsimp only at hSw); go_simp; first | done | with_reducible rfl)
              simp only [List.setIfInBounds_toArray, List.set_cons_zero, List.set_cons_succ]
              refine wpT (i := 19) (v := ?_) rfl rfl (by kernel_rfl) (by kernel_rfl) (by kernel_rfl) (fun _ _ _ h => h) (Or.inl ⟨by rfl, ?_⟩) hS ?_
              rotate_left
              · (intro w hSw; (try dsimp only at hSw); go_simp; first | done | with_reducible rfl)
              simp only [List.setIfInBounds_toArray, List.set_cons_zero, List.set_cons_succ]
              refine wpT (i := 20) (v := undef) rfl rfl (by kernel_rfl) (by kernel_rfl) (by kernel_rfl) (fun _ _ _ h => h) (Or.inr ⟨by rfl, rfl⟩) hS ?_
              simp only [List.setIfInBounds_toArray, List.set_cons_zero, List.set_cons_succ]
              refine wpT (i := 21) (v := undef) rfl rfl (by kernel_rfl) (by kernel_rfl) (by kernel_rfl) (fun _ _ _ h => h) (Or.inr ⟨by rfl, rfl⟩) hS ?_
              simp only [List.setIfInBounds_toArray, List.set_cons_zero, List.set_cons_succ]
              refine wpT (i := 22) (v := undef) rfl rfl (by kernel_rfl) (by kernel_rfl) (by kernel_rfl) (fun _ _ _ h => h) (Or.inr ⟨by rfl, rfl⟩) hS ?_
              simp only [List.setIfInBounds_toArray, List.set_cons_zero, List.set_cons_succ]
              refine wpT (i := 23) (v := undef) rfl rfl (by kernel_rfl) (by kernel_rfl) (by kernel_rfl) (fun _ _ _ h => h) (Or.inr ⟨by rfl, rfl⟩) hS ?_
              simp only [List.setIfInBounds_toArray, List.set_cons_zero, List.set_cons_succ]
              refine wpT (i := 24) (v := undef) rfl rfl (by kernel_rfl) (by kernel_rfl) (by kernel_rfl) (fun _ _ _ h => h) (Or.inr ⟨by rfl, rfl⟩) hS ?_
              simp only [List.setIfInBounds_toArray, List.set_cons_zero, List.set_cons_succ]
              refine wpT (i := 25) (v := undef) rfl rfl (by kernel_rfl) (by kernel_rfl) (by kernel_rfl) (fun _ _ _ h => h) (Or.inr ⟨by rfl, rfl⟩) hS ?_
              simp only [List.setIfInBounds_toArray, List.set_cons_zero, List.set_cons_succ]
              refine wpT (i := 26) (v := undef) rfl rfl (by kernel_rfl) (by kernel_rfl) (by kernel_rfl) (fun _ _ _ h => h) (Or.inr ⟨by rfl, rfl⟩) hS ?_
              simp only [List.setIfInBounds_toArray, List.set_cons_zero, List.set_cons_succ]
              refine wpT (i := 27) (v := undef) rfl rfl (by kernel_rfl) (by kernel_rfl) (by kernel_rfl) (fun _ _ _ h => h) (Or.inr ⟨by rfl, rfl⟩) hS ?_
              simp only [List.setIfInBounds_toArray, List.set_cons_zero, List.set_cons_succ]
              refine wpT (i := 28) (v := undef) rfl rfl (by kernel_rfl) (by kernel_rfl) (by kernel_rfl) (fun _ _ _ h => h) (Or.inr ⟨by rfl, rfl⟩) hS ?_
              simp only [List.setIfInBounds_toArray, List.set_cons_zero, List.set_cons_succ]
              refine wpT (i := 29) (v := undef) rfl rfl (by kernel_rfl) (by kernel_rfl) (by kernel_rfl) (fun _ _ _ h => h) (Or.inr ⟨by rfl, rfl⟩) hS ?_
              simp only [List.setIfInBounds_toArray, List.set_cons_zero, List.set_cons_succ]
              refine wpT (i := 30) (v := undef) rfl rfl (by kernel_rfl) (by kernel_rfl) (by kernel_rfl) (fun _ _ _ h => h) (Or.inr ⟨by rfl, rfl⟩) hS ?_
              simp only [List.setIfInBounds_toArray, List.set_cons_zero, List.set_cons_succ]
              refine wpT (i := 31) (v := ?_) rfl rfl (by kernel_rfl) (by kernel_rfl) (by kernel_rfl) (fun _ _ _ h => h) (Or.inl ⟨by rfl, ?_⟩) hS ?_
              rotate_left
              · (intro w hSw; (try dsimp only at hSw); go_simp; first | done | with_reducible rfl)
              simp only [List.setIfInBounds_toArray, List.set_cons_zero, List.set_cons_succ]
              refine wpT (i := 32) (v := ?_) rfl rfl (by kernel_rfl) (by kernel_rfl) (by kernel_rfl) (fun _ _ _ h => h) (Or.inl ⟨by rfl, ?_⟩) hS ?_
              rotate_left
              · (intro w hSw; (try dsimp only at hSw); go_simp; first | done | with_reducible rfl)
              simp only [List.setIfInBounds_toArray, List.set_cons_zero, List.set_cons_succ]
              refine wpAnyH_done (by kernel_rfl) ?_ _
              refine NoPanic.normal ?_
              go_wp2_with fail
              go_meet
              exact ⟨by rw [HV.out]; rfl, (by (repeat (first | with_reducible exact Below.refl _ _ | with_reducible assumption | with_reducible apply bel_alloc | with_reducible apply bel_drew | with_reducible apply bel_drewN | ((with_reducible refine bel_set ?_ ?_); rotate_left; (simp <;> omega)) | (with_reducible refine bel_trans ?_ (by with_reducible assumption)))))⟩
      case rest =>
        obtain ⟨rfl, hb3⟩ := hcut
        cases hg : shapeAt xs k (x, y) with
        | true =>
          have HN : Hid (shapeTo xs (k + 1) = true) := by show shapeTo xs (k + 1) = true; rw [HS.out, HG.out, hg]; rfl
          clear hg
          go_wp2
          exact ⟨⟨k + 1, by omega, by go_num, HN.out, (by (repeat (first | with_reducible exact Below.refl _ _ | with_reducible assumption | with_reducible apply bel_alloc | with_reducible apply bel_drew | with_reducible apply bel_drewN | ((with_reducible refine bel_set ?_ ?_); rotate_left; (simp <;> omega)) | (with_reducible refine bel_trans ?_ (by with_reducible assumption)))))⟩, by simp [intOf]; omega⟩
        | false =>
          have HN := Lib.hid (HNO.out hg)
          clear hg
          go_wp2
          go_ret
          exact ⟨by rw [HN.out]; rfl, (by (repeat (first | with_reducible exact Below.refl _ _ | with_reducible assumption | with_reducible apply bel_alloc | with_reducible apply bel_drew | with_reducible apply bel_drewN | ((with_reducible refine bel_set ?_ ?_); rotate_left; (simp <;> omega)) | (with_reducible refine bel_trans ?_ (by with_reducible assumption)))))⟩
    · have hkk : k = n := by omega
      subst hkk
      have hv : isShape xs = (decide ((1 : Int) ≤ (k : Int)) && decide ((k : Int) ≤ 8)) := by
        unfold isShape
        rw [HL.out, hgo]
        rw [Bool.true_and]
        congr 1 <;> (rw [decide_eq_decide]; omega)
      have HV := Lib.hid hv
      clear hgo hv
      go_wp2_with (go_at_call 50; refine (l1In_b _ _ _ (isShape xs) _ HV.out).mono ?_; rintro e w1 ⟨rfl, hb1⟩)
      go_ret
      exact ⟨rfl, (by (repeat (first | with_reducible exact Below.refl _ _ | with_reducible assumption | with_reducible apply bel_alloc | with_reducible apply bel_drew | with_reducible apply bel_drewN | ((with_reducible refine bel_set ?_ ?_); rotate_left; (simp <;> omega)) | (with_reducible refine bel_trans ?_ (by with_reducible assumption)))))⟩
end Go.Proofs.Ytagkopemcabkpaa

/- The reference's IsConnectedShape. -/
namespace Go.Proofs.Ytagkopemcabkpaa
open Go.RowKit
set_option linter.unusedVariables false
attribute [local go_sem ↓] Go.wp_at_zero Go.wp_at_succ

set_option maxHeartbeats 1600000 in
theorem IsConnectedShape_s (A : Option Addr) (n c : Nat) (xs : List C) (w : World) (hr : Rd w A (vC xs)) (hl : xs.length = n) (hn : n ≤ 1099511627776) :
    Calls Try.prog 29 #[.slice A n c] w (Ret w (.bool (isConn xs))) := by
  have HL := Lib.hid hl
  cases hs : isShape xs with
  | false =>
    have HV : Hid (isConn xs = false) := by show isConn xs = false; unfold isConn; rw [hs]; rfl
    have HS := Lib.hid hs
    clear hs hl
    go_enter Try.func29, Try.ntmps29
    go_wp2_with (go_at_call 61; refine (IsShape_s _ _ _ xs _ hr HL.out (by omega)).mono ?_; rw [HS.out]; rintro e w1 ⟨rfl, hb1⟩)
    go_ret
    exact ⟨by rw [HV.out]; rfl, (by (repeat (first | with_reducible exact Below.refl _ _ | with_reducible assumption | with_reducible apply bel_alloc | with_reducible apply bel_drew | with_reducible apply bel_drewN | ((with_reducible refine bel_set ?_ ?_); rotate_left; (simp <;> omega)) | (with_reducible refine bel_trans ?_ (by with_reducible assumption)))))⟩
  | true =>
    have HV : Hid (isConn xs = conn xs) := by show isConn xs = conn xs; unfold isConn; rw [hs]; rfl
    have hlen := shape_len hs
    have hsm := shape_small hs
    have hn8 : n ≤ 8 := by omega
    have hn1 : 1 ≤ n := by omega
    have hnp : (0 : Int) < (n : Int) := by omega
    have h0x : 0 < xs.length := by omega
    have hI := Bfs.init xs (by omega)
    have hs0 : xs[0] = s0 xs := by simp [s0, List.getD_eq_getElem?_getD, h0x]
    have HS := Lib.hid hs
    have HSM := Lib.hid hsm
    have HI := Lib.hid hI
    have HS0 := Lib.hid hs0
    clear hs hlen hsm hl hn hI hs0
    go_enter Try.func29, Try.ntmps29
    go_wp2_with (go_at_call 61; refine (IsShape_s _ _ _ xs _ hr HL.out (by omega)).mono ?_; rw [HS.out]; rintro e w1 ⟨rfl, hb1⟩; obtain ⟨g0, off0, hA0, hg0, z1, z2⟩ := RdC.at_ (hr.below hb1) h0x; rw [HS0.out] at z1 z2; simp only [Nat.zero_mul, Nat.add_zero] at z1 z2; obtain ⟨⟨zx, zy⟩, hz⟩ : ∃ p, s0 xs = p := ⟨_, rfl⟩; rw [hz] at z1 z2; have HZ := Lib.hid hz; clear hz; subst hA0)
    have hbs := hb1.size
    go_loopw [4, 3] (fun l e wr => ∃ (i m cap : Nat) (B : Option Addr) (seen : List C), i ≤ m ∧ l = .int .i64 i ∧ seen.length = m ∧ e = .slice B m cap ∧ Bfs xs seen i 0 ∧ wr.ownsRow w.heap.size 55 2 (.slice B m cap) m (vC seen) ∧ Below w.heap.size w wr) (fun l _ _ => n - (intOf l).toNat)
    case atStart => exact ⟨0, 1, 1, _, [s0 xs], by omega, rfl, rfl, rfl, HI.out, by rw [HZ.out]; exact own_newC _ _ _ _ hbs, (by (repeat (first | with_reducible exact Below.refl _ _ | with_reducible assumption | with_reducible apply bel_alloc | with_reducible apply bel_drew | with_reducible apply bel_drewN | ((with_reducible refine bel_set ?_ ?_); rotate_left; (simp <;> omega)) | (with_reducible refine bel_trans ?_ (by with_reducible assumption)))))⟩
    case round =>
      clear HI HZ hb1 z1 z2 hg0 hbs
      obtain ⟨i, m, cap, B, seen, him, rfl, hm, rfl, hF, hown, hb⟩ := hrel
      have hmn : m ≤ n := by have := hF.len; have := HL.out; omega
      by_cases hlt : i < m
      · have HM := Lib.hid hm
        have HF := Lib.hid hF
        have HO := Lib.hid hown
        clear hm hF hown
        go_wp2
        go_loopw [5, 3] (fun l e wr => ∃ (j m cap : Nat) (B : Option Addr) (seen : List C), j ≤ n ∧ i < m ∧ l = .int .i64 j ∧ seen.length = m ∧ e = .slice B m cap ∧ Bfs xs seen i j ∧ wr.ownsRow w.heap.size 55 2 (.slice B m cap) m (vC seen) ∧ Below w.heap.size w wr) (fun l _ _ => n - (intOf l).toNat)
        case atStart => exact ⟨0, m, cap, B, seen, Nat.zero_le _, hlt, rfl, HM.out, rfl, HF.out, HO.out, hb⟩
        case round =>
          clear HM HF HO hb hmn him hlt
          obtain ⟨j, m, cap, B, seen, hj, him, rfl, hm, rfl, hF, hown, hb⟩ := hrel
          have hmn : m ≤ n := by have := hF.len; have := HL.out; omega
          by_cases hlj : j < n
          · have hix : i < seen.length := by omega
            have hjx : j < xs.length := by rw [HL.out]; omega
            have hrw := hr.below hb
            obtain ⟨g, off, hA, hgw, d1, d2⟩ := RdC.at_ hrw hjx
            simp only [Option.some.injEq, Addr.mk.injEq, and_true] at hA
            obtain ⟨rfl, rfl⟩ := hA
            have hrs := Rd.of_own hown
            obtain ⟨g2, off2, rfl, hgw2, c1, c2⟩ := RdC.at_ hrs hix
            have hne := nearS_eq (HSM.out _ (hF.sub _ (List.getElem_mem hix))) (HSM.out _ (List.getElem_mem hjx))
            have HPU : Hid (near seen[i] xs[j] = true → hasC seen xs[j].1 xs[j].2 = false → Bfs xs (seen ++ [xs[j]]) i (j + 1)) := fun h1 h2 => hF.push hix hjx h1 h2
            have HSK : Hid ((near seen[i] xs[j] && !hasC seen xs[j].1 xs[j].2) = false → Bfs xs seen i (j + 1)) := fun h1 => hF.skip hix hjx fun h2 => by rw [h2] at h1; simpa using h1
            obtain ⟨⟨x, y⟩, hx⟩ : ∃ p, seen[i] = p := ⟨_, rfl⟩
            obtain ⟨⟨x', y'⟩, hx'⟩ : ∃ p, xs[j] = p := ⟨_, rfl⟩
            rw [hx] at c1 c2
            rw [hx'] at d1 d2
            rw [hx, hx'] at hne HPU HSK
            have hi0 : (0 : Int) ≤ (i : Int) := by omega
            have hi1 : (i : Int) < (m : Int) := by omega
            have hi2 : (0 : Int) ≤ (j : Int) := by omega
            have hi3 : (j : Int) < (n : Int) := by omega
            have HM := Lib.hid hm
            have HO := Lib.hid hown
            have HW := Lib.hid hne
            have HRS := Lib.hid hrs
            clear hm hF hown hne hx hx' hrs
            go_upto_region 10 with fail
            go_cut [48] (fun s wx => s = .bool (near (x, y) (x', y') && !hasC seen x' y') ∧ Below wr.heap.size wr wx)
            case first =>
              cases hv : near (x, y) (x', y') with
              | false =>
                rw [hv] at HW
                have HVV := Lib.hid hv
                clear hv
                refine wp_region_noPanic ?_
                refine wp_region_held_drew (S := (fun w' => w'.cell? ⟨g2, off2 + i * 2, none⟩ = some (.int .i64 x) ∧ w'.cell? ⟨g2, off2 + i * 2 + 1, none⟩ = some (.int .i64 y) ∧ w'.cell? ⟨g0, off0 + j * 2, none⟩ = some (.int .i64 x') ∧ w'.cell? ⟨g0, off0 + j * 2 + 1, none⟩ = some (.int .i64 y'))) (by kernel_rfl) ?_ (fun hS => ?_)
                · ((go_split_ands; (try dsimp only); (repeat' (with_reducible apply And.intro)) <;> (repeat (first | with_reducible assumption | with_reducible apply keep_alloc | with_reducible apply keep_drew | with_reducible refine keep_below hb1 ?_ | ((with_reducible refine keep_set ?_ ?_); rotate_left; (simp <;> omega))))))
                refine wpT (i := 0) (v := ?_) rfl rfl (by kernel_rfl) (by kernel_rfl) (by kernel_rfl) (fun _ _ _ h => h) (Or.inl ⟨by rfl, ?_⟩) hS ?_
                rotate_left
                · (intro w hSw; (try dsimp only at hSw); go_simp; first | done | with_reducible rfl)
                simp only [List.setIfInBounds_toArray, List.set_cons_zero, List.set_cons_succ]
                refine wpT (i := 1) (v := ?_) rfl rfl (by kernel_rfl) (by kernel_rfl) (by kernel_rfl) (fun _ _ _ h => h) (Or.inl ⟨by rfl, ?_⟩) hS ?_
                rotate_left
                · (intro w hSw; (try dsimp only at hSw); go_simp; first | done | with_reducible rfl)
                simp only [List.setIfInBounds_toArray, List.set_cons_zero, List.set_cons_succ]
                refine wpT (i := 2) (v := ?_) rfl rfl (by kernel_rfl) (by kernel_rfl) (by kernel_rfl) (fun _ _ _ h => h) (Or.inl ⟨by rfl, ?_⟩) hS ?_
                rotate_left
                · (intro w hSw; (try dsimp only at hSw); go_simp; first | done | with_reducible rfl)
                simp only [List.setIfInBounds_toArray, List.set_cons_zero, List.set_cons_succ]
                refine wpT (i := 3) (v := ?_) rfl rfl (by kernel_rfl) (by kernel_rfl) (by kernel_rfl) (fun _ _ _ h => h) (Or.inl ⟨by rfl, ?_⟩) hS ?_
                rotate_left
                · (intro w hSw; (try dsimp only at hSw); go_simp; first | done | with_reducible rfl)
                simp only [List.setIfInBounds_toArray, List.set_cons_zero, List.set_cons_succ]
                refine wpT (i := 4) (v := ?_) rfl rfl (by kernel_rfl) (by kernel_rfl) (by kernel_rfl) (fun _ _ _ h => h) (Or.inl ⟨by rfl, ?_⟩) hS ?_
                rotate_left
                · (intro w hSw; (try dsimp only at hSw); go_simp; first | done | with_reducible rfl)
                simp only [List.setIfInBounds_toArray, List.set_cons_zero, List.set_cons_succ]
                refine wpT (i := 5) (v := ?_) rfl rfl (by kernel_rfl) (by kernel_rfl) (by kernel_rfl) (fun _ _ _ h => h) (Or.inl ⟨by rfl, ?_⟩) hS ?_
                rotate_left
                · (intro w hSw; (try dsimp only at hSw); go_simp; first | done | with_reducible rfl)
                simp only [List.setIfInBounds_toArray, List.set_cons_zero, List.set_cons_succ]
                refine wpT (i := 6) (v := ?_) rfl rfl (by kernel_rfl) (by kernel_rfl) (by kernel_rfl) (fun _ _ _ h => h) (Or.inl ⟨by rfl, ?_⟩) hS ?_
                rotate_left
                · (intro w hSw; (try dsimp only at hSw); go_simp; first | done | with_reducible rfl)
                simp only [List.setIfInBounds_toArray, List.set_cons_zero, List.set_cons_succ]
                refine wpT (i := 7) (v := ?_) rfl rfl (by kernel_rfl) (by kernel_rfl) (by kernel_rfl) (fun _ _ _ h => h) (Or.inl ⟨by rfl, ?_⟩) hS ?_
                rotate_left
                · (intro w hSw; (try dsimp only at hSw); go_simp; first | done | with_reducible rfl)
                simp only [List.setIfInBounds_toArray, List.set_cons_zero, List.set_cons_succ]
                refine wpAnyH_ready (rs := [8]) (by kernel_rfl) (by simp) ?_
                refine AllReadyH.cons rfl (fun K hK => ?_) AllReadyH.nil
                go_simp
                (go_at_call 66; refine (l2Near_s _ _ _ _ _).mono ?_; rw [HW.out]; rintro e w1 ⟨rfl, hb1⟩)
                try go_wp2_with fail
                refine hK.out _ _ ?_ (fun hS2 => ?_)
                · (clear hK K; ((go_split_ands; (try dsimp only); (repeat' (with_reducible apply And.intro)) <;> (repeat (first | with_reducible assumption | with_reducible apply keep_alloc | with_reducible apply keep_drew | with_reducible refine keep_below hb1 ?_ | ((with_reducible refine keep_set ?_ ?_); rotate_left; (simp <;> omega)))))))
                clear hS hK K
                have hS := hS2
                clear hS2
                refine wpT (i := 9) (v := ?_) rfl rfl (by kernel_rfl) (by kernel_rfl) (by kernel_rfl) (fun _ _ _ h => h) (Or.inl ⟨by rfl, ?_⟩) hS ?_
                rotate_left
                · (intro w hSw; (try dsimp only at hSw); go_simp; first | done | with_reducible rfl)
                simp only [List.setIfInBounds_toArray, List.set_cons_zero, List.set_cons_succ]
                refine wpT (i := 10) (v := undef) rfl rfl (by kernel_rfl) (by kernel_rfl) (by kernel_rfl) (fun _ _ _ h => h) (Or.inr ⟨by rfl, rfl⟩) hS ?_
                simp only [List.setIfInBounds_toArray, List.set_cons_zero, List.set_cons_succ]
                refine wpT (i := 11) (v := undef) rfl rfl (by kernel_rfl) (by kernel_rfl) (by kernel_rfl) (fun _ _ _ h => h) (Or.inr ⟨by rfl, rfl⟩) hS ?_
                simp only [List.setIfInBounds_toArray, List.set_cons_zero, List.set_cons_succ]
                refine wpT (i := 12) (v := undef) rfl rfl (by kernel_rfl) (by kernel_rfl) (by kernel_rfl) (fun _ _ _ h => h) (Or.inr ⟨by rfl, rfl⟩) hS ?_
                simp only [List.setIfInBounds_toArray, List.set_cons_zero, List.set_cons_succ]
                refine wpT (i := 13) (v := undef) rfl rfl (by kernel_rfl) (by kernel_rfl) (by kernel_rfl) (fun _ _ _ h => h) (Or.inr ⟨by rfl, rfl⟩) hS ?_
                simp only [List.setIfInBounds_toArray, List.set_cons_zero, List.set_cons_succ]
                refine wpT (i := 14) (v := undef) rfl rfl (by kernel_rfl) (by kernel_rfl) (by kernel_rfl) (fun _ _ _ h => h) (Or.inr ⟨by rfl, rfl⟩) hS ?_
                simp only [List.setIfInBounds_toArray, List.set_cons_zero, List.set_cons_succ]
                refine wpT (i := 15) (v := undef) rfl rfl (by kernel_rfl) (by kernel_rfl) (by kernel_rfl) (fun _ _ _ h => h) (Or.inr ⟨by rfl, rfl⟩) hS ?_
                simp only [List.setIfInBounds_toArray, List.set_cons_zero, List.set_cons_succ]
                refine wpT (i := 16) (v := undef) rfl rfl (by kernel_rfl) (by kernel_rfl) (by kernel_rfl) (fun _ _ _ h => h) (Or.inr ⟨by rfl, rfl⟩) hS ?_
                simp only [List.setIfInBounds_toArray, List.set_cons_zero, List.set_cons_succ]
                refine wpT (i := 17) (v := undef) rfl rfl (by kernel_rfl) (by kernel_rfl) (by kernel_rfl) (fun _ _ _ h => h) (Or.inr ⟨by rfl, rfl⟩) hS ?_
                simp only [List.setIfInBounds_toArray, List.set_cons_zero, List.set_cons_succ]
                refine wpT (i := 18) (v := undef) rfl rfl (by kernel_rfl) (by kernel_rfl) (by kernel_rfl) (fun _ _ _ h => h) (Or.inr ⟨by rfl, rfl⟩) hS ?_
                simp only [List.setIfInBounds_toArray, List.set_cons_zero, List.set_cons_succ]
                refine wpT (i := 19) (v := undef) rfl rfl (by kernel_rfl) (by kernel_rfl) (by kernel_rfl) (fun _ _ _ h => h) (Or.inr ⟨by rfl, rfl⟩) hS ?_
                simp only [List.setIfInBounds_toArray, List.set_cons_zero, List.set_cons_succ]
                refine wpT (i := 20) (v := undef) rfl rfl (by kernel_rfl) (by kernel_rfl) (by kernel_rfl) (fun _ _ _ h => h) (Or.inr ⟨by rfl, rfl⟩) hS ?_
                simp only [List.setIfInBounds_toArray, List.set_cons_zero, List.set_cons_succ]
                refine wpT (i := 21) (v := undef) rfl rfl (by kernel_rfl) (by kernel_rfl) (by kernel_rfl) (fun _ _ _ h => h) (Or.inr ⟨by rfl, rfl⟩) hS ?_
                simp only [List.setIfInBounds_toArray, List.set_cons_zero, List.set_cons_succ]
                refine wpT (i := 22) (v := undef) rfl rfl (by kernel_rfl) (by kernel_rfl) (by kernel_rfl) (fun _ _ _ h => h) (Or.inr ⟨by rfl, rfl⟩) hS ?_
                simp only [List.setIfInBounds_toArray, List.set_cons_zero, List.set_cons_succ]
                refine wpT (i := 23) (v := ?_) rfl rfl (by kernel_rfl) (by kernel_rfl) (by kernel_rfl) (fun _ _ _ h => h) (Or.inl ⟨by rfl, ?_⟩) hS ?_
                rotate_left
                · (intro w hSw; (try dsimp only at hSw); go_simp; first | done | with_reducible rfl)
                simp only [List.setIfInBounds_toArray, List.set_cons_zero, List.set_cons_succ]
                refine wpAnyH_done (by kernel_rfl) ?_ _
                refine NoPanic.normal ?_
                go_wp2_with fail
                go_meet
                exact ⟨by rw [HVV.out]; rfl, (by (repeat (first | with_reducible exact Below.refl _ _ | with_reducible assumption | with_reducible apply bel_alloc | with_reducible apply bel_drew | with_reducible apply bel_drewN | ((with_reducible refine bel_set ?_ ?_); rotate_left; (simp <;> omega)) | (with_reducible refine bel_trans ?_ (by with_reducible assumption)))))⟩
              | true =>
                rw [hv] at HW
                have HVV := Lib.hid hv
                clear hv
                refine wp_region_noPanic ?_
                refine wp_region_held_drew (S := (fun w' => w'.cell? ⟨g2, off2 + i * 2, none⟩ = some (.int .i64 x) ∧ w'.cell? ⟨g2, off2 + i * 2 + 1, none⟩ = some (.int .i64 y) ∧ w'.cell? ⟨g0, off0 + j * 2, none⟩ = some (.int .i64 x') ∧ w'.cell? ⟨g0, off0 + j * 2 + 1, none⟩ = some (.int .i64 y'))) (by kernel_rfl) ?_ (fun hS => ?_)
                · ((go_split_ands; (try dsimp only); (repeat' (with_reducible apply And.intro)) <;> (repeat (first | with_reducible assumption | with_reducible apply keep_alloc | with_reducible apply keep_drew | with_reducible refine keep_below hb1 ?_ | ((with_reducible refine keep_set ?_ ?_); rotate_left; (simp <;> omega))))))
                refine wpT (i := 0) (v := ?_) rfl rfl (by kernel_rfl) (by kernel_rfl) (by kernel_rfl) (fun _ _ _ h => h) (Or.inl ⟨by rfl, ?_⟩) hS ?_
                rotate_left
                · (intro w hSw; (try dsimp only at hSw); go_simp; first | done | with_reducible rfl)
                simp only [List.setIfInBounds_toArray, List.set_cons_zero, List.set_cons_succ]
                refine wpT (i := 1) (v := ?_) rfl rfl (by kernel_rfl) (by kernel_rfl) (by kernel_rfl) (fun _ _ _ h => h) (Or.inl ⟨by rfl, ?_⟩) hS ?_
                rotate_left
                · (intro w hSw; (try dsimp only at hSw); go_simp; first | done | with_reducible rfl)
                simp only [List.setIfInBounds_toArray, List.set_cons_zero, List.set_cons_succ]
                refine wpT (i := 2) (v := ?_) rfl rfl (by kernel_rfl) (by kernel_rfl) (by kernel_rfl) (fun _ _ _ h => h) (Or.inl ⟨by rfl, ?_⟩) hS ?_
                rotate_left
                · (intro w hSw; (try dsimp only at hSw); go_simp; first | done | with_reducible rfl)
                simp only [List.setIfInBounds_toArray, List.set_cons_zero, List.set_cons_succ]
                refine wpT (i := 3) (v := ?_) rfl rfl (by kernel_rfl) (by kernel_rfl) (by kernel_rfl) (fun _ _ _ h => h) (Or.inl ⟨by rfl, ?_⟩) hS ?_
                rotate_left
                · (intro w hSw; (try dsimp only at hSw); go_simp; first | done | with_reducible rfl)
                simp only [List.setIfInBounds_toArray, List.set_cons_zero, List.set_cons_succ]
                refine wpT (i := 4) (v := ?_) rfl rfl (by kernel_rfl) (by kernel_rfl) (by kernel_rfl) (fun _ _ _ h => h) (Or.inl ⟨by rfl, ?_⟩) hS ?_
                rotate_left
                · (intro w hSw; (try dsimp only at hSw); go_simp; first | done | with_reducible rfl)
                simp only [List.setIfInBounds_toArray, List.set_cons_zero, List.set_cons_succ]
                refine wpT (i := 5) (v := ?_) rfl rfl (by kernel_rfl) (by kernel_rfl) (by kernel_rfl) (fun _ _ _ h => h) (Or.inl ⟨by rfl, ?_⟩) hS ?_
                rotate_left
                · (intro w hSw; (try dsimp only at hSw); go_simp; first | done | with_reducible rfl)
                simp only [List.setIfInBounds_toArray, List.set_cons_zero, List.set_cons_succ]
                refine wpT (i := 6) (v := ?_) rfl rfl (by kernel_rfl) (by kernel_rfl) (by kernel_rfl) (fun _ _ _ h => h) (Or.inl ⟨by rfl, ?_⟩) hS ?_
                rotate_left
                · (intro w hSw; (try dsimp only at hSw); go_simp; first | done | with_reducible rfl)
                simp only [List.setIfInBounds_toArray, List.set_cons_zero, List.set_cons_succ]
                refine wpT (i := 7) (v := ?_) rfl rfl (by kernel_rfl) (by kernel_rfl) (by kernel_rfl) (fun _ _ _ h => h) (Or.inl ⟨by rfl, ?_⟩) hS ?_
                rotate_left
                · (intro w hSw; (try dsimp only at hSw); go_simp; first | done | with_reducible rfl)
                simp only [List.setIfInBounds_toArray, List.set_cons_zero, List.set_cons_succ]
                refine wpAnyH_ready (rs := [8]) (by kernel_rfl) (by simp) ?_
                refine AllReadyH.cons rfl (fun K hK => ?_) AllReadyH.nil
                go_simp
                (go_at_call 66; refine (l2Near_s _ _ _ _ _).mono ?_; rw [HW.out]; rintro e w1 ⟨rfl, hb1⟩)
                try go_wp2_with fail
                refine hK.out _ _ ?_ (fun hS2 => ?_)
                · (clear hK K; ((go_split_ands; (try dsimp only); (repeat' (with_reducible apply And.intro)) <;> (repeat (first | with_reducible assumption | with_reducible apply keep_alloc | with_reducible apply keep_drew | with_reducible refine keep_below hb1 ?_ | ((with_reducible refine keep_set ?_ ?_); rotate_left; (simp <;> omega)))))))
                clear hS hK K
                have hS := hS2
                clear hS2
                refine wpT (i := 9) (v := ?_) rfl rfl (by kernel_rfl) (by kernel_rfl) (by kernel_rfl) (fun _ _ _ h => h) (Or.inl ⟨by rfl, ?_⟩) hS ?_
                rotate_left
                · (intro w hSw; (try dsimp only at hSw); go_simp; first | done | with_reducible rfl)
                simp only [List.setIfInBounds_toArray, List.set_cons_zero, List.set_cons_succ]
                refine wpT (i := 10) (v := ?_) rfl rfl (by kernel_rfl) (by kernel_rfl) (by kernel_rfl) (fun _ _ _ h => h) (Or.inl ⟨by rfl, ?_⟩) hS ?_
                rotate_left
                · (intro w hSw; (try dsimp only at hSw); go_simp; first | done | with_reducible rfl)
                simp only [List.setIfInBounds_toArray, List.set_cons_zero, List.set_cons_succ]
                refine wpT (i := 11) (v := ?_) rfl rfl (by kernel_rfl) (by kernel_rfl) (by kernel_rfl) (fun _ _ _ h => h) (Or.inl ⟨by rfl, ?_⟩) hS ?_
                rotate_left
                · (intro w hSw; (try dsimp only at hSw); go_simp; first | done | with_reducible rfl)
                simp only [List.setIfInBounds_toArray, List.set_cons_zero, List.set_cons_succ]
                refine wpT (i := 12) (v := ?_) rfl rfl (by kernel_rfl) (by kernel_rfl) (by kernel_rfl) (fun _ _ _ h => h) (Or.inl ⟨by rfl, ?_⟩) hS ?_
                rotate_left
                · (intro w hSw; (try dsimp only at hSw); go_simp; first | done | with_reducible rfl)
                simp only [List.setIfInBounds_toArray, List.set_cons_zero, List.set_cons_succ]
                refine wpT (i := 13) (v := ?_) rfl rfl (by kernel_rfl) (by kernel_rfl) (by kernel_rfl) (fun _ _ _ h => h) (Or.inl ⟨by rfl, ?_⟩) hS ?_
                rotate_left
                · (intro w hSw; (try dsimp only at hSw); go_simp; first | done | with_reducible rfl)
                simp only [List.setIfInBounds_toArray, List.set_cons_zero, List.set_cons_succ]
                refine wpT (i := 14) (v := ?_) rfl rfl (by kernel_rfl) (by kernel_rfl) (by kernel_rfl) (fun _ _ _ h => h) (Or.inl ⟨by rfl, ?_⟩) hS ?_
                rotate_left
                · (intro w hSw; (try dsimp only at hSw); go_simp; first | done | with_reducible rfl)
                simp only [List.setIfInBounds_toArray, List.set_cons_zero, List.set_cons_succ]
                refine wpT (i := 15) (v := ?_) rfl rfl (by kernel_rfl) (by kernel_rfl) (by kernel_rfl) (fun _ _ _ h => h) (Or.inl ⟨by rfl, ?_⟩) hS ?_
                rotate_left
                · (intro w hSw; (try dsimp only at hSw); go_simp; first | done | with_reducible rfl)
                simp only [List.setIfInBounds_toArray, List.set_cons_zero, List.set_cons_succ]
                refine wpT (i := 16) (v := ?_) rfl rfl (by kernel_rfl) (by kernel_rfl) (by kernel_rfl) (fun _ _ _ h => h) (Or.inl ⟨by rfl, ?_⟩) hS ?_
                rotate_left
                · (intro w hSw; (try dsimp only at hSw); go_simp; first | done | with_reducible rfl)
                simp only [List.setIfInBounds_toArray, List.set_cons_zero, List.set_cons_succ]
                refine wpT (i := 17) (v := ?_) rfl rfl (by kernel_rfl) (by kernel_rfl) (by kernel_rfl) (fun _ _ _ h => h) (Or.inl ⟨by rfl, ?_⟩) hS ?_
                rotate_left
                · (intro w hSw; (try dsimp only at hSw); go_simp; first | done | with_reducible rfl)
                simp only [List.setIfInBounds_toArray, List.set_cons_zero, List.set_cons_succ]
                refine wpT (i := 18) (v := ?_) rfl rfl (by kernel_rfl) (by kernel_rfl) (by kernel_rfl) (fun _ _ _ h => h) (Or.inl ⟨by rfl, ?_⟩) hS ?_
                rotate_left
                · (intro w hSw; (try dsimp only at hSw); go_simp; first | done | with_reducible rfl)
                simp only [List.setIfInBounds_toArray, List.set_cons_zero, List.set_cons_succ]
                refine wpT (i := 19) (v := ?_) rfl rfl (by kernel_rfl) (by kernel_rfl) (by kernel_rfl) (fun _ _ _ h => h) (Or.inl ⟨by rfl, ?_⟩) hS ?_
                rotate_left
                · (intro w hSw; (try dsimp only at hSw); go_simp; first | done | with_reducible rfl)
                simp only [List.setIfInBounds_toArray, List.set_cons_zero, List.set_cons_succ]
                refine wpT (i := 20) (v := ?_) rfl rfl (by kernel_rfl) (by kernel_rfl) (by kernel_rfl) (fun _ _ _ h => h) (Or.inl ⟨by rfl, ?_⟩) hS ?_
                rotate_left
                · (intro w hSw; (try dsimp only at hSw); go_simp; first | done | with_reducible rfl)
                simp only [List.setIfInBounds_toArray, List.set_cons_zero, List.set_cons_succ]
                refine wpAnyH_ready (rs := [21]) (by kernel_rfl) (by simp) ?_
                refine AllReadyH.cons rfl (fun K hK => ?_) AllReadyH.nil
                go_simp
                (go_at_call 56; refine (HasCell_s _ _ _ seen _ _ _ (HRS.out.drew.below hb1) HM.out (by omega)).mono ?_; rintro e w3 ⟨rfl, hb3⟩)
                try go_wp2_with fail
                refine hK.out _ _ ?_ (fun hS2 => ?_)
                · (clear hK K; ((go_split_ands; (try dsimp only); (repeat' (with_reducible apply And.intro)) <;> (repeat (first | with_reducible assumption | with_reducible apply keep_alloc | with_reducible apply keep_drew | with_reducible refine keep_below hb3 ?_ | ((with_reducible refine keep_set ?_ ?_); rotate_left; (simp <;> omega)))))))
                clear hS hK K
                have hS := hS2
                clear hS2
                refine wpT (i := 22) (v := ?_) rfl rfl (by kernel_rfl) (by kernel_rfl) (by kernel_rfl) (fun _ _ _ h => h) (Or.inl ⟨by rfl, ?_⟩) hS ?_
                rotate_left
                · (intro w hSw; (try dsimp only at hSw); go_simp; first | done | with_reducible rfl)
                simp only [List.setIfInBounds_toArray, List.set_cons_zero, List.set_cons_succ]
                refine wpT (i := 23) (v := ?_) rfl rfl (by kernel_rfl) (by kernel_rfl) (by kernel_rfl) (fun _ _ _ h => h) (Or.inl ⟨by rfl, ?_⟩) hS ?_
                rotate_left
                · (intro w hSw; (try dsimp only at hSw); go_simp; first | done | with_reducible rfl)
                simp only [List.setIfInBounds_toArray, List.set_cons_zero, List.set_cons_succ]
                refine wpAnyH_done (by kernel_rfl) ?_ _
                refine NoPanic.normal ?_
                go_wp2_with fail
                go_meet
                exact ⟨by simp [HVV.out], (by (repeat (first | with_reducible exact Below.refl _ _ | with_reducible assumption | with_reducible apply bel_alloc | with_reducible apply bel_drew | with_reducible apply bel_drewN | ((with_reducible refine bel_set ?_ ?_); rotate_left; (simp <;> omega)) | (with_reducible refine bel_trans ?_ (by with_reducible assumption)))))⟩
            case rest =>
              obtain ⟨rfl, hb3⟩ := hcut
              cases hv : (near (x, y) (x', y') && !hasC seen x' y') with
              | true =>
                simp only [Bool.and_eq_true, Bool.not_eq_true'] at hv
                have HB2 := Lib.hid (HPU.out hv.1 hv.2)
                have e1 := keep_below hb3 d1
                have e2 := keep_below hb3 d2
                have hbw := bel_trans hb hb3
                have HO2 := Lib.hid (own_keep HO.out hb3)
                clear hv c1 c2 d1 d2 HO HRS HPU HSK
                have hbsz := hbw.size
                go_wp2_with ((at_builtin; go_must (refine app_C _ rfl _ _ rfl w.heap.size _ _ _ seen rfl (HO2.out.alloc _) _ _ _ [(x', y')] rfl (rd_newC _ _ _ _) rfl (by omega) (by simp; omega) ?_); intro A' c' w' hown' hg' hat'; have HO3 := Lib.hid hown'; have HBG := Lib.hid (bel_app (bel_alloc hbw _) hg' (fun g' hg1 => ((own_lt HO2.out) g' hg1).1)); clear hown' hg' hat'))
                exact ⟨⟨j + 1, m + 1, c', A', _, by omega, by omega, by go_num, by rw [List.length_append, HM.out]; rfl, rfl, HB2.out, HO3.out, HBG.out⟩, by simp [intOf]; omega⟩
              | false =>
                have HB2 := Lib.hid (HSK.out hv)
                have HO2 := Lib.hid (own_keep HO.out hb3)
                clear hv c1 c2 d1 d2 HO HRS HPU HSK
                go_wp2_with fail
                exact ⟨⟨j + 1, m, cap, _, seen, by omega, by omega, by go_num, HM.out, rfl, HB2.out, HO2.out, (by (repeat (first | with_reducible exact Below.refl _ _ | with_reducible assumption | with_reducible apply bel_alloc | with_reducible apply bel_drew | with_reducible apply bel_drewN | ((with_reducible refine bel_set ?_ ?_); rotate_left; (simp <;> omega)) | (with_reducible refine bel_trans ?_ (by with_reducible assumption)))))⟩, by simp [intOf]; omega⟩
          · have hjn : j = n := by omega
            have HM := Lib.hid hm
            have HF : Hid (Bfs xs seen (i + 1) 0) := hF.row (by rw [HL.out]; omega)
            have HO := Lib.hid hown
            have hj5 : ¬ (j : Int) < (n : Int) := by omega
            clear hjn hm hF hown
            go_wp2
            exact ⟨⟨i + 1, m, cap, B, seen, by omega, by go_num, HM.out, rfl, HF.out, HO.out, (by (repeat (first | with_reducible exact Below.refl _ _ | with_reducible assumption | with_reducible apply bel_alloc | with_reducible apply bel_drew | with_reducible apply bel_drewN | ((with_reducible refine bel_set ?_ ?_); rotate_left; (simp <;> omega)) | (with_reducible refine bel_trans ?_ (by with_reducible assumption)))))⟩, by simp [intOf]; omega⟩
      · have hv := hF.fin (shape_nodup HS.out) (by omega)
        have hv2 : conn xs = ((m : Int) == (n : Int)) := by
          rw [hv, hm, HL.out, Bool.eq_iff_iff, decide_eq_true_eq, beq_iff_eq]; omega
        have HV2 := Lib.hid hv2
        clear hv hv2 hF hm hown
        go_wp2
        go_ret
        exact ⟨by rw [HV.out, HV2.out]; rfl, (by (repeat (first | with_reducible exact Below.refl _ _ | with_reducible assumption | with_reducible apply bel_alloc | with_reducible apply bel_drew | with_reducible apply bel_drewN | ((with_reducible refine bel_set ?_ ?_); rotate_left; (simp <;> omega)) | (with_reducible refine bel_trans ?_ (by with_reducible assumption)))))⟩
end Go.Proofs.Ytagkopemcabkpaa

/- Inner sides: walks. -/
namespace Go.Proofs.Ytagkopemcabkpaa
open Go.RowKit
set_option linter.unusedVariables false
attribute [local go_sem ↓] Go.wp_at_zero Go.wp_at_succ

def innerV (xs : List C) : Nat := if isShape xs then inner xs xs.length else 0
set_option maxHeartbeats 800000 in
theorem InnerSides_i (A : Option Addr) (n c : Nat) (xs : List C) (w : World) (hr : Rd w A (vC xs)) (hl : xs.length = n) (hn : n ≤ 1099511627776) :
    Calls Try.prog 79 #[.slice A n c] w (Ret w (.int .i64 (innerV xs : Nat))) := by
  have HL := Lib.hid hl
  cases hs : isShape xs with
  | false =>
    have HV : Hid (innerV xs = 0) := by show innerV xs = 0; unfold innerV; rw [hs]; rfl
    have HS := Lib.hid hs
    clear hs hl
    go_enter Try.func79, Try.ntmps79
    go_wp2_with (go_at_call 60; refine (IsShape_i _ _ _ xs _ hr HL.out (by omega)).mono ?_; rw [HS.out]; rintro e w1 ⟨rfl, hb1⟩)
    go_ret
    exact ⟨by rw [HV.out]; rfl, (by (repeat (first | with_reducible exact Below.refl _ _ | with_reducible assumption | with_reducible apply bel_alloc | with_reducible apply bel_drew | with_reducible apply bel_drewN | ((with_reducible refine bel_set ?_ ?_); rotate_left; (simp <;> omega)) | (with_reducible refine bel_trans ?_ (by with_reducible assumption)))))⟩
  | true =>
    have HV : Hid (innerV xs = inner xs n) := by show innerV xs = inner xs n; unfold innerV; rw [hs, hl]; rfl
    have hlen := shape_len hs
    have hsm := shape_small hs
    have hn8 : n ≤ 8 := by omega
    have hn1 : 1 ≤ n := by omega
    have HS := Lib.hid hs
    have HSM := Lib.hid hsm
    clear hs hlen hsm hl hn
    go_enter Try.func79, Try.ntmps79
    go_wp2_with (go_at_call 60; refine (IsShape_i _ _ _ xs _ hr HL.out (by omega)).mono ?_; rw [HS.out]; rintro e w1 ⟨rfl, hb1⟩)
    go_loopw [11, 3] (fun i s wr => ∃ k q : Nat, k ≤ n ∧ i = .int .i64 k ∧ s = .int .i64 q ∧ q = inner xs k ∧ Below w.heap.size w wr) (fun i _ _ => n - (intOf i).toNat)
    case atStart => exact ⟨0, 0, Nat.zero_le _, rfl, rfl, rfl, (by (repeat (first | with_reducible exact Below.refl _ _ | with_reducible assumption | with_reducible apply bel_alloc | with_reducible apply bel_drew | with_reducible apply bel_drewN | ((with_reducible refine bel_set ?_ ?_); rotate_left; (simp <;> omega)) | (with_reducible refine bel_trans ?_ (by with_reducible assumption)))))⟩
    case round =>
      obtain ⟨k, q, hk, rfl, rfl, hq, hb⟩ := hrel
      by_cases hlt : k < n
      · have hkx : k < xs.length := by rw [HL.out]; omega
        have hin : inner xs (k + 1) = inner xs k + (xs.take k).countP fun d => near xs[k] d := by
          simp only [inner]
          rw [List.getD_eq_getElem?_getD, List.getElem?_eq_getElem hkx]; rfl
        have hi0 : (0 : Int) ≤ (k : Int) := by omega
        have hi1 : (k : Int) < (n : Int) := by omega
        have hile := inner_le xs k (by omega)
        have HQ := Lib.hid hq
        have HIN := Lib.hid hin
        have hq64 : q ≤ 64 := by omega
        clear hq hin hile
        go_wp2
        go_loopw [15, 3] (fun i s wr => ∃ j p : Nat, j ≤ k ∧ i = .int .i64 j ∧ s = .int .i64 p ∧ p = q + ((xs.take j).countP fun d => near xs[k] d) ∧ Below w.heap.size w wr) (fun i _ _ => k - (intOf i).toNat)
        case atStart => exact ⟨0, q, Nat.zero_le _, rfl, rfl, rfl, (by (repeat (first | with_reducible exact Below.refl _ _ | with_reducible assumption | with_reducible apply bel_alloc | with_reducible apply bel_drew | with_reducible apply bel_drewN | ((with_reducible refine bel_set ?_ ?_); rotate_left; (simp <;> omega)) | (with_reducible refine bel_trans ?_ (by with_reducible assumption)))))⟩
        case round =>
          clear hb
          obtain ⟨j, p, hj, rfl, rfl, hp, hb⟩ := hrel
          by_cases hlj : j < k
          · have hjx : j < xs.length := by omega
            have hrw := hr.below hb
            obtain ⟨g, off, rfl, hgw, c1, c2⟩ := RdC.at_ hrw hkx
            have d12 : wr.cell? ⟨g, off + j * 2, none⟩ = some (.int .i64 xs[j].1) ∧ wr.cell? ⟨g, off + j * 2 + 1, none⟩ = some (.int .i64 xs[j].2) := by
              obtain ⟨g', off', e, _, h1, h2⟩ := RdC.at_ hrw hjx
              simp only [Option.some.injEq, Addr.mk.injEq, and_true] at e
              obtain ⟨rfl, rfl⟩ := e
              exact ⟨h1, h2⟩
            obtain ⟨d1, d2⟩ := d12
            have ht := countP_take (fun d => near xs[k] d) xs j hjx
            have hne := nearI_eq (HSM.out _ (List.getElem_mem hkx)) (HSM.out _ (List.getElem_mem hjx))
            have hpb : ((xs.take j).countP fun d => near xs[k] d) ≤ j := Nat.le_trans (countP_le' _ _) (by rw [List.length_take]; omega)
            have hp2 : p ≤ 80 := by omega
            obtain ⟨⟨x, y⟩, hx⟩ : ∃ p, xs[k] = p := ⟨_, rfl⟩
            obtain ⟨⟨x', y'⟩, hx'⟩ : ∃ p, xs[j] = p := ⟨_, rfl⟩
            rw [hx] at c1 c2
            rw [hx'] at d1 d2
            rw [hx'] at ht
            rw [hx, hx'] at hne
            have hi2 : (0 : Int) ≤ (j : Int) := by omega
            have hi3 : (j : Int) < (n : Int) := by omega
            cases hv : near (x, y) (x', y') with
            | true =>
              have HP : Hid (p + 1 = q + ((xs.take (j + 1)).countP fun d => near xs[k] d)) := by
                unfold Hid
                rw [ht, hx, hv]
                rw [hx] at hp
                simp only [if_true]
                omega
              rw [hv] at hne
              have HW := Lib.hid hne
              clear ht hx hx' hp hpb hne hv
              go_wp2_with fail
              go_region_held3 (fun w' => w'.cell? ⟨g, off + k * 2, none⟩ = some (.int .i64 x) ∧ w'.cell? ⟨g, off + k * 2 + 1, none⟩ = some (.int .i64 y) ∧ w'.cell? ⟨g, off + j * 2, none⟩ = some (.int .i64 x') ∧ w'.cell? ⟨g, off + j * 2 + 1, none⟩ = some (.int .i64 y'))
                ((go_split_ands; (try dsimp only); (repeat' (with_reducible apply And.intro)) <;> (repeat (first | with_reducible assumption | with_reducible apply keep_alloc | with_reducible apply keep_drew | with_reducible refine keep_below hb1 ?_ | ((with_reducible refine keep_set ?_ ?_); rotate_left; (simp <;> omega)))))) (first | (go_at_call 89; refine (beside_i _ _ _ _ _).mono ?_; rw [HW.out]; rintro e w1 ⟨rfl, hb1⟩))
              go_wp2
              exact ⟨⟨j + 1, p + 1, by omega, by go_num, by go_num, HP.out, (by (repeat (first | with_reducible exact Below.refl _ _ | with_reducible assumption | with_reducible apply bel_alloc | with_reducible apply bel_drew | with_reducible apply bel_drewN | ((with_reducible refine bel_set ?_ ?_); rotate_left; (simp <;> omega)) | (with_reducible refine bel_trans ?_ (by with_reducible assumption)))))⟩, by simp [intOf]; omega⟩
            | false =>
              have HP : Hid (p = q + ((xs.take (j + 1)).countP fun d => near xs[k] d)) := by
                unfold Hid
                rw [ht, hx, hv]
                rw [hx] at hp
                simp only [Bool.false_eq_true, if_false]
                omega
              rw [hv] at hne
              have HW := Lib.hid hne
              clear ht hx hx' hp hpb hne hv
              go_wp2_with fail
              go_region_held3 (fun w' => w'.cell? ⟨g, off + k * 2, none⟩ = some (.int .i64 x) ∧ w'.cell? ⟨g, off + k * 2 + 1, none⟩ = some (.int .i64 y) ∧ w'.cell? ⟨g, off + j * 2, none⟩ = some (.int .i64 x') ∧ w'.cell? ⟨g, off + j * 2 + 1, none⟩ = some (.int .i64 y'))
                ((go_split_ands; (try dsimp only); (repeat' (with_reducible apply And.intro)) <;> (repeat (first | with_reducible assumption | with_reducible apply keep_alloc | with_reducible apply keep_drew | with_reducible refine keep_below hb1 ?_ | ((with_reducible refine keep_set ?_ ?_); rotate_left; (simp <;> omega)))))) (first | (go_at_call 89; refine (beside_i _ _ _ _ _).mono ?_; rw [HW.out]; rintro e w1 ⟨rfl, hb1⟩))
              go_wp2
              exact ⟨⟨j + 1, p, by omega, by go_num, rfl, HP.out, (by (repeat (first | with_reducible exact Below.refl _ _ | with_reducible assumption | with_reducible apply bel_alloc | with_reducible apply bel_drew | with_reducible apply bel_drewN | ((with_reducible refine bel_set ?_ ?_); rotate_left; (simp <;> omega)) | (with_reducible refine bel_trans ?_ (by with_reducible assumption)))))⟩, by simp [intOf]; omega⟩
          · have hjk : j = k := by omega
            have HP : Hid (p = inner xs (k + 1)) := by
              unfold Hid
              rw [HIN.out, hp, HQ.out, hjk]
            have hj5 : ¬ (j : Int) < (k : Int) := by omega
            clear hjk hp
            go_wp2
            exact ⟨⟨k + 1, p, by omega, by go_num, rfl, HP.out, (by (repeat (first | with_reducible exact Below.refl _ _ | with_reducible assumption | with_reducible apply bel_alloc | with_reducible apply bel_drew | with_reducible apply bel_drewN | ((with_reducible refine bel_set ?_ ?_); rotate_left; (simp <;> omega)) | (with_reducible refine bel_trans ?_ (by with_reducible assumption)))))⟩, by simp [intOf]; omega⟩
      · have hkk : k = n := by omega
        subst hkk
        have HQ := Lib.hid hq
        clear hq
        go_wp2
        go_ret
        exact ⟨by rw [HV.out, ← HQ.out]; rfl, (by (repeat (first | with_reducible exact Below.refl _ _ | with_reducible assumption | with_reducible apply bel_alloc | with_reducible apply bel_drew | with_reducible apply bel_drewN | ((with_reducible refine bel_set ?_ ?_); rotate_left; (simp <;> omega)) | (with_reducible refine bel_trans ?_ (by with_reducible assumption)))))⟩
set_option maxHeartbeats 800000 in
theorem InnerSides_s (A : Option Addr) (n c : Nat) (xs : List C) (w : World) (hr : Rd w A (vC xs)) (hl : xs.length = n) (hn : n ≤ 1099511627776) :
    Calls Try.prog 81 #[.slice A n c] w (Ret w (.int .i64 (innerV xs : Nat))) := by
  have HL := Lib.hid hl
  cases hs : isShape xs with
  | false =>
    have HV : Hid (innerV xs = 0) := by show innerV xs = 0; unfold innerV; rw [hs]; rfl
    have HS := Lib.hid hs
    clear hs hl
    go_enter Try.func81, Try.ntmps81
    go_wp2
    go_loopw [4, 3] (fun i s wr => i = .int .i64 0 ∧ s = .int .i64 0 ∧ Below w.heap.size w wr) (fun i _ _ => 1 - (intOf i).toNat)
    case atStart => exact ⟨rfl, rfl, (by (repeat (first | with_reducible exact Below.refl _ _ | with_reducible assumption | with_reducible apply bel_alloc | with_reducible apply bel_drew | with_reducible apply bel_drewN | ((with_reducible refine bel_set ?_ ?_); rotate_left; (simp <;> omega)) | (with_reducible refine bel_trans ?_ (by with_reducible assumption)))))⟩
    case round =>
      obtain ⟨rfl, rfl, hb⟩ := hrel
      go_wp2_with (go_at_call 61; refine (IsShape_s _ _ _ xs _ (hr.below hb) HL.out (by omega)).mono ?_; rw [HS.out]; rintro e w2 ⟨rfl, hb2⟩)
      all_goals
        go_ret
        exact ⟨by rw [HV.out]; rfl, (by (repeat (first | with_reducible exact Below.refl _ _ | with_reducible assumption | with_reducible apply bel_alloc | with_reducible apply bel_drew | with_reducible apply bel_drewN | ((with_reducible refine bel_set ?_ ?_); rotate_left; (simp <;> omega)) | (with_reducible refine bel_trans ?_ (by with_reducible assumption)))))⟩
  | true =>
    have HV : Hid (innerV xs = inner xs n) := by show innerV xs = inner xs n; unfold innerV; rw [hs, hl]; rfl
    have hlen := shape_len hs
    have hsm := shape_small hs
    have hn8 : n ≤ 8 := by omega
    have hn1 : 1 ≤ n := by omega
    have HS := Lib.hid hs
    have HSM := Lib.hid hsm
    clear hs hlen hsm hl hn
    go_enter Try.func81, Try.ntmps81
    go_wp2
    go_loopw [4, 3] (fun i s wr => ∃ k q : Nat, k ≤ n ∧ i = .int .i64 k ∧ s = .int .i64 q ∧ q = inner xs k ∧ Below w.heap.size w wr) (fun i _ _ => n - (intOf i).toNat)
    case atStart => exact ⟨0, 0, Nat.zero_le _, rfl, rfl, rfl, (by (repeat (first | with_reducible exact Below.refl _ _ | with_reducible assumption | with_reducible apply bel_alloc | with_reducible apply bel_drew | with_reducible apply bel_drewN | ((with_reducible refine bel_set ?_ ?_); rotate_left; (simp <;> omega)) | (with_reducible refine bel_trans ?_ (by with_reducible assumption)))))⟩
    case round =>
      obtain ⟨k, q, hk, rfl, rfl, hq, hb⟩ := hrel
      by_cases hlt : k < n
      · have hkx : k < xs.length := by rw [HL.out]; omega
        have hin : inner xs (k + 1) = inner xs k + (xs.take k).countP fun d => near xs[k] d := by
          simp only [inner]
          rw [List.getD_eq_getElem?_getD, List.getElem?_eq_getElem hkx]; rfl
        have hi0 : (0 : Int) ≤ (k : Int) := by omega
        have hi1 : (k : Int) < (n : Int) := by omega
        have hile := inner_le xs k (by omega)
        have HQ := Lib.hid hq
        have HIN := Lib.hid hin
        have hq64 : q ≤ 64 := by omega
        clear hq hin hile
        go_wp2_with (go_at_call 61; refine (IsShape_s _ _ _ xs _ (hr.below hb) HL.out (by omega)).mono ?_; rw [HS.out]; rintro e w2 ⟨rfl, hb2⟩)
        go_loopw [5, 3] (fun i s wr => ∃ j p : Nat, j ≤ k ∧ i = .int .i64 j ∧ s = .int .i64 p ∧ p = q + ((xs.take j).countP fun d => near xs[k] d) ∧ Below w.heap.size w wr) (fun i _ _ => k - (intOf i).toNat)
        case atStart => exact ⟨0, q, Nat.zero_le _, rfl, rfl, rfl, (by (repeat (first | with_reducible exact Below.refl _ _ | with_reducible assumption | with_reducible apply bel_alloc | with_reducible apply bel_drew | with_reducible apply bel_drewN | ((with_reducible refine bel_set ?_ ?_); rotate_left; (simp <;> omega)) | (with_reducible refine bel_trans ?_ (by with_reducible assumption)))))⟩
        case round =>
          clear hb
          obtain ⟨j, p, hj, rfl, rfl, hp, hb⟩ := hrel
          by_cases hlj : j < k
          · have hjx : j < xs.length := by omega
            have hrw := hr.below hb
            obtain ⟨g, off, rfl, hgw, c1, c2⟩ := RdC.at_ hrw hkx
            have d12 : wr.cell? ⟨g, off + j * 2, none⟩ = some (.int .i64 xs[j].1) ∧ wr.cell? ⟨g, off + j * 2 + 1, none⟩ = some (.int .i64 xs[j].2) := by
              obtain ⟨g', off', e, _, h1, h2⟩ := RdC.at_ hrw hjx
              simp only [Option.some.injEq, Addr.mk.injEq, and_true] at e
              obtain ⟨rfl, rfl⟩ := e
              exact ⟨h1, h2⟩
            obtain ⟨d1, d2⟩ := d12
            have ht := countP_take (fun d => near xs[k] d) xs j hjx
            have hne := nearS_eq (HSM.out _ (List.getElem_mem hkx)) (HSM.out _ (List.getElem_mem hjx))
            have hpb : ((xs.take j).countP fun d => near xs[k] d) ≤ j := Nat.le_trans (countP_le' _ _) (by rw [List.length_take]; omega)
            have hp2 : p ≤ 80 := by omega
            obtain ⟨⟨x, y⟩, hx⟩ : ∃ p, xs[k] = p := ⟨_, rfl⟩
            obtain ⟨⟨x', y'⟩, hx'⟩ : ∃ p, xs[j] = p := ⟨_, rfl⟩
            rw [hx] at c1 c2
            rw [hx'] at d1 d2
            rw [hx'] at ht
            rw [hx, hx'] at hne
            have hi2 : (0 : Int) ≤ (j : Int) := by omega
            have hi3 : (j : Int) < (n : Int) := by omega
            cases hv : near (x, y) (x', y') with
            | true =>
              have HP : Hid (p + 1 = q + ((xs.take (j + 1)).countP fun d => near xs[k] d)) := by
                unfold Hid
                rw [ht, hx, hv]
                rw [hx] at hp
                simp only [if_true]
                omega
              rw [hv] at hne
              have HW := Lib.hid hne
              clear ht hx hx' hp hpb hne hv
              go_wp2_with fail
              go_region_held3 (fun w' => w'.cell? ⟨g, off + k * 2, none⟩ = some (.int .i64 x) ∧ w'.cell? ⟨g, off + k * 2 + 1, none⟩ = some (.int .i64 y) ∧ w'.cell? ⟨g, off + j * 2, none⟩ = some (.int .i64 x') ∧ w'.cell? ⟨g, off + j * 2 + 1, none⟩ = some (.int .i64 y'))
                ((go_split_ands; (try dsimp only); (repeat' (with_reducible apply And.intro)) <;> (repeat (first | with_reducible assumption | with_reducible apply keep_alloc | with_reducible apply keep_drew | with_reducible refine keep_below hb1 ?_ | ((with_reducible refine keep_set ?_ ?_); rotate_left; (simp <;> omega)))))) (first | (go_at_call 66; refine (l2Near_s _ _ _ _ _).mono ?_; rw [HW.out]; rintro e w1 ⟨rfl, hb1⟩))
              go_wp2
              exact ⟨⟨j + 1, p + 1, by omega, by go_num, by go_num, HP.out, (by (repeat (first | with_reducible exact Below.refl _ _ | with_reducible assumption | with_reducible apply bel_alloc | with_reducible apply bel_drew | with_reducible apply bel_drewN | ((with_reducible refine bel_set ?_ ?_); rotate_left; (simp <;> omega)) | (with_reducible refine bel_trans ?_ (by with_reducible assumption)))))⟩, by simp [intOf]; omega⟩
            | false =>
              have HP : Hid (p = q + ((xs.take (j + 1)).countP fun d => near xs[k] d)) := by
                unfold Hid
                rw [ht, hx, hv]
                rw [hx] at hp
                simp only [Bool.false_eq_true, if_false]
                omega
              rw [hv] at hne
              have HW := Lib.hid hne
              clear ht hx hx' hp hpb hne hv
              go_wp2_with fail
              go_region_held3 (fun w' => w'.cell? ⟨g, off + k * 2, none⟩ = some (.int .i64 x) ∧ w'.cell? ⟨g, off + k * 2 + 1, none⟩ = some (.int .i64 y) ∧ w'.cell? ⟨g, off + j * 2, none⟩ = some (.int .i64 x') ∧ w'.cell? ⟨g, off + j * 2 + 1, none⟩ = some (.int .i64 y'))
                ((go_split_ands; (try dsimp only); (repeat' (with_reducible apply And.intro)) <;> (repeat (first | with_reducible assumption | with_reducible apply keep_alloc | with_reducible apply keep_drew | with_reducible refine keep_below hb1 ?_ | ((with_reducible refine keep_set ?_ ?_); rotate_left; (simp <;> omega)))))) (first | (go_at_call 66; refine (l2Near_s _ _ _ _ _).mono ?_; rw [HW.out]; rintro e w1 ⟨rfl, hb1⟩))
              go_wp2
              exact ⟨⟨j + 1, p, by omega, by go_num, rfl, HP.out, (by (repeat (first | with_reducible exact Below.refl _ _ | with_reducible assumption | with_reducible apply bel_alloc | with_reducible apply bel_drew | with_reducible apply bel_drewN | ((with_reducible refine bel_set ?_ ?_); rotate_left; (simp <;> omega)) | (with_reducible refine bel_trans ?_ (by with_reducible assumption)))))⟩, by simp [intOf]; omega⟩
          · have hjk : j = k := by omega
            have HP : Hid (p = inner xs (k + 1)) := by
              unfold Hid
              rw [HIN.out, hp, HQ.out, hjk]
            have hj5 : ¬ (j : Int) < (k : Int) := by omega
            clear hjk hp
            go_wp2
            exact ⟨⟨k + 1, p, by omega, by go_num, rfl, HP.out, (by (repeat (first | with_reducible exact Below.refl _ _ | with_reducible assumption | with_reducible apply bel_alloc | with_reducible apply bel_drew | with_reducible apply bel_drewN | ((with_reducible refine bel_set ?_ ?_); rotate_left; (simp <;> omega)) | (with_reducible refine bel_trans ?_ (by with_reducible assumption)))))⟩, by simp [intOf]; omega⟩
      · have hkk : k = n := by omega
        subst hkk
        have HQ := Lib.hid hq
        clear hq
        go_wp2
        go_ret
        exact ⟨by rw [HV.out, ← HQ.out]; rfl, (by (repeat (first | with_reducible exact Below.refl _ _ | with_reducible assumption | with_reducible apply bel_alloc | with_reducible apply bel_drew | with_reducible apply bel_drewN | ((with_reducible refine bel_set ?_ ?_); rotate_left; (simp <;> omega)) | (with_reducible refine bel_trans ?_ (by with_reducible assumption)))))⟩
end Go.Proofs.Ytagkopemcabkpaa

/- Connected shapes and trees. -/
namespace Go.Proofs.Ytagkopemcabkpaa
open Go.RowKit
set_option linter.unusedVariables false
attribute [local go_sem ↓] Go.wp_at_zero Go.wp_at_succ

theorem IsConnectedShape_i (A : Option Addr) (n c : Nat) (xs : List C) (w : World) (hr : Rd w A (vC xs)) (hl : xs.length = n) (hn : n ≤ 1099511627776) :
    Calls Try.prog 53 #[.slice A n c] w (Ret w (.bool (isConn xs))) := by
  have HL := Lib.hid hl
  cases hs : isShape xs with
  | false =>
    have HV : Hid (isConn xs = false) := by show isConn xs = false; unfold isConn; rw [hs]; rfl
    have HS := Lib.hid hs
    clear hs hl
    go_enter Try.func53, Try.ntmps53
    go_wp2_with (go_at_call 60; refine (IsShape_i _ _ _ xs _ hr HL.out (by omega)).mono ?_; rw [HS.out]; rintro e w1 ⟨rfl, hb1⟩)
    go_ret
    exact ⟨by rw [HV.out]; rfl, (by (repeat (first | with_reducible exact Below.refl _ _ | with_reducible assumption | with_reducible apply bel_alloc | with_reducible apply bel_drew | with_reducible apply bel_drewN | ((with_reducible refine bel_set ?_ ?_); rotate_left; (simp <;> omega)) | (with_reducible refine bel_trans ?_ (by with_reducible assumption)))))⟩
  | true =>
    have HV : Hid (isConn xs = conn xs) := by show isConn xs = conn xs; unfold isConn; rw [hs]; rfl
    have HS := Lib.hid hs
    clear hs hl
    go_enter Try.func53, Try.ntmps53
    go_wp2_with (first | (go_at_call 60; refine (IsShape_i _ _ _ xs _ hr HL.out (by omega)).mono ?_; rw [HS.out]; rintro e w1 ⟨rfl, hb1⟩) | (go_at_call 80; refine (hangs_i _ _ _ xs _ (hr.below hb1) HL.out HS.out).mono ?_; rintro e w2 ⟨rfl, hb2⟩))
    go_ret
    exact ⟨by rw [HV.out]; rfl, (by (repeat (first | with_reducible exact Below.refl _ _ | with_reducible assumption | with_reducible apply bel_alloc | with_reducible apply bel_drew | with_reducible apply bel_drewN | ((with_reducible refine bel_set ?_ ?_); rotate_left; (simp <;> omega)) | (with_reducible refine bel_trans ?_ (by with_reducible assumption)))))⟩

theorem tree_int (xs : List C) (n : Nat) (hl : xs.length = n) (hs : isShape xs = true) : (((innerV xs : Nat) : Int) == (n : Int) - 1) = (inner xs xs.length == xs.length - 1) := by
  have := shape_len hs
  unfold innerV
  rw [hs, if_pos rfl, Bool.eq_iff_iff, beq_iff_eq, beq_iff_eq]
  omega

theorem IsTreeLike_i (A : Option Addr) (n c : Nat) (xs : List C) (w : World) (hr : Rd w A (vC xs)) (hl : xs.length = n) (hn : n ≤ 1099511627776) :
    Calls Try.prog 52 #[.slice A n c] w (Ret w (.bool (isTree xs))) := by
  have HL := Lib.hid hl
  cases hs : isConn xs with
  | false =>
    have HV : Hid (isTree xs = false) := by show isTree xs = false; unfold isTree; rw [hs]; rfl
    have HS := Lib.hid hs
    clear hs hl
    go_enter Try.func52, Try.ntmps52
    go_wp2_with (go_at_call 53; refine (IsConnectedShape_i _ _ _ xs _ hr HL.out (by omega)).mono ?_; rw [HS.out]; rintro e w1 ⟨rfl, hb1⟩)
    go_ret
    exact ⟨by rw [HV.out]; rfl, (by (repeat (first | with_reducible exact Below.refl _ _ | with_reducible assumption | with_reducible apply bel_alloc | with_reducible apply bel_drew | with_reducible apply bel_drewN | ((with_reducible refine bel_set ?_ ?_); rotate_left; (simp <;> omega)) | (with_reducible refine bel_trans ?_ (by with_reducible assumption)))))⟩
  | true =>
    have hti := tree_int xs n hl (conn_shape hs)
    have hlen := shape_len (conn_shape hs)
    have hn8 : n ≤ 8 := by omega
    have hn1 : (1 : Int) ≤ (n : Int) := by omega
    have HV : Hid (isTree xs = (((innerV xs : Nat) : Int) == (n : Int) - 1)) := by show isTree xs = _; rw [hti]; unfold isTree; rw [hs]; rfl
    have HS := Lib.hid hs
    clear hs hl hti hlen
    go_enter Try.func52, Try.ntmps52
    go_wp2_with (first | (go_at_call 53; refine (IsConnectedShape_i _ _ _ xs _ hr HL.out (by omega)).mono ?_; rw [HS.out]; rintro e w1 ⟨rfl, hb1⟩) | (go_at_call 79; refine (InnerSides_i _ _ _ xs _ (hr.below hb1) HL.out (by omega)).mono ?_; rintro e w2 ⟨rfl, hb2⟩))
    go_ret
    exact ⟨by rw [HV.out]; rfl, (by (repeat (first | with_reducible exact Below.refl _ _ | with_reducible assumption | with_reducible apply bel_alloc | with_reducible apply bel_drew | with_reducible apply bel_drewN | ((with_reducible refine bel_set ?_ ?_); rotate_left; (simp <;> omega)) | (with_reducible refine bel_trans ?_ (by with_reducible assumption)))))⟩

theorem IsTreeLike_s (A : Option Addr) (n c : Nat) (xs : List C) (w : World) (hr : Rd w A (vC xs)) (hl : xs.length = n) (hn : n ≤ 1099511627776) :
    Calls Try.prog 57 #[.slice A n c] w (Ret w (.bool (isTree xs))) := by
  have HL := Lib.hid hl
  cases hs : isConn xs with
  | false =>
    have HV : Hid (isTree xs = false) := by show isTree xs = false; unfold isTree; rw [hs]; rfl
    have HS := Lib.hid hs
    clear hs hl
    go_enter Try.func57, Try.ntmps57
    go_wp2_with (go_at_call 29; refine (IsConnectedShape_s _ _ _ xs _ hr HL.out (by omega)).mono ?_; rw [HS.out]; rintro e w1 ⟨rfl, hb1⟩)
    go_ret
    exact ⟨by rw [HV.out]; rfl, (by (repeat (first | with_reducible exact Below.refl _ _ | with_reducible assumption | with_reducible apply bel_alloc | with_reducible apply bel_drew | with_reducible apply bel_drewN | ((with_reducible refine bel_set ?_ ?_); rotate_left; (simp <;> omega)) | (with_reducible refine bel_trans ?_ (by with_reducible assumption)))))⟩
  | true =>
    have hti := tree_int xs n hl (conn_shape hs)
    have hlen := shape_len (conn_shape hs)
    have hn8 : n ≤ 8 := by omega
    have hn1 : (1 : Int) ≤ (n : Int) := by omega
    have HV : Hid (isTree xs = (((innerV xs : Nat) : Int) == (n : Int) - 1)) := by show isTree xs = _; rw [hti]; unfold isTree; rw [hs]; rfl
    have HS := Lib.hid hs
    clear hs hl hti hlen
    go_enter Try.func57, Try.ntmps57
    go_wp2_with (first | (go_at_call 29; refine (IsConnectedShape_s _ _ _ xs _ hr HL.out (by omega)).mono ?_; rw [HS.out]; rintro e w1 ⟨rfl, hb1⟩) | (go_at_call 81; refine (InnerSides_s _ _ _ xs _ (hr.below hb1) HL.out (by omega)).mono ?_; rintro e w2 ⟨rfl, hb2⟩))
    go_ret
    exact ⟨by rw [HV.out]; rfl, (by (repeat (first | with_reducible exact Below.refl _ _ | with_reducible assumption | with_reducible apply bel_alloc | with_reducible apply bel_drew | with_reducible apply bel_drewN | ((with_reducible refine bel_set ?_ ?_); rotate_left; (simp <;> omega)) | (with_reducible refine bel_trans ?_ (by with_reducible assumption)))))⟩
end Go.Proofs.Ytagkopemcabkpaa

/- Growth: neighbours within a list, the program's and the reference's IsGrowth. -/
namespace Go.Proofs.Ytagkopemcabkpaa
open Go.RowKit
set_option linter.unusedVariables false
attribute [local go_sem ↓] Go.wp_at_zero Go.wp_at_succ

theorem touches_i (A : Option Addr) (n c : Nat) (xs : List C) (x y : Int) (w : World) (hr : Rd w A (vC xs)) (hl : xs.length = n) (hn : n ≤ 1099511627776) :
    Calls Try.prog 64 #[.slice A n c, .agg #[.int .i64 x, .int .i64 y]] w (Ret w (.bool (touchI xs (x, y)))) := by
  have HL := Lib.hid hl
  clear hl
  go_enter Try.func64, Try.ntmps64
  go_wp2
  go_loopw [9] (fun i wr => ∃ k : Nat, k ≤ n ∧ i = .int .i64 k ∧ touchI (xs.take k) (x, y) = false ∧ Blk wr w.heap.size 55 #[.int .i64 x, .int .i64 y] ∧ Below w.heap.size w wr) (fun i _ => n - (intOf i).toNat)
  case atStart => exact ⟨0, Nat.zero_le _, rfl, rfl, Blk.new _ _ _, (by (repeat (first | with_reducible exact Below.refl _ _ | with_reducible assumption | with_reducible apply bel_alloc | with_reducible apply bel_drew | with_reducible apply bel_drewN | ((with_reducible refine bel_set ?_ ?_); rotate_left; (simp <;> omega)) | (with_reducible refine bel_trans ?_ (by with_reducible assumption)))))⟩
  case round =>
    obtain ⟨k, hk, rfl, hno, hB, hb⟩ := hrel
    have b1 : wr.cell? ⟨w.heap.size, 0, none⟩ = some (.int .i64 x) := by simpa using hB.cell 0
    have b2 : wr.cell? ⟨w.heap.size, 1, none⟩ = some (.int .i64 y) := by simpa using hB.cell 1
    have hg := hB.lt
    by_cases hlt : k < n
    · have hkx : k < xs.length := by rw [HL.out]; omega
      obtain ⟨g, off, rfl, hgw, c1, c2⟩ := RdC.at_ (hr.below hb) hkx
      have ht := any_take (fun d => nearI (x, y) d) xs k hkx
      have hf := any_full (fun d => nearI (x, y) d) xs k hkx
      obtain ⟨⟨a, b⟩, hx⟩ : ∃ p, xs[k] = p := ⟨_, rfl⟩
      rw [hx] at c1 c2 ht hf
      cases hv : nearI (x, y) (a, b) with
      | true =>
        have HV : Hid (touchI xs (x, y) = true) := hf hv
        have HW := Lib.hid hv
        clear ht hf hx hno hv
        go_wp2_with (go_at_call 89; refine (beside_i _ _ _ _ _).mono ?_; rw [HW.out]; rintro e w1 ⟨rfl, hb1⟩)
        go_ret
        exact ⟨by rw [HV.out]; rfl, (by (repeat (first | with_reducible exact Below.refl _ _ | with_reducible assumption | with_reducible apply bel_alloc | with_reducible apply bel_drew | with_reducible apply bel_drewN | ((with_reducible refine bel_set ?_ ?_); rotate_left; (simp <;> omega)) | (with_reducible refine bel_trans ?_ (by with_reducible assumption)))))⟩
      | false =>
        have HV : Hid (touchI (xs.take (k + 1)) (x, y) = false) := by
          show (xs.take (k + 1)).any (fun d => nearI (x, y) d) = false
          rw [ht, show (xs.take k).any (fun d => nearI (x, y) d) = false from hno, hv]; rfl
        have HW := Lib.hid hv
        clear ht hf hx hno hv
        go_wp2_with (go_at_call 89; refine (beside_i _ _ _ _ _).mono ?_; rw [HW.out]; rintro e w1 ⟨rfl, hb1⟩)
        exact ⟨⟨k + 1, by omega, by go_num, HV.out, (hB.alloc _).below hb1, (by (repeat (first | with_reducible exact Below.refl _ _ | with_reducible assumption | with_reducible apply bel_alloc | with_reducible apply bel_drew | with_reducible apply bel_drewN | ((with_reducible refine bel_set ?_ ?_); rotate_left; (simp <;> omega)) | (with_reducible refine bel_trans ?_ (by with_reducible assumption)))))⟩, by simp [intOf]; omega⟩
    · have hkk : k = n := by omega
      subst hkk
      rw [List.take_of_length_le (by rw [HL.out]; omega)] at hno
      have HV := Lib.hid hno
      clear hno
      go_wp2
      go_ret
      exact ⟨by rw [HV.out]; rfl, (by (repeat (first | with_reducible exact Below.refl _ _ | with_reducible assumption | with_reducible apply bel_alloc | with_reducible apply bel_drew | with_reducible apply bel_drewN | ((with_reducible refine bel_set ?_ ?_); rotate_left; (simp <;> omega)) | (with_reducible refine bel_trans ?_ (by with_reducible assumption)))))⟩

theorem l25Near_s (A : Option Addr) (n c : Nat) (xs : List C) (x y : Int) (w : World) (hr : Rd w A (vC xs)) (hl : xs.length = n) (hn : n ≤ 1099511627776) :
    Calls Try.prog 65 #[.slice A n c, .agg #[.int .i64 x, .int .i64 y]] w (Ret w (.bool (touchS xs (x, y)))) := by
  have HL := Lib.hid hl
  clear hl
  go_enter Try.func65, Try.ntmps65
  go_wp2
  go_loopw [5] (fun i wr => ∃ k : Nat, k ≤ n ∧ i = .int .i64 k ∧ touchS (xs.take k) (x, y) = false ∧ Blk wr w.heap.size 55 #[.int .i64 x, .int .i64 y] ∧ Below w.heap.size w wr) (fun i _ => n - (intOf i).toNat)
  case atStart => exact ⟨0, Nat.zero_le _, rfl, rfl, Blk.new _ _ _, (by (repeat (first | with_reducible exact Below.refl _ _ | with_reducible assumption | with_reducible apply bel_alloc | with_reducible apply bel_drew | with_reducible apply bel_drewN | ((with_reducible refine bel_set ?_ ?_); rotate_left; (simp <;> omega)) | (with_reducible refine bel_trans ?_ (by with_reducible assumption)))))⟩
  case round =>
    obtain ⟨k, hk, rfl, hno, hB, hb⟩ := hrel
    have b1 : wr.cell? ⟨w.heap.size, 0, none⟩ = some (.int .i64 x) := by simpa using hB.cell 0
    have b2 : wr.cell? ⟨w.heap.size, 1, none⟩ = some (.int .i64 y) := by simpa using hB.cell 1
    have hg := hB.lt
    by_cases hlt : k < n
    · have hkx : k < xs.length := by rw [HL.out]; omega
      obtain ⟨g, off, rfl, hgw, c1, c2⟩ := RdC.at_ (hr.below hb) hkx
      have ht := any_take (fun d => nearS d (x, y)) xs k hkx
      have hf := any_full (fun d => nearS d (x, y)) xs k hkx
      obtain ⟨⟨a, b⟩, hx⟩ : ∃ p, xs[k] = p := ⟨_, rfl⟩
      rw [hx] at c1 c2 ht hf
      have hi0 : (0 : Int) ≤ (k : Int) := by omega
      have hi1 : (k : Int) < (n : Int) := by omega
      cases hv : nearS (a, b) (x, y) with
      | true =>
        have HV : Hid (touchS xs (x, y) = true) := hf hv
        have HW := Lib.hid hv
        clear ht hf hx hno hv
        go_wp2_with fail
        go_region_held3 (fun w' => w'.cell? ⟨g, off + k * 2, none⟩ = some (.int .i64 a) ∧ w'.cell? ⟨g, off + k * 2 + 1, none⟩ = some (.int .i64 b) ∧ w'.cell? ⟨w.heap.size, 0, none⟩ = some (.int .i64 x) ∧ w'.cell? ⟨w.heap.size, 1, none⟩ = some (.int .i64 y))
          ((go_split_ands; (try dsimp only); (repeat' (with_reducible apply And.intro)) <;> (repeat (first | with_reducible assumption | with_reducible apply keep_alloc | with_reducible apply keep_drew | with_reducible refine keep_below hb1 ?_ | ((with_reducible refine keep_set ?_ ?_); rotate_left; (simp <;> omega)))))) (first | (go_at_call 66; refine (l2Near_s _ _ _ _ _).mono ?_; rw [HW.out]; rintro e w1 ⟨rfl, hb1⟩))
        go_wp2
        go_ret
        exact ⟨by rw [HV.out]; rfl, (by (repeat (first | with_reducible exact Below.refl _ _ | with_reducible assumption | with_reducible apply bel_alloc | with_reducible apply bel_drew | with_reducible apply bel_drewN | ((with_reducible refine bel_set ?_ ?_); rotate_left; (simp <;> omega)) | (with_reducible refine bel_trans ?_ (by with_reducible assumption)))))⟩
      | false =>
        have HV : Hid (touchS (xs.take (k + 1)) (x, y) = false) := by
          show (xs.take (k + 1)).any (fun d => nearS d (x, y)) = false
          rw [ht, show (xs.take k).any (fun d => nearS d (x, y)) = false from hno, hv]; rfl
        have HW := Lib.hid hv
        clear ht hf hx hno hv
        go_wp2_with fail
        go_region_held3 (fun w' => w'.cell? ⟨g, off + k * 2, none⟩ = some (.int .i64 a) ∧ w'.cell? ⟨g, off + k * 2 + 1, none⟩ = some (.int .i64 b) ∧ w'.cell? ⟨w.heap.size, 0, none⟩ = some (.int .i64 x) ∧ w'.cell? ⟨w.heap.size, 1, none⟩ = some (.int .i64 y))
          ((go_split_ands; (try dsimp only); (repeat' (with_reducible apply And.intro)) <;> (repeat (first | with_reducible assumption | with_reducible apply keep_alloc | with_reducible apply keep_drew | with_reducible refine keep_below hb1 ?_ | ((with_reducible refine keep_set ?_ ?_); rotate_left; (simp <;> omega)))))) (first | (go_at_call 66; refine (l2Near_s _ _ _ _ _).mono ?_; rw [HW.out]; rintro e w1 ⟨rfl, hb1⟩))
        go_wp2
        exact ⟨⟨k + 1, by omega, by go_num, HV.out, hB.drew.below hb1, (by (repeat (first | with_reducible exact Below.refl _ _ | with_reducible assumption | with_reducible apply bel_alloc | with_reducible apply bel_drew | with_reducible apply bel_drewN | ((with_reducible refine bel_set ?_ ?_); rotate_left; (simp <;> omega)) | (with_reducible refine bel_trans ?_ (by with_reducible assumption)))))⟩, by simp [intOf]; omega⟩
    · have hkk : k = n := by omega
      subst hkk
      rw [List.take_of_length_le (by rw [HL.out]; omega)] at hno
      have HV := Lib.hid hno
      clear hno
      go_wp2
      go_ret
      exact ⟨by rw [HV.out]; rfl, (by (repeat (first | with_reducible exact Below.refl _ _ | with_reducible assumption | with_reducible apply bel_alloc | with_reducible apply bel_drew | with_reducible apply bel_drewN | ((with_reducible refine bel_set ?_ ?_); rotate_left; (simp <;> omega)) | (with_reducible refine bel_trans ?_ (by with_reducible assumption)))))⟩
end Go.Proofs.Ytagkopemcabkpaa

/- A region that draws its order, whose operations read and whose callees may make memory of their own: one walk of the lexical order, in every world that is as the first one below its heap's end. -/
namespace Go.Proofs.Ytagkopemcabkpaa
open Go.RowKit
section
variable {P : Program} {C : World → Prop} {K : Act → Prop} {a : Act} {o : Oper}
theorem wp_region_below {id : Nat} {Q : Exit → Act → World → Prop} {w : World} {l : List Oper} (hm : P.follows .mixedOrders = true) (hB : Region.lexB .any l.toArray = true)
    (h : wpQuiet P l.toArray (fun w' => Below w.heap.size w w') (fun a' => ∀ w', Below w.heap.size w w' → Q .normal a' w') l a) : (Code.region id l.toArray true).wp P Q a w :=
  wp_region_quiet (C := fun w' => Below w.heap.size w w') hm hB ⟨rfl, rfl, rfl, Nat.le_refl _, fun _ _ => rfl⟩ (by simpa using h)
theorem quietV {ops : Array Oper} {Q : Act → Prop} {rest : List Oper} {ts : Array Value} {ds : List Deferred} {v : Value} {d : Nat} (hw : Region.wanted o (yielded ops ts) = true) (hd : o.dst = some d) (h1 : ∀ w', C w' → o.quietAt P { tmps := ts, defers := ds } C w' v)
    (h2 : wpQuiet P ops C Q rest { tmps := ts.setIfInBounds d v, defers := ds }) : wpQuiet P ops C Q (o :: rest) { tmps := ts, defers := ds } :=
  wpQuiet_step fun K hK => by rw [if_pos hw]; exact ⟨v, h1, by rw [hd]; exact hK _ h2⟩
theorem quietB {v : Value} (h1 : ∀ w', C w' → o.quietAt P a C w' v) (h2 : K (a.put o.dst v)) : o.quiet P a C K := ⟨v, h1, h2⟩
theorem callsB {f : FuncId} {args : Array Value} {w w' : World} {v : Value} (h : Calls P f args w' (Ret w' v)) (hb : Below w.heap.size w w') :
    Calls P f args w' (fun e w'' => e = .returned v ∧ Below w.heap.size w w'') := h.mono fun _ _ ⟨he, h2⟩ => ⟨he, bel_trans hb h2⟩
theorem callsBB {f : FuncId} {args : Array Value} {w w' : World} {b b' : Bool} (h : Calls P f args w' (Ret w' (.bool b))) (e : b = b') (hb : Below w.heap.size w w') :
    Calls P f args w' (fun e w'' => e = .returned (.bool b') ∧ Below w.heap.size w w'') := by subst e; exact callsB h hb
theorem callsBI {f : FuncId} {args : Array Value} {w w' : World} {b b' : Int} (h : Calls P f args w' (Ret w' (.int .i64 b))) (e : b = b') (hb : Below w.heap.size w w') :
    Calls P f args w' (fun e w'' => e = .returned (.int .i64 b') ∧ Below w.heap.size w w'') := by subst e; exact callsB h hb
end
end Go.Proofs.Ytagkopemcabkpaa

/- The order of growth. -/
namespace Go.Proofs.Ytagkopemcabkpaa
open Go.RowKit
set_option linter.unusedVariables false
attribute [local go_sem ↓] Go.wp_at_zero Go.wp_at_succ

def lenV (v : Value) : Nat := match v with
  | .slice _ n _ => n
  | _ => 0
noncomputable def growSteps (xs : List C) : List C := if isConn xs then grownBy xs (xs.length - 1) else []
theorem find_at {α : Type} {p : α → Bool} {xs : List α} {j : Nat} (hj : j < xs.length) (h : ∀ c ∈ xs.take j, p c = false) (h1 : p xs[j] = true) : xs.find? p = some xs[j] := by
  have e : xs = xs.take j ++ xs[j] :: xs.drop (j + 1) := by rw [← List.drop_eq_getElem_cons hj, List.take_append_drop]
  have h2 : (xs.take j).find? p = none := by rw [List.find?_eq_none]; intro c hc; rw [h c hc]; simp
  conv => lhs; rw [e]
  rw [List.find?_append, h2, List.find?_cons, h1]; rfl
theorem takeP_all {xs : List C} {k : Nat} {P : C → Prop} (hk : k < xs.length) (h : ∀ c ∈ xs.take k, P c) (h1 : P xs[k]) : ∀ c ∈ xs.take (k + 1), P c := by
  intro c hc
  rw [List.take_succ_eq_append_getElem hk, List.mem_append, List.mem_singleton] at hc
  rcases hc with hc | hc
  · exact h c hc
  · rw [hc]; exact h1
theorem grownBy_next {xs : List C} {k j : Nat} (hj : j < xs.length) (h : ∀ c ∈ xs.take j, nextTo (grownBy xs k) c = false) (h1 : nextTo (grownBy xs k) xs[j] = true) : grownBy xs (k + 1) = grownBy xs k ++ [xs[j]] := by
  simp only [grownBy, find_at hj h h1]; rfl
theorem grownBy_none {xs : List C} {k : Nat} (hc : isConn xs = true) (hk : k + 1 < xs.length) (h : ∀ c ∈ xs, nextTo (grownBy xs k) c = false) : False := by
  have hcn : conn xs = true := by simp only [isConn, Bool.and_eq_true] at hc; exact hc.2
  have hnd := shape_nodup (conn_shape hc)
  obtain ⟨c, hf⟩ := next_some hcn hnd (grownBy_s0 xs k) (by rw [grownBy_len hcn hnd k (by omega)]; omega)
  have := List.find?_some hf
  rw [h c (List.mem_of_find?_eq_some hf)] at this
  cases this
theorem growSteps_len (xs : List C) : (growSteps xs).length ≤ 1048576 := by
  unfold growSteps
  split
  · next h =>
    have hs := conn_shape h
    have := shape_len hs
    have hcn : conn xs = true := by simp only [isConn, Bool.and_eq_true] at h; exact h.2
    rw [grownBy_len hcn (shape_nodup hs) _ (by omega)]; omega
  · simp
set_option maxHeartbeats 1600000 in
theorem GrowthSteps_i (A : Option Addr) (n c : Nat) (xs : List C) (w : World) (hr : Rd w A (vC xs)) (hl : xs.length = n) (hn : n ≤ 1099511627776) :
    Calls Try.prog 26 #[.slice A n c] w (RetS2 w 55 2 (vC (growSteps xs)) (.bool (isConn xs))) := by
  have HL := Lib.hid hl
  cases hc : isConn xs with
  | false =>
    have HV : Hid (growSteps xs = []) := by show growSteps xs = []; unfold growSteps; rw [hc]; rfl
    have HC := Lib.hid hc
    clear hc hl
    go_enter Try.func26, Try.ntmps26
    go_wp2_with (go_at_call 53; refine (IsConnectedShape_i _ _ _ xs _ hr HL.out (by omega)).mono ?_; rw [HC.out]; rintro e w1 ⟨rfl, hb1⟩)
    go_ret2
    exact ⟨none, 0, 0, rfl, by rw [HV.out]; exact own_nil _ _ _ _, (by (repeat (first | with_reducible exact Below.refl _ _ | with_reducible assumption | with_reducible apply bel_alloc | with_reducible apply bel_drew | with_reducible apply bel_drewN | ((with_reducible refine bel_set ?_ ?_); rotate_left; (simp <;> omega)) | (with_reducible refine bel_trans ?_ (by with_reducible assumption)))))⟩
  | true =>
    have HV : Hid (growSteps xs = grownBy xs (n - 1)) := by show growSteps xs = _; unfold growSteps; rw [hc, hl]; rfl
    have hs := conn_shape hc
    have hcn : conn xs = true := by simp only [isConn, Bool.and_eq_true] at hc; exact hc.2
    have hnd := shape_nodup hs
    have hlen := shape_len hs
    have hsm := shape_small hs
    have hn8 : n ≤ 8 := by omega
    have hn1 : 1 ≤ n := by omega
    have hnp : (0 : Int) < (n : Int) := by omega
    have h0x : 0 < xs.length := by omega
    have hs0 : xs[0] = s0 xs := by simp [s0, List.getD_eq_getElem?_getD, h0x]
    have HGL : Hid (∀ k, k < n → (grownBy xs k).length = k + 1) := fun k hk => grownBy_len hcn hnd k (by omega)
    have HGS : Hid (∀ k, ∀ d ∈ grownBy xs k, small d) := fun k d hd => hsm d (grownBy_sub (by intro h; rw [h] at h0x; simp at h0x) k d hd)
    have HSM := Lib.hid hsm
    have HC := Lib.hid hc
    have HS0 := Lib.hid hs0
    clear hc hs hcn hnd hlen hsm hl hn hs0
    go_enter Try.func26, Try.ntmps26
    go_wp2_with fail
    refine (IsConnectedShape_i _ _ _ xs _ hr HL.out (by omega)).mono ?_
    rw [HC.out]
    rintro e w1 ⟨rfl, hb1⟩
    obtain ⟨g0, off0, hA0, hg0, z1, z2⟩ := RdC.at_ (hr.below hb1) h0x
    rw [HS0.out] at z1 z2
    simp only [Nat.zero_mul, Nat.add_zero] at z1 z2
    obtain ⟨⟨zx, zy⟩, hz⟩ : ∃ p, s0 xs = p := ⟨_, rfl⟩
    rw [hz] at z1 z2
    have HZ := Lib.hid hz
    clear hz
    subst hA0
    have hbs := hb1.size
    go_wp2_with fail
    go_loopw [4] (fun e wr => ∃ (k m cap : Nat) (B : Option Addr), k < n ∧ m = k + 1 ∧ e = .slice B m cap ∧ wr.ownsRow w.heap.size 55 2 (.slice B m cap) m (vC (grownBy xs k)) ∧ Below w.heap.size w wr) (fun e _ => n - lenV e)
    case atStart => exact ⟨0, 1, 1, _, by omega, rfl, rfl, by simp only [grownBy]; rw [HZ.out]; exact own_newC _ _ _ _ hbs, (by (repeat (first | with_reducible exact Below.refl _ _ | with_reducible assumption | with_reducible apply bel_alloc | with_reducible apply bel_drew | with_reducible apply bel_drewN | ((with_reducible refine bel_set ?_ ?_); rotate_left; (simp <;> omega)) | (with_reducible refine bel_trans ?_ (by with_reducible assumption)))))⟩
    case round =>
      clear HZ hb1 z1 z2 hg0 hbs
      obtain ⟨k, m, cap, B, hk, hmk, rfl, hown, hb⟩ := hrel
      by_cases hlt : m < n
      · have HO := Lib.hid hown
        have HM := Lib.hid hmk
        have hlt2 : (m : Int) < (n : Int) := by omega
        clear hown hmk
        go_wp2_with fail
        go_loopw [4, 21] (fun e i wr => ∃ j : Nat, j ≤ n ∧ e = .slice B m cap ∧ i = .int .i64 j ∧ (∀ c ∈ xs.take j, nextTo (grownBy xs k) c = false) ∧ wr.ownsRow w.heap.size 55 2 (.slice B m cap) m (vC (grownBy xs k)) ∧ Below w.heap.size w wr) (fun _ i _ => n - (intOf i).toNat)
        case atStart => exact ⟨0, Nat.zero_le _, rfl, rfl, by simp, HO.out, hb⟩
        case round =>
          clear HO hb
          obtain ⟨j, hj, rfl, rfl, hno, hown, hb⟩ := hrel
          by_cases hlj : j < n
          · have hjx : j < xs.length := by rw [HL.out]; omega
            have hrw := hr.below hb
            obtain ⟨g, off, hA, hgw, c1, c2⟩ := RdC.at_ hrw hjx
            simp only [Option.some.injEq, Addr.mk.injEq, and_true] at hA
            obtain ⟨rfl, rfl⟩ := hA
            have hte := touchI_eq (HGS.out k) (HSM.out _ (List.getElem_mem hjx))
            have HNX : Hid (nextTo (grownBy xs k) xs[j] = true → grownBy xs (k + 1) = grownBy xs k ++ [xs[j]]) := fun h => grownBy_next hjx hno h
            have HNO : Hid (nextTo (grownBy xs k) xs[j] = false → ∀ c ∈ xs.take (j + 1), nextTo (grownBy xs k) c = false) := fun h => takeP_all hjx hno h
            have HDF : Hid (nextTo (grownBy xs k) xs[j] = (!hasC (grownBy xs k) xs[j].1 xs[j].2 && touch (grownBy xs k) xs[j])) := rfl
            obtain ⟨⟨x, y⟩, hx⟩ : ∃ p, xs[j] = p := ⟨_, rfl⟩
            rw [hx] at c1 c2 hte HNX HNO HDF
            have hgl := HGL.out k hk
            have hglm : (grownBy xs k).length = m := by have := HM.out; omega
            have HG := Lib.hid hglm
            have HT := Lib.hid hte
            have HO := Lib.hid hown
            have rs := Rd.of_own hown
            have hbs := hb.size
            clear hno hown hte hx hgl hglm
            have hm12 : m ≤ 1099511627776 := by omega
            have hcall := HasCell_i B m cap (grownBy xs k) x y _ (rs.alloc (.cells #[.int .i64 x, .int .i64 y] 55)) HG.out hm12
            have HCALL := Lib.hid hcall
            clear hcall
            cases hh : hasC (grownBy xs k) x y with
            | true =>
              have HN := Lib.hid (HNO.out (by simp [HDF.out, hh]))
              have HH := Lib.hid hh
              clear hh HNX HNO HDF
              go_wp2_with (go_at_call 55; refine Calls.mono HCALL.out ?_; rw [HH.out]; rintro e w1 ⟨rfl, hb1⟩; have HO2 := Lib.hid (own_keep (HO.out.alloc _) hb1))
              exact ⟨⟨j + 1, by omega, rfl, by go_num, HN.out, HO2.out, (by (repeat (first | with_reducible exact Below.refl _ _ | with_reducible assumption | with_reducible apply bel_alloc | with_reducible apply bel_drew | with_reducible apply bel_drewN | ((with_reducible refine bel_set ?_ ?_); rotate_left; (simp <;> omega)) | (with_reducible refine bel_trans ?_ (by with_reducible assumption)))))⟩, by simp [intOf]; omega⟩
            | false =>
              have HH := Lib.hid hh
              cases ht : touch (grownBy xs k) (x, y) with
              | false =>
                have HN := Lib.hid (HNO.out (by simp [HDF.out, hh, ht]))
                rw [ht] at HT
                clear hh ht HNX HNO HDF
                go_wp2_with fail
                refine Calls.mono HCALL.out ?_
                rw [HH.out]
                rintro e w1 ⟨rfl, hb1⟩
                have z1 : w1.cell? ⟨wr.heap.size, 0, none⟩ = some (.int .i64 x) := by simpa using ((Blk.new wr 55 #[.int .i64 x, .int .i64 y]).below hb1).cell 0
                have z2 : w1.cell? ⟨wr.heap.size, 1, none⟩ = some (.int .i64 y) := by simpa using ((Blk.new wr 55 #[.int .i64 x, .int .i64 y]).below hb1).cell 1
                have rs1 := (rs.alloc (.cells #[.int .i64 x, .int .i64 y] 55)).below hb1
                have HO1 := Lib.hid (own_keep (HO.out.alloc (.cells #[.int .i64 x, .int .i64 y] 55)) hb1)
                go_wp2_with fail
                refine (touches_i _ _ _ (grownBy xs k) _ _ _ rs1 HG.out (by omega)).mono ?_
                rw [HT.out]
                rintro e w2 ⟨rfl, hb2⟩
                have HO2 := Lib.hid (own_keep HO1.out hb2)
                go_wp2_with fail
                exact ⟨⟨j + 1, by omega, rfl, by go_num, HN.out, HO2.out, (by (repeat (first | with_reducible exact Below.refl _ _ | with_reducible assumption | with_reducible apply bel_alloc | with_reducible apply bel_drew | with_reducible apply bel_drewN | ((with_reducible refine bel_set ?_ ?_); rotate_left; (simp <;> omega)) | (with_reducible refine bel_trans ?_ (by with_reducible assumption)))))⟩, by simp [intOf]; omega⟩
              | true =>
                have HN := Lib.hid (HNX.out (by simp [HDF.out, hh, ht]))
                rw [ht] at HT
                clear hh ht HNX HNO HDF
                go_wp2_with fail
                refine Calls.mono HCALL.out ?_
                rw [HH.out]
                rintro e w1 ⟨rfl, hb1⟩
                have z1 : w1.cell? ⟨wr.heap.size, 0, none⟩ = some (.int .i64 x) := by simpa using ((Blk.new wr 55 #[.int .i64 x, .int .i64 y]).below hb1).cell 0
                have z2 : w1.cell? ⟨wr.heap.size, 1, none⟩ = some (.int .i64 y) := by simpa using ((Blk.new wr 55 #[.int .i64 x, .int .i64 y]).below hb1).cell 1
                have rs1 := (rs.alloc (.cells #[.int .i64 x, .int .i64 y] 55)).below hb1
                have HO1 := Lib.hid (own_keep (HO.out.alloc (.cells #[.int .i64 x, .int .i64 y] 55)) hb1)
                go_wp2_with fail
                refine (touches_i _ _ _ (grownBy xs k) _ _ _ rs1 HG.out (by omega)).mono ?_
                rw [HT.out]
                rintro e w2 ⟨rfl, hb2⟩
                have y1 := keep_below hb2 z1
                have y2 := keep_below hb2 z2
                have HO2 := Lib.hid (own_keep HO1.out hb2)
                have hbw : Below w.heap.size w w2 := (by (repeat (first | with_reducible exact Below.refl _ _ | with_reducible assumption | with_reducible apply bel_alloc | with_reducible apply bel_drew | with_reducible apply bel_drewN | ((with_reducible refine bel_set ?_ ?_); rotate_left; (simp <;> omega)) | (with_reducible refine bel_trans ?_ (by with_reducible assumption)))))
                have hbwz := hbw.size
                go_wp2_with (at_builtin; go_must (refine app_C _ rfl _ _ rfl w.heap.size _ _ _ _ rfl (HO2.out.alloc _) _ _ _ [(x, y)] rfl (rd_newC _ _ _ _) rfl (by omega) (by simp; omega) ?_); intro A' c' w' hown' hg' hat'; have HO3 := Lib.hid hown'; have HBG := Lib.hid (bel_app (bel_alloc hbw _) hg' (fun g' hg1 => ((own_lt HO2.out) g' hg1).1)); clear hown' hg' hat')
                exact ⟨⟨k + 1, m + 1, c', A', by have := HM.out; omega, by rw [HM.out], rfl, by rw [HN.out]; exact HO3.out, HBG.out⟩, by simp [lenV]; omega⟩
          · exfalso
            have hjn : j = n := by omega
            rw [List.take_of_length_le (by rw [HL.out]; omega)] at hno
            exact grownBy_none HC.out (by rw [HL.out]; have := HM.out; omega) hno
      · have hkn : k = n - 1 := by omega
        have hlt2 : ¬ (m : Int) < (n : Int) := by omega
        rw [hkn, ← HV.out] at hown
        have HO := Lib.hid hown
        clear hown hkn hmk
        go_wp2
        go_ret2
        exact ⟨_, _, _, rfl, HO.out, (by (repeat (first | with_reducible exact Below.refl _ _ | with_reducible assumption | with_reducible apply bel_alloc | with_reducible apply bel_drew | with_reducible apply bel_drewN | ((with_reducible refine bel_set ?_ ?_); rotate_left; (simp <;> omega)) | (with_reducible refine bel_trans ?_ (by with_reducible assumption)))))⟩
set_option maxHeartbeats 1600000 in
theorem GrowthSteps_s (A : Option Addr) (n c : Nat) (xs : List C) (w : World) (hr : Rd w A (vC xs)) (hl : xs.length = n) (hn : n ≤ 1099511627776) :
    Calls Try.prog 27 #[.slice A n c] w (RetS2 w 55 2 (vC (growSteps xs)) (.bool (isConn xs))) := by
  have HL := Lib.hid hl
  cases hc : isConn xs with
  | false =>
    have HV : Hid (growSteps xs = []) := by show growSteps xs = []; unfold growSteps; rw [hc]; rfl
    have HC := Lib.hid hc
    clear hc hl
    go_enter Try.func27, Try.ntmps27
    go_wp2_with (go_at_call 29; refine (IsConnectedShape_s _ _ _ xs _ hr HL.out (by omega)).mono ?_; rw [HC.out]; rintro e w1 ⟨rfl, hb1⟩)
    go_ret2
    exact ⟨_, 0, 0, rfl, by rw [HV.out]; exact own_new _ _ 2 0 #[] rfl (by simp [maxLen]) (by have := hb1.size; omega), (by (repeat (first | with_reducible exact Below.refl _ _ | with_reducible assumption | with_reducible apply bel_alloc | with_reducible apply bel_drew | with_reducible apply bel_drewN | ((with_reducible refine bel_set ?_ ?_); rotate_left; (simp <;> omega)) | (with_reducible refine bel_trans ?_ (by with_reducible assumption)))))⟩
  | true =>
    have HV : Hid (growSteps xs = grownBy xs (n - 1)) := by show growSteps xs = _; unfold growSteps; rw [hc, hl]; rfl
    have hs := conn_shape hc
    have hcn : conn xs = true := by simp only [isConn, Bool.and_eq_true] at hc; exact hc.2
    have hnd := shape_nodup hs
    have hlen := shape_len hs
    have hsm := shape_small hs
    have hn8 : n ≤ 8 := by omega
    have hn1 : 1 ≤ n := by omega
    have hnp : (0 : Int) < (n : Int) := by omega
    have h0x : 0 < xs.length := by omega
    have hs0 : xs[0] = s0 xs := by simp [s0, List.getD_eq_getElem?_getD, h0x]
    have HGL : Hid (∀ k, k < n → (grownBy xs k).length = k + 1) := fun k hk => grownBy_len hcn hnd k (by omega)
    have HGS : Hid (∀ k, ∀ d ∈ grownBy xs k, small d) := fun k d hd => hsm d (grownBy_sub (by intro h; rw [h] at h0x; simp at h0x) k d hd)
    have HSM := Lib.hid hsm
    have HC := Lib.hid hc
    have HS0 := Lib.hid hs0
    clear hc hs hcn hnd hlen hsm hl hn hs0
    go_enter Try.func27, Try.ntmps27
    go_wp2_with fail
    refine (IsConnectedShape_s _ _ _ xs _ hr HL.out (by omega)).mono ?_
    rw [HC.out]
    rintro e w1 ⟨rfl, hb1⟩
    obtain ⟨g0, off0, hA0, hg0, z1, z2⟩ := RdC.at_ (hr.below hb1) h0x
    rw [HS0.out] at z1 z2
    simp only [Nat.zero_mul, Nat.add_zero] at z1 z2
    obtain ⟨⟨zx, zy⟩, hz⟩ : ∃ p, s0 xs = p := ⟨_, rfl⟩
    rw [hz] at z1 z2
    have HZ := Lib.hid hz
    clear hz
    subst hA0
    have hbs := hb1.size
    go_wp2_with fail
    go_loopw [4] (fun e wr => ∃ (k m cap : Nat) (B : Option Addr), k < n ∧ m = k + 1 ∧ e = .slice B m cap ∧ wr.ownsRow w.heap.size 55 2 (.slice B m cap) m (vC (grownBy xs k)) ∧ Below w.heap.size w wr) (fun e _ => n - lenV e)
    case atStart => exact ⟨0, 1, 1, _, by omega, rfl, rfl, by simp only [grownBy]; rw [HZ.out]; exact own_newC _ _ _ _ hbs, (by (repeat (first | with_reducible exact Below.refl _ _ | with_reducible assumption | with_reducible apply bel_alloc | with_reducible apply bel_drew | with_reducible apply bel_drewN | ((with_reducible refine bel_set ?_ ?_); rotate_left; (simp <;> omega)) | (with_reducible refine bel_trans ?_ (by with_reducible assumption)))))⟩
    case round =>
      clear HZ hb1 z1 z2 hg0 hbs
      obtain ⟨k, m, cap, B, hk, hmk, rfl, hown, hb⟩ := hrel
      by_cases hlt : m < n
      · have HO := Lib.hid hown
        have HM := Lib.hid hmk
        have hlt2 : (m : Int) < (n : Int) := by omega
        clear hown hmk
        go_wp2_with fail
        go_loopw [4, 5] (fun e i wr => ∃ j : Nat, j ≤ n ∧ e = .slice B m cap ∧ i = .int .i64 j ∧ (∀ c ∈ xs.take j, nextTo (grownBy xs k) c = false) ∧ wr.ownsRow w.heap.size 55 2 (.slice B m cap) m (vC (grownBy xs k)) ∧ Below w.heap.size w wr) (fun _ i _ => n - (intOf i).toNat)
        case atStart => exact ⟨0, Nat.zero_le _, rfl, rfl, by simp, HO.out, hb⟩
        case round =>
          clear HO hb
          obtain ⟨j, hj, rfl, rfl, hno, hown, hb⟩ := hrel
          by_cases hlj : j < n
          · have hjx : j < xs.length := by rw [HL.out]; omega
            have hrw := hr.below hb
            obtain ⟨g, off, hA, hgw, c1, c2⟩ := RdC.at_ hrw hjx
            simp only [Option.some.injEq, Addr.mk.injEq, and_true] at hA
            obtain ⟨rfl, rfl⟩ := hA
            have hte := touchS_eq (HGS.out k) (HSM.out _ (List.getElem_mem hjx))
            have HNX : Hid (nextTo (grownBy xs k) xs[j] = true → grownBy xs (k + 1) = grownBy xs k ++ [xs[j]]) := fun h => grownBy_next hjx hno h
            have HNO : Hid (nextTo (grownBy xs k) xs[j] = false → ∀ c ∈ xs.take (j + 1), nextTo (grownBy xs k) c = false) := fun h => takeP_all hjx hno h
            have HDF : Hid (nextTo (grownBy xs k) xs[j] = (!hasC (grownBy xs k) xs[j].1 xs[j].2 && touch (grownBy xs k) xs[j])) := rfl
            obtain ⟨⟨x, y⟩, hx⟩ : ∃ p, xs[j] = p := ⟨_, rfl⟩
            rw [hx] at c1 c2 hte HNX HNO HDF
            have hgl := HGL.out k hk
            have hglm : (grownBy xs k).length = m := by have := HM.out; omega
            have HG := Lib.hid hglm
            have HT := Lib.hid hte
            have HO := Lib.hid hown
            have rs := Rd.of_own hown
            have hbs := hb.size
            have hi0 : (0 : Int) ≤ (j : Int) := by omega
            have hi1 : (j : Int) < (n : Int) := by omega
            have hm12 : m ≤ 1099511627776 := by omega
            clear hno hown hte hx hgl hglm
            cases hh : hasC (grownBy xs k) x y with
            | true =>
              have HN := Lib.hid (HNO.out (by simp [HDF.out, hh]))
              have HH := Lib.hid hh
              clear hh HNX HNO HDF
              go_wp2_with fail
              (refine wp_region_below (by kernel_rfl) (by kernel_rfl) ?_; (repeat (first | go_big_quiet_skip | (refine quietV (v := ?_) (by rfl) rfl (fun w' hbw => ?_) ?_; rotate_left; ((try dsimp only at hbw); have hbc := (bcell hbw).1; have hbf := (bcell hbw).2; go_simp; first | done | with_reducible rfl | (go_at_call 56; exact callsBB (HasCell_s _ _ _ _ _ _ _ (rs.below hbw) HG.out hm12) HH.out hbw)); simp only [List.setIfInBounds_toArray, List.set_cons_zero, List.set_cons_succ]))); refine wpQuiet_nil ?_; intro w1 hb1)
              have HO2 := Lib.hid (own_keep HO.out hb1)
              go_wp2_with fail
              exact ⟨⟨j + 1, by omega, rfl, by go_num, HN.out, HO2.out, (by (repeat (first | with_reducible exact Below.refl _ _ | with_reducible assumption | with_reducible apply bel_alloc | with_reducible apply bel_drew | with_reducible apply bel_drewN | ((with_reducible refine bel_set ?_ ?_); rotate_left; (simp <;> omega)) | (with_reducible refine bel_trans ?_ (by with_reducible assumption)))))⟩, by simp [intOf]; omega⟩
            | false =>
              have HH := Lib.hid hh
              cases ht : touch (grownBy xs k) (x, y) with
              | false =>
                have HN := Lib.hid (HNO.out (by simp [HDF.out, hh, ht]))
                rw [ht] at HT
                clear hh ht HNX HNO HDF
                go_wp2_with fail
                (refine wp_region_below (by kernel_rfl) (by kernel_rfl) ?_; (repeat (first | go_big_quiet_skip | (refine quietV (v := ?_) (by rfl) rfl (fun w' hbw => ?_) ?_; rotate_left; ((try dsimp only at hbw); have hbc := (bcell hbw).1; have hbf := (bcell hbw).2; go_simp; first | done | with_reducible rfl | (first | (go_at_call 56; exact callsBB (HasCell_s _ _ _ _ _ _ _ (rs.below hbw) HG.out hm12) HH.out hbw) | (go_at_call 65; exact callsBB (l25Near_s _ _ _ _ _ _ _ (rs.below hbw) HG.out hm12) HT.out hbw))); simp only [List.setIfInBounds_toArray, List.set_cons_zero, List.set_cons_succ]))); refine wpQuiet_nil ?_; intro w1 hb1)
                have HO2 := Lib.hid (own_keep HO.out hb1)
                go_wp2_with fail
                exact ⟨⟨j + 1, by omega, rfl, by go_num, HN.out, HO2.out, (by (repeat (first | with_reducible exact Below.refl _ _ | with_reducible assumption | with_reducible apply bel_alloc | with_reducible apply bel_drew | with_reducible apply bel_drewN | ((with_reducible refine bel_set ?_ ?_); rotate_left; (simp <;> omega)) | (with_reducible refine bel_trans ?_ (by with_reducible assumption)))))⟩, by simp [intOf]; omega⟩
              | true =>
                have HN := Lib.hid (HNX.out (by simp [HDF.out, hh, ht]))
                rw [ht] at HT
                clear hh ht HNX HNO HDF
                go_wp2_with fail
                (refine wp_region_below (by kernel_rfl) (by kernel_rfl) ?_; (repeat (first | go_big_quiet_skip | (refine quietV (v := ?_) (by rfl) rfl (fun w' hbw => ?_) ?_; rotate_left; ((try dsimp only at hbw); have hbc := (bcell hbw).1; have hbf := (bcell hbw).2; go_simp; first | done | with_reducible rfl | (first | (go_at_call 56; exact callsBB (HasCell_s _ _ _ _ _ _ _ (rs.below hbw) HG.out hm12) HH.out hbw) | (go_at_call 65; exact callsBB (l25Near_s _ _ _ _ _ _ _ (rs.below hbw) HG.out hm12) HT.out hbw))); simp only [List.setIfInBounds_toArray, List.set_cons_zero, List.set_cons_succ]))); refine wpQuiet_nil ?_; intro w2 hb2)
                have y1 := keep_below hb2 c1
                have y2 := keep_below hb2 c2
                have HO2 := Lib.hid (own_keep HO.out hb2)
                have hbw : Below w.heap.size w w2 := (by (repeat (first | with_reducible exact Below.refl _ _ | with_reducible assumption | with_reducible apply bel_alloc | with_reducible apply bel_drew | with_reducible apply bel_drewN | ((with_reducible refine bel_set ?_ ?_); rotate_left; (simp <;> omega)) | (with_reducible refine bel_trans ?_ (by with_reducible assumption)))))
                have hbwz := hbw.size
                go_wp2_with (at_builtin; go_must (refine app_C _ rfl _ _ rfl w.heap.size _ _ _ _ rfl (HO2.out.alloc _) _ _ _ [(x, y)] rfl (rd_newC _ _ _ _) rfl (by omega) (by simp; omega) ?_); intro A' c' w' hown' hg' hat'; have HO3 := Lib.hid hown'; have HBG := Lib.hid (bel_app (bel_alloc hbw _) hg' (fun g' hg1 => ((own_lt HO2.out) g' hg1).1)); clear hown' hg' hat')
                exact ⟨⟨k + 1, m + 1, c', A', by have := HM.out; omega, by rw [HM.out], rfl, by rw [HN.out]; exact HO3.out, HBG.out⟩, by simp [lenV]; omega⟩
          · exfalso
            have hjn : j = n := by omega
            rw [List.take_of_length_le (by rw [HL.out]; omega)] at hno
            exact grownBy_none HC.out (by rw [HL.out]; have := HM.out; omega) hno
      · have hkn : k = n - 1 := by omega
        have hlt2 : ¬ (m : Int) < (n : Int) := by omega
        rw [hkn, ← HV.out] at hown
        have HO := Lib.hid hown
        clear hown hkn hmk
        go_wp2
        go_ret2
        exact ⟨_, _, _, rfl, HO.out, (by (repeat (first | with_reducible exact Below.refl _ _ | with_reducible assumption | with_reducible apply bel_alloc | with_reducible apply bel_drew | with_reducible apply bel_drewN | ((with_reducible refine bel_set ?_ ?_); rotate_left; (simp <;> omega)) | (with_reducible refine bel_trans ?_ (by with_reducible assumption)))))⟩
end Go.Proofs.Ytagkopemcabkpaa

/- Row-convex shapes, counted by rows: a plain function, and what a table holds on the way. No program is in sight. -/
namespace Go.Proofs.Ytagkopemcabkpaa
open Go.RowKit
set_option linter.unusedVariables false

/-- The ways of c cells whose top row has t, so many lower rows reckoned. -/
def rcG (T : Nat → Nat → Int) (c t : Nat) : Nat → Int
  | 0 => if t = c then 1 else 0
  | k + 1 => wrap64 (rcG T c t k + wrap64 (((t : Int) + ((k : Int) + 1) - 1) * T (c - t) (k + 1)))
def rcT : Nat → Nat → Nat → Int
  | 0 => fun _ _ => 0
  | c + 1 => fun c' t => if c' = c then rcG (rcT c) c t (c - t) else rcT c c' t
def rcS (T : Nat → Nat → Int) (c : Nat) : Nat → Int
  | 0 => 0
  | t + 1 => wrap64 (rcS T c t + rcG T c (t + 1) (c - (t + 1)))
def rowConvex (n : Nat) : Int := rcS (rcT n) n n
/-- A table of 13 rows of 13: the rows ahead of c are done, and those ahead of t in row c. -/
structure TabI (xs : List Int) (c t : Nat) : Prop where
  len : xs.length = 169
  done : ∀ c' t', 1 ≤ c' → c' < c → 1 ≤ t' → t' ≤ c' → xs[c' * 13 + t']? = some (rcT c c' t')
  row : ∀ t', 1 ≤ t' → t' < t → xs[c * 13 + t']? = some (rcG (rcT c) c t' (c - t'))
  rest : ∀ c' t', c' ≤ 12 → t' ≤ 12 → (c < c' ∨ c' = c ∧ t ≤ t') → xs[c' * 13 + t']? = some 0
theorem TabI.zero : TabI (List.replicate 169 0) 1 1 := by
  refine ⟨List.length_replicate, fun c' t' h1 h2 _ _ => by omega, fun t' h1 h2 => by omega, fun c' t' h1 h2 _ => ?_⟩
  rw [List.getElem?_replicate, if_pos (by omega)]
theorem TabI.step {xs : List Int} {c t : Nat} (h : TabI xs c t) (h1 : 1 ≤ t) (h2 : t ≤ c) (h3 : c ≤ 12) : TabI (xs.set (c * 13 + t) (rcG (rcT c) c t (c - t))) c (t + 1) := by
  refine ⟨by rw [List.length_set]; exact h.len, fun c' t' a1 a2 a3 a4 => ?_, fun t' a1 a2 => ?_, fun c' t' a1 a2 a3 => ?_⟩
  · rw [List.getElem?_set_ne (by omega)]; exact h.done c' t' a1 a2 a3 a4
  · rcases Nat.lt_or_ge t' t with h4 | h4
    · rw [List.getElem?_set_ne (by omega)]; exact h.row t' a1 h4
    · obtain rfl : t' = t := by omega
      rw [List.getElem?_set_self (by rw [h.len]; omega)]
  · rw [List.getElem?_set_ne (by omega)]; exact h.rest c' t' a1 a2 (by omega)
theorem TabI.next {xs : List Int} {c : Nat} (h : TabI xs c (c + 1)) : TabI xs (c + 1) 1 := by
  refine ⟨h.len, fun c' t' a1 a2 a3 a4 => ?_, fun t' a1 a2 => by omega, fun c' t' a1 a2 a3 => h.rest c' t' a1 a2 (by omega)⟩
  rcases Nat.lt_or_ge c' c with h4 | h4
  · rw [h.done c' t' a1 h4 a3 a4]
    simp only [rcT]
    rw [if_neg (by omega)]
  · obtain rfl : c' = c := by omega
    rw [h.row t' a3 (by omega)]
    simp only [rcT]
    rw [if_pos trivial]
/-- What the inner loop finds: the row above, not the place that it writes. -/
theorem TabI.above {xs : List Int} {c t k : Nat} (h : TabI xs c t) (v : Int) (h1 : 1 ≤ t) (h2 : t ≤ c) (h3 : c ≤ 12) (h4 : 1 ≤ k) (h5 : k ≤ c - t) :
    (xs.set (c * 13 + t) v)[(c - t) * 13 + k]? = some (rcT c (c - t) k) := by
  rw [List.getElem?_set_ne (by omega)]
  exact h.done _ _ (by omega) (by omega) h4 h5
theorem TabI.self {xs : List Int} {c t : Nat} (h : TabI xs c t) (h1 : t ≤ c) (h3 : c ≤ 12) : xs.set (c * 13 + t) 0 = xs := by
  apply List.ext_getElem?
  intro i
  rw [List.getElem?_set]
  split
  · next e =>
    subst e
    rw [if_pos (by rw [h.len]; omega)]
    exact (h.rest c t h3 (by omega) (.inr ⟨rfl, Nat.le_refl _⟩)).symm
  · rfl
/-- The reference's table: rows of their own. -/
def ent (R : List (List Int)) (c t : Nat) : Option Int := R[c]?.bind fun r => r[t]?
structure TabS (m : Nat) (R : List (List Int)) (c t : Nat) : Prop where
  len : R.length = m + 1
  wid : ∀ i (h : i < R.length), R[i].length = m + 1
  done : ∀ c' t', 1 ≤ c' → c' < c → 1 ≤ t' → t' ≤ c' → ent R c' t' = some (rcT c c' t')
  row : ∀ t', 1 ≤ t' → t' < t → ent R c t' = some (rcG (rcT c) c t' (c - t'))
theorem TabS.zero (m : Nat) : TabS m (List.replicate (m + 1) (List.replicate (m + 1) 0)) 1 1 :=
  ⟨List.length_replicate, fun i h => by simp, fun c' t' h1 h2 _ _ => by omega, fun t' h1 h2 => by omega⟩
theorem ent_set (R : List (List Int)) (c t : Nat) (v : Int) (hc : c < R.length) (c' t' : Nat) (h : c' ≠ c ∨ t' ≠ t) : ent (R.set c (R[c].set t v)) c' t' = ent R c' t' := by
  unfold ent
  by_cases e : c' = c
  · subst e
    rw [List.getElem?_set_self hc, List.getElem?_eq_getElem hc]
    simp only [Option.bind_some]
    rw [List.getElem?_set_ne (by omega)]
  · rw [List.getElem?_set_ne (by omega)]
theorem ent_self (R : List (List Int)) (c t : Nat) (v : Int) (hc : c < R.length) (ht : t < R[c].length) : ent (R.set c (R[c].set t v)) c t = some v := by
  unfold ent
  rw [List.getElem?_set_self hc]
  simp only [Option.bind_some]
  rw [List.getElem?_set_self ht]
theorem TabS.step {m : Nat} {R : List (List Int)} {c t : Nat} (h : TabS m R c t) (h1 : 1 ≤ t) (h2 : t ≤ c) (h3 : c ≤ m) (hc : c < R.length) :
    TabS m (R.set c (R[c].set t (rcG (rcT c) c t (c - t)))) c (t + 1) := by
  have hw : t < R[c].length := by rw [h.wid c hc]; omega
  refine ⟨by rw [List.length_set]; exact h.len, fun i hi => ?_, fun c' t' a1 a2 a3 a4 => ?_, fun t' a1 a2 => ?_⟩
  · rw [List.length_set] at hi
    by_cases e : c = i
    · subst e; rw [List.getElem_set_self, List.length_set]; exact h.wid _ hi
    · rw [List.getElem_set_ne e]; exact h.wid _ hi
  · rw [ent_set R c t _ hc _ _ (by omega)]; exact h.done c' t' a1 a2 a3 a4
  · rcases Nat.lt_or_ge t' t with h4 | h4
    · rw [ent_set R c t _ hc _ _ (by omega)]; exact h.row t' a1 h4
    · obtain rfl : t' = t := by omega
      exact ent_self R c t' _ hc hw
theorem TabS.next {m : Nat} {R : List (List Int)} {c : Nat} (h : TabS m R c (c + 1)) : TabS m R (c + 1) 1 := by
  refine ⟨h.len, h.wid, fun c' t' a1 a2 a3 a4 => ?_, fun t' a1 a2 => by omega⟩
  rcases Nat.lt_or_ge c' c with h4 | h4
  · rw [h.done c' t' a1 h4 a3 a4]
    simp only [rcT]
    rw [if_neg (by omega)]
  · obtain rfl : c' = c := by omega
    rw [h.row t' a3 (by omega)]
    simp only [rcT]
    rw [if_pos trivial]
end Go.Proofs.Ytagkopemcabkpaa

/- The program's CountRowConvex. -/
namespace Go.Proofs.Ytagkopemcabkpaa
open Go.RowKit
set_option linter.unusedVariables false
attribute [local go_sem ↓] Go.wp_at_zero Go.wp_at_succ

theorem zeroTab (w : World) : (zeroValue 69).run Try.prog w = .ok (.agg (vI (List.replicate 169 0)).toArray) w := by kernel_rfl
attribute [local go_sem] zeroTab

set_option maxHeartbeats 800000 in
theorem CountRowConvex_i (m : Nat) (w : World) (h1 : 1 ≤ m) (h2 : m ≤ 12) : Calls Try.prog 33 #[.int .i64 (m : Int)] w (Ret w (.int .i64 (rowConvex m))) := by
  go_enter Try.func33, Try.ntmps33
  go_wp2_with (go_at_call 48; refine (between_t _ _ _ _ (by omega) (by omega)).mono ?_; rintro e w1 ⟨rfl, hb1⟩)
  go_loopw [5, 4] (fun i s wr => ∃ (c : Nat) (xs : List Int) (s0 : Int), 1 ≤ c ∧ c ≤ m + 1 ∧ i = .int .i64 c ∧ TabI xs c 1 ∧ s = .int .i64 s0 ∧ (1 < c → s0 = rcS (rcT (c - 1)) (c - 1) (c - 1)) ∧ Blk wr w1.heap.size 69 (vI xs).toArray ∧ Below w.heap.size w wr) (fun i _ _ => 20 - (intOf i).toNat)
  case atStart => exact ⟨1, _, 0, by omega, by omega, rfl, TabI.zero, rfl, by omega, Blk.new _ _ _, (by (repeat (first | with_reducible exact Below.refl _ _ | with_reducible assumption | with_reducible apply bel_alloc | with_reducible apply bel_drew | with_reducible apply bel_drewN | ((with_reducible refine bel_set ?_ ?_); rotate_left; (simp <;> omega)) | (with_reducible refine bel_trans ?_ (by with_reducible assumption)))))⟩
  case round =>
    obtain ⟨c, xs, s0, hc1, hc2, rfl, hT, rfl, hs0, hB, hb⟩ := hrel
    by_cases hlt : c ≤ m
    · clear hs0
      have hbb : w.heap.size ≤ w1.heap.size := hb1.size
      go_wp2
      go_loopw [6, 4] (fun t s wq => ∃ (j k : Nat) (ys : List Int), k = j + 1 ∧ j ≤ c ∧ t = .int .i64 k ∧ TabI ys c k ∧ s = .int .i64 (rcS (rcT c) c j) ∧ Blk wq w1.heap.size 69 (vI ys).toArray ∧ Below w.heap.size w wq) (fun t _ _ => 20 - (intOf t).toNat)
      case atStart => exact ⟨0, 1, xs, rfl, by omega, rfl, hT, rfl, hB, hb⟩
      case round =>
        obtain ⟨j, k, ys, hkj, hj, rfl, hT, rfl, hB, hb⟩ := hrel
        by_cases hlk : k ≤ c
        · obtain ⟨d, hd⟩ : ∃ d, c = k + d := ⟨c - k, by omega⟩
          have hsub : (c : Int) - (k : Int) = (d : Int) := by omega
          have i1 : (0 : Int) ≤ (c : Int) := by omega
          have i2 : (c : Int) < 13 := by omega
          have i3 : (0 : Int) ≤ (k : Int) := by omega
          have i4 : (k : Int) < 13 := by omega
          have i5 : (k : Int) ≤ (c : Int) := by omega
          have hin : c * 13 + k < ys.length := by rw [hT.len]; omega
          have k1 : wr.cell? ⟨w1.heap.size, c * 13 + k, none⟩ = some (.int .i64 0) := by
            rw [hB.cell]
            have := hT.rest c k (by omega) (by omega) (.inr ⟨rfl, Nat.le_refl _⟩)
            rw [show (vI ys).toArray[c * 13 + k]? = (vI ys)[c * 13 + k]? from by simp]
            unfold vI
            rw [List.getElem?_map, this]; rfl
          have hfz : wr.frozen? ⟨w1.heap.size, c * 13 + k, none⟩ = false := hB.frozen _
          have HD := Lib.hid hd
          have HK := Lib.hid hkj
          have HT := Lib.hid hT
          have HB := Lib.hid hB
          clear hd hkj hT hB
          generalize hN : w1.heap.size = N at *
          clear hN
          go_upto_if 23 with fail
          go_cut [] (fun wx => Blk wx N 69 (vI (ys.set (c * 13 + k) (rcG (rcT c) c k 0))).toArray ∧ Below w.heap.size w wx)
          case first =>
            by_cases hkc : k = c
            · have e1 : ((k : Int) == (c : Int)) = true := by simp [hkc]
              have hset : Blk (wr.setCell ⟨N, c * 13 + k, none⟩ (.int .i64 1)) N 69 (vI (ys.set (c * 13 + k) (rcG (rcT c) c k 0))).toArray := by
                have := blkI_set HB.out (c * 13 + k) 1
                simp only [rcG]
                rw [if_pos hkc]; exact this
              have HC := Lib.hid hkc
              have HS := Lib.hid hset
              clear hkc hset
              go_wp2
              go_meet
              exact ⟨HS.out, (by (repeat (first | with_reducible exact Below.refl _ _ | with_reducible assumption | with_reducible apply bel_alloc | with_reducible apply bel_drew | with_reducible apply bel_drewN | ((with_reducible refine bel_set ?_ ?_); rotate_left; (simp <;> omega)) | (with_reducible refine bel_trans ?_ (by with_reducible assumption)))))⟩
            · have e1 : ((k : Int) == (c : Int)) = false := by simp; omega
              have hset : Blk wr N 69 (vI (ys.set (c * 13 + k) (rcG (rcT c) c k 0))).toArray := by
                simp only [rcG]
                rw [if_neg hkc, HT.out.self (by omega) (by omega)]; exact HB.out
              have HS := Lib.hid hset
              clear hkc hset
              go_wp2
              go_meet
              exact ⟨HS.out, (by (repeat (first | with_reducible exact Below.refl _ _ | with_reducible assumption | with_reducible apply bel_alloc | with_reducible apply bel_drew | with_reducible apply bel_drewN | ((with_reducible refine bel_set ?_ ?_); rotate_left; (simp <;> omega)) | (with_reducible refine bel_trans ?_ (by with_reducible assumption)))))⟩
          case rest =>
            obtain ⟨hB, hb⟩ := hcut
            clear k1 hfz
            go_wp2_with fail
            go_loopw [7] (fun b wq => ∃ (q p : Nat), p = q + 1 ∧ q ≤ d ∧ b = .int .i64 p ∧ Blk wq N 69 (vI (ys.set (c * 13 + k) (rcG (rcT c) c k q))).toArray ∧ Below w.heap.size w wq) (fun b _ => 20 - (intOf b).toNat)
            case atStart => exact ⟨0, 1, rfl, by omega, rfl, hB, hb⟩
            case round =>
              clear hB hb
              obtain ⟨q, p, hpq, hq, rfl, hB, hb⟩ := hrel
              have hkp : c = k + d := HD.out
              have hk0 : k = j + 1 := HK.out
              by_cases hlp : p ≤ d
              · have lst : (ys.set (c * 13 + k) (rcG (rcT c) c k q)).length = 169 := by rw [List.length_set]; exact HT.out.len
                have g1 : wr.cell? ⟨N, c * 13 + k, none⟩ = some (.int .i64 (rcG (rcT c) c k q)) := by
                  rw [hB.cell, show (vI (ys.set (c * 13 + k) (rcG (rcT c) c k q))).toArray[c * 13 + k]? = (vI (ys.set (c * 13 + k) (rcG (rcT c) c k q)))[c * 13 + k]? from by simp]
                  unfold vI
                  rw [List.getElem?_map, List.getElem?_set_self hin]; rfl
                have g2 : wr.cell? ⟨N, d * 13 + p, none⟩ = some (.int .i64 (rcT c d p)) := by
                  rw [hB.cell, show (vI (ys.set (c * 13 + k) (rcG (rcT c) c k q))).toArray[d * 13 + p]? = (vI (ys.set (c * 13 + k) (rcG (rcT c) c k q)))[d * 13 + p]? from by simp]
                  have h := HT.out.above (k := p) (rcG (rcT c) c k q) (by omega) (by omega) (by omega) (by omega) (by omega)
                  rw [show c - k = d from by omega] at h
                  unfold vI
                  rw [List.getElem?_map, h]; rfl
                have g3 : wr.frozen? ⟨N, c * 13 + k, none⟩ = false := hB.frozen _
                have j1 : (0 : Int) ≤ (d : Int) := by omega
                have j2 : (d : Int) < 13 := by omega
                have j3 : (0 : Int) ≤ (p : Int) := by omega
                have j4 : (p : Int) < 13 := by omega
                have j5 : (p : Int) ≤ (d : Int) := by omega
                obtain ⟨e, he⟩ : ∃ e : Nat, e = k + p := ⟨_, rfl⟩
                obtain ⟨f, hf⟩ : ∃ f : Nat, f = k + q := ⟨_, rfl⟩
                have hadd : (k : Int) + (p : Int) = (e : Int) := by omega
                have j6 : (e : Int) ≤ 30 := by omega
                have j7 : (1 : Int) ≤ (e : Int) := by omega
                have hsb : (e : Int) - 1 = (f : Int) := by omega
                have hstep : rcG (rcT c) c k (q + 1) = wrap64 (rcG (rcT c) c k q + wrap64 ((f : Int) * rcT c d p)) := by
                  simp only [rcG]
                  rw [show c - k = d from by omega, show q + 1 = p from hpq.symm, show (k : Int) + ((q : Int) + 1) - 1 = (f : Int) from by omega]
                have hset := blkI_set hB (c * 13 + k) (rcG (rcT c) c k (q + 1))
                rw [List.set_set] at hset
                have hq1 : q + 1 ≤ d := by omega
                have hset2 : Blk (wr.setCell ⟨N, c * 13 + k, none⟩ (.int .i64 (wrap64 (rcG (rcT c) c k q + wrap64 ((f : Int) * rcT c d p))))) N 69 (vI (ys.set (c * 13 + k) (rcG (rcT c) c k (q + 1)))).toArray := by rw [← hstep]; exact hset
                generalize rcG (rcT c) c k q = u at *
                generalize rcT c d p = v at *
                clear hset hstep
                have hset := hset2
                clear hset2
                have hq2 : q + 1 ≤ d := by omega
                have HST := Lib.hid hset
                have HPQ := Lib.hid hpq
                have HB2 := Lib.hid hB
                clear hset hpq hB he hf hkp hk0 lst
                go_wp2_with fail
                go_region
                go_wp2_with fail
                exact ⟨⟨q + 1, p + 1, by rw [HPQ.out], hq1, by go_num, HST.out.drew, (by (repeat (first | with_reducible exact Below.refl _ _ | with_reducible assumption | with_reducible apply bel_alloc | with_reducible apply bel_drew | with_reducible apply bel_drewN | ((with_reducible refine bel_set ?_ ?_); rotate_left; (simp <;> omega)) | (with_reducible refine bel_trans ?_ (by with_reducible assumption)))))⟩, by simp [intOf]; omega⟩
              · have hqd : q = d := by omega
                have g1 : wr.cell? ⟨N, c * 13 + k, none⟩ = some (.int .i64 (rcG (rcT c) c k q)) := by
                  rw [hB.cell, show (vI (ys.set (c * 13 + k) (rcG (rcT c) c k q))).toArray[c * 13 + k]? = (vI (ys.set (c * 13 + k) (rcG (rcT c) c k q)))[c * 13 + k]? from by simp]
                  unfold vI
                  rw [List.getElem?_map, List.getElem?_set_self hin]; rfl
                have hnx := HT.out.step (by omega) (by omega) (by omega)
                have hnt : rcS (rcT c) c (j + 1) = wrap64 (rcS (rcT c) c j + rcG (rcT c) c k q) := by
                  simp only [rcS]
                  rw [← hk0, show c - k = q from by omega]
                rw [show c - k = q from by omega] at hnx
                have j5 : ¬ (p : Int) ≤ (d : Int) := by omega
                generalize rcG (rcT c) c k q = u at *
                have hj1 : j + 1 ≤ c := by omega
                have HNX := Lib.hid hnx
                have HNT := Lib.hid hnt
                have HB2 := Lib.hid hB
                clear hnx hnt hB hpq hkp hk0 hqd hlp hq
                go_wp2_with fail
                exact ⟨⟨j + 1, k + 1, _, by rw [HK.out], hj1, by go_num, HNX.out, by rw [HNT.out], HB2.out, (by (repeat (first | with_reducible exact Below.refl _ _ | with_reducible assumption | with_reducible apply bel_alloc | with_reducible apply bel_drew | with_reducible apply bel_drewN | ((with_reducible refine bel_set ?_ ?_); rotate_left; (simp <;> omega)) | (with_reducible refine bel_trans ?_ (by with_reducible assumption)))))⟩, by simp [intOf]; omega⟩
        · have hjc : j = c := by omega
          have hnx : TabI ys (c + 1) 1 := TabI.next (by rw [← hjc, ← hkj]; rw [hjc]; exact hT)
          have HNX := Lib.hid hnx
          have HJ := Lib.hid hjc
          have HB2 := Lib.hid hB
          have j5 : ¬ (k : Int) ≤ (c : Int) := by omega
          clear hjc hkj hnx hT hB
          go_wp2
          exact ⟨⟨c + 1, ys, _, by omega, by omega, by go_num, HNX.out, rfl, fun _ => by rw [HJ.out]; rfl, HB2.out, (by (repeat (first | with_reducible exact Below.refl _ _ | with_reducible assumption | with_reducible apply bel_alloc | with_reducible apply bel_drew | with_reducible apply bel_drewN | ((with_reducible refine bel_set ?_ ?_); rotate_left; (simp <;> omega)) | (with_reducible refine bel_trans ?_ (by with_reducible assumption)))))⟩, by simp [intOf]; omega⟩
    · have hcm : c = m + 1 := by omega
      have hv : s0 = rowConvex m := by
        have := hs0 (by omega)
        rw [this, hcm]; rfl
      have HV := Lib.hid hv
      have j5 : ¬ (c : Int) ≤ (m : Int) := by omega
      clear hv hcm hs0 hB hT
      go_wp2
      go_ret
      exact ⟨by rw [HV.out]; rfl, (by (repeat (first | with_reducible exact Below.refl _ _ | with_reducible assumption | with_reducible apply bel_alloc | with_reducible apply bel_drew | with_reducible apply bel_drewN | ((with_reducible refine bel_set ?_ ?_); rotate_left; (simp <;> omega)) | (with_reducible refine bel_trans ?_ (by with_reducible assumption)))))⟩
end Go.Proofs.Ytagkopemcabkpaa

/- Slices of slices of integers: the rows' blocks, kept and written; append at such a slice. -/
namespace Go.Proofs.Ytagkopemcabkpaa
open Go.RowKit
set_option linter.unusedVariables false

/-- Rows that lie in blocks of their own. -/
structure Rows (w : World) (t : TypeId) (G : List Nat) (R : List (List Value)) : Prop where
  len : G.length = R.length
  nd : G.Nodup
  blk : ∀ i (h : i < G.length) (h' : i < R.length), Blk w (G[i]'h) t (R[i]'h').toArray
section
variable {w w' : World} {t : TypeId} {G : List Nat} {R : List (List Value)}
theorem Rows.nil (w : World) (t : TypeId) : Rows w t [] [] := ⟨rfl, List.nodup_nil, fun i h => by simp at h⟩
theorem Rows.below (h : Rows w t G R) (hb : Below w.heap.size w w') : Rows w' t G R := ⟨h.len, h.nd, fun i a b => (h.blk i a b).below hb⟩
theorem Rows.drew (h : Rows w t G R) : Rows w.drew t G R := ⟨h.len, h.nd, h.blk⟩
theorem Rows.alloc (h : Rows w t G R) (o : Obj) : Rows (w.alloc o) t G R := ⟨h.len, h.nd, fun i a b => (h.blk i a b).alloc o⟩
theorem Rows.grown {row : Option Nat} (h : Rows w t G R) (hg : w.grownBy w' row) (hn : ∀ g ∈ G, some g ≠ row) : Rows w' t G R :=
  ⟨h.len, h.nd, fun i a b => (h.blk i a b).grown hg (hn _ (List.getElem_mem a))⟩
theorem Rows.far (h : Rows w t G R) {p : Addr} (hp : p.block ∉ G) (u : Value) : Rows (w.setCell p u) t G R :=
  ⟨h.len, h.nd, fun i a b => (h.blk i a b).far (fun e => hp (e ▸ List.getElem_mem a)) u⟩
theorem Rows.lt (h : Rows w t G R) : ∀ g ∈ G, g < w.heap.size := by
  intro g hg
  obtain ⟨i, hi, rfl⟩ := List.mem_iff_getElem.1 hg
  exact (h.blk i hi (by rw [← h.len]; exact hi)).lt
theorem Rows.push (h : Rows w t G R) {g : Nat} {vs : List Value} (hb : Blk w g t vs.toArray) (hg : g ∉ G) : Rows w t (G ++ [g]) (R ++ [vs]) := by
  refine ⟨by simp [h.len], ?_, fun i a b => ?_⟩
  · rw [List.nodup_append]
    refine ⟨h.nd, by simp, fun x hx y hy => ?_⟩
    simp only [List.mem_singleton] at hy
    subst hy
    rintro rfl
    exact hg hx
  · by_cases hi : i < G.length
    · simp only [List.getElem_append_left hi, List.getElem_append_left (h.len ▸ hi : i < R.length)]
      exact h.blk i hi _
    · have e : i = G.length := by simp at a; omega
      subst e
      simp only [List.getElem_append_right (Nat.le_refl _), List.getElem_append_right (Nat.le_of_eq h.len.symm), Nat.sub_self]
      simpa [h.len] using hb
theorem Rows.set_ (h : Rows w t G R) {i : Nat} (hi : i < G.length) (hi' : i < R.length) (k : Nat) (u : Value) : Rows (w.setCell ⟨G[i]'hi, k, Option.none⟩ u) t G (R.set i ((R[i]'hi').set k u)) := by
  refine ⟨by simp [h.len], h.nd, fun j a b => ?_⟩
  by_cases e : i = j
  · subst e
    rw [List.getElem_set_self]
    simpa using (h.blk i hi hi').set_ k u
  · rw [List.getElem_set_ne e]
    refine (h.blk j a _).far ?_ u
    intro he
    have := (List.pairwise_iff_getElem.1 h.nd)
    rcases Nat.lt_or_gt_of_ne e with h1 | h1
    · exact this i j hi a h1 he.symm
    · exact this j i a hi h1 he
theorem Rows.cell (h : Rows w t G R) {i : Nat} (hi : i < G.length) (hi' : i < R.length) (k : Nat) : w.cell? ⟨G[i]'hi, k, Option.none⟩ = (R[i]'hi')[k]? := by
  rw [(h.blk i hi hi').cell]; simp
end
theorem Rd.far {w : World} {A : Option Addr} {vs : List Value} (h : Rd w A vs) {p : Addr} (hp : ∀ g, ob A = some g → g ≠ p.block) (u : Value) : Rd (w.setCell p u) A vs := by
  rcases h with h | ⟨g, off, rfl, h⟩
  · exact .inl h
  · exact .inr ⟨g, off, rfl, fun j v hv => (World.cell?_setCell_other w p _ u (fun e => hp g rfl (by rw [e]))).trans (h j v hv)⟩
/-- The headers of rows of m. -/
def hds (m : Nat) (G : List Nat) : List H := G.map fun g => (some ⟨g, 0, none⟩, m, m)
theorem hds_length (m : Nat) (G : List Nat) : (hds m G).length = G.length := by simp [hds]
theorem hds_append (m : Nat) (G : List Nat) (g : Nat) : hds m (G ++ [g]) = hds m G ++ [(some ⟨g, 0, none⟩, m, m)] := by simp [hds]
theorem hds_get (m : Nat) (G : List Nat) (i : Nat) (h : i < G.length) : (hds m G)[i]'(by rw [hds_length]; exact h) = (some ⟨G[i], 0, none⟩, m, m) := by simp [hds]
theorem infoS : (Try.prog.info? 24).map (fun i => (i.zero, i.size, i.bytes)) = some (some (.slice none 0 0), 1, 24) := by kernel_rfl
section
variable (w : World) {ops : Array Oper} {rest : List Oper} {o : Oper} {a : Act} {Q : Exit → Act → World → Prop}
theorem app_S (hgd : o.guard = none) (s x : Operand) (ho : o.op = .call { callee := .builtin .append, args := #[s, x], argTypes := #[34, 34] })
    (base : Nat) (A : Option Addr) (n c : Nat) (l : List H) (hs : a.eval s = .slice A n c) (hown : w.ownsRow base 24 1 (.slice A n c) n (vS l))
    (A2 : Option Addr) (m c2 : Nat) (l2 : List H) (hx : a.eval x = .slice A2 m c2) (hr : Rd w A2 (vS l2)) (hl : l2.length = m) (hb : n + m ≤ 1099511627776) (hbase : base ≤ w.heap.size)
    (h : ∀ A' c' w', w'.ownsRow base 24 1 (.slice A' (n + m) c') (n + m) (vS (l ++ l2)) → w.grownBy w' (ob A) → (ob A' = ob A ∨ ob A' = some w.heap.size) → wpList Try.prog ops Q rest (a.put o.dst (.slice A' (n + m) c')) w') :
    wpList Try.prog ops Q (o :: rest) a w := by
  obtain ⟨i0, hi, hz0, hz1, hz2⟩ := info_parts infoS
  refine wpList_app w hgd s x _ ho base _ i0 _ 1 24 Try.underlying34 hi hz0 hz1 hz2 rfl (by omega) A n c _ hs hown A2 m c2 _ hx hr (by rw [vS_length, hl]; omega) (vS_one _) (by unfold maxLen; omega) (by omega) hbase ?_
  intro A' c' w' h1
  rw [← vS_append] at h1
  exact h A' c' w' h1
end
end Go.Proofs.Ytagkopemcabkpaa

/- The reference's CountRowConvex. -/
namespace Go.Proofs.Ytagkopemcabkpaa
open Go.RowKit
set_option linter.unusedVariables false
attribute [local go_sem ↓] Go.wp_at_zero Go.wp_at_succ

/-- The table on the way: rows of zeros so far, the totals beside them. -/
structure EndsI (base b1 M k : Nat) (A : Option Addr) (n cap : Nat) (G : List Nat) (w : World) : Prop where
  own : w.ownsRow base 24 1 (.slice A n cap) n (vS (hds M G))
  rows : Rows w 3 G (List.replicate k (vI (zeI M)))
  tot : Blk w b1 3 (vI (zeI M)).toArray
  sep : ∀ g ∈ G, b1 < g ∧ ob A ≠ some g
  sepA : ob A ≠ some b1
theorem EndsI.push {base b1 M k : Nat} {A A' : Option Addr} {n cap c' : Nat} {G : List Nat} {w w' : World} {o : Obj} (h : EndsI base b1 M k A n cap G w)
    (ho : w'.ownsRow base 24 1 (.slice A' (n + 1) c') (n + 1) (vS (hds M G ++ [(some ⟨w.heap.size, 0, none⟩, M, M)])))
    (hg : ((w.alloc (.cells (vI (zeI M)).toArray 3)).alloc o).grownBy w' (ob A)) (ha : ob A' = ob A ∨ ob A' = some ((w.alloc (.cells (vI (zeI M)).toArray 3)).alloc o).heap.size) :
    EndsI base b1 M (k + 1) A' (n + 1) c' (G ++ [w.heap.size]) w' := by
  have hlt := own_lt h.own
  have hsz : ((w.alloc (.cells (vI (zeI M)).toArray 3)).alloc o).heap.size = w.heap.size + 2 := by simp
  rw [hsz] at ha
  have hb := h.tot.lt
  have hf : w.heap.size ∉ G := fun hm => absurd (h.rows.lt _ hm) (by omega)
  have hnA : ∀ g, g ∈ G ++ [w.heap.size] → some g ≠ ob A := by
    intro g hg' he
    rcases List.mem_append.1 hg' with hm | hm
    · exact (h.sep g hm).2 he.symm
    · simp only [List.mem_singleton] at hm
      subst hm
      exact absurd (hlt _ he.symm).2 (by omega)
  refine ⟨by rw [hds_append]; exact ho, ?_, ((h.tot.alloc _).alloc _).grown hg (fun e => h.sepA e.symm), fun g hm => ?_, ?_⟩
  · rw [List.replicate_succ']
    exact (((h.rows.alloc _).push (Blk.new w _ _) hf).alloc o).grown hg hnA
  · rcases List.mem_append.1 hm with h1 | h1
    · refine ⟨(h.sep g h1).1, ?_⟩
      rcases ha with ha | ha
      · rw [ha]; exact (h.sep g h1).2
      · rw [ha]; intro e; injection e with e; have := h.rows.lt g h1; omega
    · simp only [List.mem_singleton] at h1
      subst h1
      refine ⟨hb, ?_⟩
      rcases ha with ha | ha
      · rw [ha]; exact fun e => hnA _ (by simp) e.symm
      · rw [ha]; intro e; injection e with e; omega
  · rcases ha with ha | ha
    · rw [ha]; exact h.sepA
    · rw [ha]; intro e; injection e with e; omega

/-- The table and the totals while they are written. -/
structure EndsM (base b1 M : Nat) (A : Option Addr) (G : List Nat) (R : List (List Int)) (T : List Int) (w : World) : Prop where
  hdr : Rd w A (vS (hds M G))
  rows : Rows w 3 G (R.map vI)
  tot : Blk w b1 3 (vI T).toArray
  sep : ∀ g ∈ G, b1 < g ∧ ob A ≠ some g
  sepA : ob A ≠ some b1
  gl : G.length = M
  bs : base ≤ b1
theorem EndsI.main {base b1 M : Nat} {A : Option Addr} {n cap : Nat} {G : List Nat} {w : World} (h : EndsI base b1 M M A n cap G w) (hb : base ≤ b1) : EndsM base b1 M A G (List.replicate M (List.replicate M 0)) (zeI M) w :=
  ⟨Rd.of_own h.own, by have := h.rows; rwa [← List.map_replicate] at this, h.tot, h.sep, h.sepA, by have := h.rows.len; simpa using this, hb⟩
section
variable {base b1 M : Nat} {A : Option Addr} {G : List Nat} {R : List (List Int)} {T : List Int} {w : World}
theorem EndsM.setRow (h : EndsM base b1 M A G R T w) {c : Nat} (hc : c < G.length) (hc' : c < R.length) (t : Nat) (v : Int) : EndsM base b1 M A G (R.set c (R[c].set t v)) T (w.setCell ⟨G[c], t, none⟩ (.int .i64 v)) := by
  have hm := h.sep _ (List.getElem_mem hc)
  refine ⟨h.hdr.far (fun g hg e => hm.2 (by rw [hg, e])) _, ?_, h.tot.far (by have := hm.1; simp; omega) _, h.sep, h.sepA, h.gl, h.bs⟩
  have := h.rows.set_ hc (by simpa using hc') t (.int .i64 v)
  simpa [List.map_set, vI] using this
theorem EndsM.setTot (h : EndsM base b1 M A G R T w) (c : Nat) (v : Int) : EndsM base b1 M A G R (T.set c v) (w.setCell ⟨b1, c, none⟩ (.int .i64 v)) :=
  ⟨h.hdr.far (fun g hg e => h.sepA (by rw [hg, e])) _, h.rows.far (fun hm => absurd (h.sep _ hm).1 (by simp)) _, blkI_set h.tot c v, h.sep, h.sepA, h.gl, h.bs⟩
theorem EndsM.head (h : EndsM base b1 M A G R T w) {c : Nat} (hc : c < G.length) : ∃ g off, A = some ⟨g, off, none⟩ ∧ w.cell? ⟨g, off + c, none⟩ = some (.slice (some ⟨G[c], 0, none⟩) M M) := by
  obtain ⟨g, off, e, _, h1⟩ := RdS.at_ h.hdr (k := c) (by rw [hds_length]; exact hc)
  rw [hds_get M G c hc] at h1
  exact ⟨g, off, e, h1⟩
theorem EndsM.cell (h : EndsM base b1 M A G R T w) {c t : Nat} {v : Int} (hc : c < G.length) (he : ent R c t = some v) : w.cell? ⟨G[c], t, none⟩ = some (.int .i64 v) := by
  unfold ent at he
  have hc' : c < R.length := by
    rcases Nat.lt_or_ge c R.length with h | h
    · exact h
    · rw [List.getElem?_eq_none h] at he; cases he
  rw [List.getElem?_eq_getElem hc', Option.bind_some] at he
  rw [h.rows.cell hc (by simpa using hc')]
  simp only [List.getElem_map, vI]
  rw [List.getElem?_map, he]; rfl
theorem EndsM.frozen (h : EndsM base b1 M A G R T w) {c : Nat} (hc : c < G.length) (hc' : c < R.length) (t : Nat) : w.frozen? ⟨G[c], t, none⟩ = false := (h.rows.blk c hc (by simpa using hc')).frozen t
theorem EndsM.totAt (h : EndsM base b1 M A G R T w) {c : Nat} {v : Int} (he : T[c]? = some v) : w.cell? ⟨b1, c, none⟩ = some (.int .i64 v) := by
  rw [h.tot.cell]; simp [vI, he]
end

set_option maxHeartbeats 1600000 in
theorem CountRowConvex_s (m : Nat) (w : World) (h1 : 1 ≤ m) (h2 : m ≤ 12) : Calls Try.prog 34 #[.int .i64 (m : Int)] w (Ret w (.int .i64 (rowConvex m))) := by
  obtain ⟨M, hM⟩ : ∃ M, M = m + 1 := ⟨_, rfl⟩
  have hMi : (m : Int) + 1 = (M : Int) := by omega
  have hM13 : M ≤ 13 := by omega
  have hmk : ∀ wq, (Instr.makeSlice 24 (.int .i64 (M : Int)) (.int .i64 (M : Int))).run Try.prog wq = _ := fun wq => mk_I wq M (by omega)
  have HM := Lib.hid hM
  clear hM
  go_enter Try.func34, Try.ntmps34
  go_wp2_with (go_at_call 50; refine (l1In_t _ _ _ _ (by omega) (by omega)).mono ?_; rintro e w1 ⟨rfl, hb1⟩)
  go_loopw [5, 4] (fun i e wr => ∃ (k n cap : Nat) (A : Option Addr) (G : List Nat), k ≤ m + 1 ∧ i = .int .i64 k ∧ n = k ∧ e = .slice A n cap ∧ EndsI w.heap.size w1.heap.size M k A n cap G wr ∧ Below w.heap.size w wr) (fun i _ _ => 20 - (intOf i).toNat)
  case atStart =>
    have hbs := hb1.size
    exact ⟨0, 0, 0, some ⟨w1.heap.size + 1, 0, none⟩, [], by omega, rfl, rfl, rfl, ⟨by simpa [hds, vS] using own_new (w1.alloc (.cells (vI (zeI M)).toArray 3)) 24 1 0 #[] rfl (by simp [maxLen]) (base := w.heap.size) (by simp; omega), Rows.nil _ _, (Blk.new _ _ _).alloc _, by simp, by simp [ob]⟩, (by (repeat (first | with_reducible exact Below.refl _ _ | with_reducible assumption | with_reducible apply bel_alloc | with_reducible apply bel_drew | with_reducible apply bel_drewN | ((with_reducible refine bel_set ?_ ?_); rotate_left; (simp <;> omega)) | (with_reducible refine bel_trans ?_ (by with_reducible assumption)))))⟩
  case round =>
    obtain ⟨k, n, cap, A, G, hk, rfl, hnk, rfl, hE, hb⟩ := hrel
    by_cases hlt : k ≤ m
    · have HN := Lib.hid hnk
      have HE := Lib.hid hE
      have hn13 : n ≤ 13 := by omega
      have hbw := hb.size
      clear hnk hE
      go_wp2_with ((at_builtin; go_must (refine app_S _ rfl _ _ rfl w.heap.size _ _ _ _ rfl ((HE.out.own.alloc _).alloc _) _ _ _ [(some ⟨wr.heap.size, 0, none⟩, M, M)] rfl (by have := rd_newS (wr.alloc (.cells (vI (zeI M)).toArray 3)) 24 (some ⟨wr.heap.size, 0, none⟩, M, M); simpa [hd] using this) rfl (by omega) (by simp; omega) ?_); intro A' c' w' hown' hg' hat'; have HP := Lib.hid (HE.out.push hown' hg' hat'); have HL := Lib.hid (own_lt HE.out.own); have HBG := Lib.hid (bel_app (bel_alloc (bel_alloc hb _) _) hg' (fun g' hg1 => (HL.out g' hg1).1)); clear hown' hg' hat'))
      exact ⟨⟨k + 1, n + 1, c', A', _, by omega, by go_num, by have := HN.out; omega, rfl, HP.out, HBG.out⟩, by simp [intOf]; omega⟩
    · have hkm : k = M := by have := HM.out; omega
      have hbs := hb1.size
      subst hkm
      subst hnk
      have hS : EndsM w.heap.size w1.heap.size n A G (List.replicate n (List.replicate n 0)) (zeI n) wr := hE.main hbs
      have hT0 : TabS m (List.replicate n (List.replicate n 0)) 1 1 := by rw [HM.out]; exact TabS.zero m
      have hT1 : ∀ i, 1 ≤ i → i ≤ m → (zeI n)[i]? = some 0 := fun i _ hi => by unfold zeI; rw [List.getElem?_replicate, if_pos (by have := HM.out; omega)]
      have HS := Lib.hid hS
      have HT0 := Lib.hid hT0
      have HT1 := Lib.hid hT1
      clear hS hT0 hT1 hE hmk
      go_wp2
      go_loopw [6] (fun i wr => ∃ (c : Nat) (R : List (List Int)) (T : List Int), 1 ≤ c ∧ c ≤ m + 1 ∧ i = .int .i64 c ∧ TabS m R c 1 ∧ (∀ i, c ≤ i → i ≤ m → T[i]? = some 0) ∧ (1 < c → T[c - 1]? = some (rcS (rcT (c - 1)) (c - 1) (c - 1))) ∧ EndsM w.heap.size w1.heap.size n A G R T wr ∧ Below w.heap.size w wr) (fun i _ => 20 - (intOf i).toNat)
      case atStart => exact ⟨1, _, _, by omega, by omega, rfl, HT0.out, HT1.out, by omega, HS.out, hb⟩
      case round =>
        clear hb HS HT0 HT1
        obtain ⟨c, R, T, hc1, hc2, rfl, hT, hZ, hV, hE, hb⟩ := hrel
        by_cases hlc : c ≤ m
        · have hT2 : T[c]? = some 0 := hZ c (by omega) hlc
          have hZ2 : ∀ i, c < i → i ≤ m → T[i]? = some 0 := fun i h1 h2 => hZ i (by omega) h2
          have HT := Lib.hid hT
          have HE := Lib.hid hE
          have HT2 := Lib.hid hT2
          have HZ2 := Lib.hid hZ2
          clear hT hE hT2 hZ2 hZ hV
          go_wp2
          go_loopw [7, 8] (fun l _ wr => ∃ (j t : Nat) (R : List (List Int)) (T : List Int), t = j + 1 ∧ j ≤ c ∧ l = .int .i64 t ∧ TabS m R c t ∧ T[c]? = some (rcS (rcT c) c j) ∧ (∀ i, c < i → i ≤ m → T[i]? = some 0) ∧ EndsM w.heap.size w1.heap.size n A G R T wr ∧ Below w.heap.size w wr) (fun l _ _ => 20 - (intOf l).toNat)
          case atStart => exact ⟨0, 1, _, _, rfl, by omega, rfl, HT.out, HT2.out, HZ2.out, HE.out, hb⟩
          case round =>
            clear hb HT HE HT2 HZ2
            obtain ⟨j, t, R, T, htj, hj, rfl, hT, hTc, hZ, hE, hb⟩ := hrel
            by_cases hlt : t ≤ c
            · obtain ⟨d, hd⟩ : ∃ d, c = t + d := ⟨c - t, by omega⟩
              have hsub : (c : Int) - (t : Int) = (d : Int) := by omega
              have hkm : n = m + 1 := HM.out
              have hgl := hE.gl
              have hcG : c < G.length := by omega
              have hcR : c < R.length := by rw [hT.len]; omega
              have htR : t < R[c].length := by rw [hT.wid c hcR]; omega
              have i1 : (0 : Int) ≤ (c : Int) := by omega
              have i2 : (c : Int) < (n : Int) := by omega
              have i3 : (0 : Int) ≤ (t : Int) := by omega
              have i4 : (t : Int) < (n : Int) := by omega
              have i5 : (t : Int) ≤ (c : Int) := by omega
              have HD := Lib.hid hd
              have HK := Lib.hid htj
              have HT := Lib.hid hT
              have HE := Lib.hid hE
              have HTc := Lib.hid hTc
              have HZ := Lib.hid hZ
              have HKM := Lib.hid hkm
              have HGL := Lib.hid hgl
              clear hd htj hT hE hTc hZ hkm hgl
              go_upto_if 40 with fail
              go_cut [8] (fun s wx => s = .int .i64 (rcG (rcT c) c t 0) ∧ wx = wr)
              case first =>
                by_cases hkc : t = c
                · have e1 : ((t : Int) == (c : Int)) = true := by simp [hkc]
                  have HV : Hid (rcG (rcT c) c t 0 = 1) := by show rcG (rcT c) c t 0 = 1; simp only [rcG]; rw [if_pos hkc]
                  clear hkc
                  go_wp2
                  go_meet
                  exact ⟨by rw [HV.out], rfl⟩
                · have e1 : ((t : Int) == (c : Int)) = false := by simp; omega
                  have HV : Hid (rcG (rcT c) c t 0 = 0) := by show rcG (rcT c) c t 0 = 0; simp only [rcG]; rw [if_neg hkc]
                  clear hkc
                  go_wp2
                  go_meet
                  exact ⟨by rw [HV.out], rfl⟩
              case rest =>
                obtain ⟨rfl, rfl⟩ := hcut
                go_wp2_with fail
                go_loopw [9, 8] (fun b s wq => ∃ (q p : Nat), p = q + 1 ∧ q ≤ d ∧ b = .int .i64 p ∧ s = .int .i64 (rcG (rcT c) c t q) ∧ wq = wc) (fun b _ _ => 20 - (intOf b).toNat)
                case atStart => exact ⟨0, 1, rfl, by omega, rfl, rfl, rfl⟩
                case round =>
                  obtain ⟨q, p, hpq, hq, rfl, rfl, rfl⟩ := hrel
                  have hkp : c = t + d := HD.out
                  have hk0 : t = j + 1 := HK.out
                  have hgl : G.length = n := HGL.out
                  by_cases hlp : p ≤ d
                  · have hent : ent R d p = some (rcT c d p) := HT.out.done d p (by omega) (by omega) (by omega) (by omega)
                    have hdG : d < G.length := by omega
                    have g2 := HE.out.cell hdG hent
                    obtain ⟨g, off, rfl, g1⟩ := HE.out.head hdG
                    have j1 : (0 : Int) ≤ (d : Int) := by omega
                    have j2 : (d : Int) < (n : Int) := by omega
                    have j3 : (0 : Int) ≤ (p : Int) := by omega
                    have j4 : (p : Int) < (n : Int) := by omega
                    have j5 : (p : Int) ≤ (d : Int) := by omega
                    obtain ⟨e, he⟩ : ∃ e : Nat, e = p + t := ⟨_, rfl⟩
                    obtain ⟨f, hf⟩ : ∃ f : Nat, f = t + q := ⟨_, rfl⟩
                    have hadd : (p : Int) + (t : Int) = (e : Int) := by omega
                    have j6 : (e : Int) ≤ 30 := by omega
                    have j7 : (1 : Int) ≤ (e : Int) := by omega
                    have hsb : (e : Int) - 1 = (f : Int) := by omega
                    have hstep : rcG (rcT c) c t (q + 1) = wrap64 (rcG (rcT c) c t q + wrap64 (rcT c d p * (f : Int))) := by
                      simp only [rcG]
                      rw [show c - t = d from by omega, show q + 1 = p from hpq.symm, show (t : Int) + ((q : Int) + 1) - 1 = (f : Int) from by omega, Int.mul_comm]
                    have hq1 : q + 1 ≤ d := by omega
                    generalize G[d] = gd at *
                    generalize rcG (rcT c) c t q = u at *
                    generalize rcT c d p = v at *
                    have HSP := Lib.hid hstep
                    have HPQ := Lib.hid hpq
                    clear hstep hpq he hf hkp hk0 hgl hent
                    go_wp2_with fail
                    exact ⟨⟨q + 1, p + 1, by rw [HPQ.out], hq1, by go_num, by rw [HSP.out], trivial⟩, by simp [intOf]; omega⟩
                  · have hqd : q = d := by omega
                    have hE1 := HE.out.setRow hcG hcR t (rcG (rcT c) c t q)
                    have hf1 := HE.out.frozen hcG hcR t
                    have hf0 := HE.out.cell (t := t) (v := R[c][t]) hcG (by unfold ent; rw [List.getElem?_eq_getElem hcR, Option.bind_some, List.getElem?_eq_getElem htR])
                    have hsp := (HE.out.sep _ (List.getElem_mem hcG)).1
                    obtain ⟨g, off, rfl, g1⟩ := HE.out.head hcG
                    have hnx := HT.out.step (by omega) (by omega) hlc hcR
                    rw [show c - t = q from by omega] at hnx
                    have hnt : rcS (rcT c) c (j + 1) = wrap64 (rcS (rcT c) c j + rcG (rcT c) c t q) := by
                      simp only [rcS]
                      rw [← hk0, show c - t = q from by omega]
                    generalize rcG (rcT c) c t q = u at *
                    generalize G[c] = gc at *
                    have g2 := hE1.totAt HTc.out
                    have g3 := hE1.tot.frozen c
                    have hE2 := hE1.setTot c (wrap64 (rcS (rcT c) c j + u))
                    have hTl : c < T.length := by
                      rcases Nat.lt_or_ge c T.length with h | h
                      · exact h
                      · have := HTc.out; rw [List.getElem?_eq_none h] at this; cases this
                    have hTn : (T.set c (wrap64 (rcS (rcT c) c j + u)))[c]? = some (rcS (rcT c) c (j + 1)) := by rw [List.getElem?_set_self hTl, hnt]
                    have hZn : ∀ i, c < i → i ≤ m → (T.set c (wrap64 (rcS (rcT c) c j + u)))[i]? = some 0 := fun i h1 h2 => by rw [List.getElem?_set_ne (by omega)]; exact HZ.out i h1 h2
                    have j5 : ¬ (p : Int) ≤ (d : Int) := by omega
                    have hj1 : j + 1 ≤ c := by omega
                    have HNX := Lib.hid hnx
                    have HE2 := Lib.hid hE2
                    have HTN := Lib.hid hTn
                    have HZN := Lib.hid hZn
                    clear hnx hnt hE1 hE2 hTn hZn hpq hkp hk0 hqd hlp hq hgl hTl
                    go_wp2_with fail
                    exact ⟨⟨j + 1, t + 1, _, _, by rw [HK.out], hj1, by go_num, HNX.out, HTN.out, HZN.out, HE2.out, (by (repeat (first | with_reducible exact Below.refl _ _ | with_reducible assumption | with_reducible apply bel_alloc | with_reducible apply bel_drew | with_reducible apply bel_drewN | ((with_reducible refine bel_set ?_ ?_); rotate_left; (simp <;> omega)) | (with_reducible refine bel_trans ?_ (by with_reducible assumption)))))⟩, by simp [intOf]; omega⟩
            · have hjc : j = c := by omega
              have hnx : TabS m R (c + 1) 1 := TabS.next (by rw [← hjc, ← htj]; rw [hjc]; exact hT)
              have hnv : T[c]? = some (rcS (rcT c) c c) := by rw [← hjc] at hTc ⊢; exact hTc
              have j5 : ¬ (t : Int) ≤ (c : Int) := by omega
              have HNX := Lib.hid hnx
              have HNV := Lib.hid hnv
              have HE := Lib.hid hE
              have HZ := Lib.hid hZ
              clear hjc htj hT hTc hZ hE hnx hnv
              go_wp2
              exact ⟨⟨c + 1, R, T, by omega, by omega, by go_num, HNX.out, fun i h1 h2 => HZ.out i (by omega) h2, fun _ => HNV.out, HE.out, (by (repeat (first | with_reducible exact Below.refl _ _ | with_reducible assumption | with_reducible apply bel_alloc | with_reducible apply bel_drew | with_reducible apply bel_drewN | ((with_reducible refine bel_set ?_ ?_); rotate_left; (simp <;> omega)) | (with_reducible refine bel_trans ?_ (by with_reducible assumption)))))⟩, by simp [intOf]; omega⟩
        · have hcm : c = m + 1 := by omega
          have hv : T[m]? = some (rowConvex m) := by
            have := hV (by omega)
            rwa [hcm] at this
          have g1 := hE.totAt hv
          have j5 : ¬ (c : Int) ≤ (m : Int) := by omega
          clear hv hcm hV hZ hE hT
          go_wp2
          go_ret
          exact ⟨rfl, (by (repeat (first | with_reducible exact Below.refl _ _ | with_reducible assumption | with_reducible apply bel_alloc | with_reducible apply bel_drew | with_reducible apply bel_drewN | ((with_reducible refine bel_set ?_ ?_); rotate_left; (simp <;> omega)) | (with_reducible refine bel_trans ?_ (by with_reducible assumption)))))⟩
end Go.Proofs.Ytagkopemcabkpaa

/- CountRowConvex at every number. -/
namespace Go.Proofs.Ytagkopemcabkpaa
open Go.RowKit
set_option linter.unusedVariables false
attribute [local go_sem ↓] Go.wp_at_zero Go.wp_at_succ

def rowC (x : Int) : Int := if 1 ≤ x ∧ x ≤ 12 then rowConvex x.toNat else -1
theorem CountRowConvex_i' (x : Int) (w : World) : Calls Try.prog 33 #[.int .i64 x] w (Ret w (.int .i64 (rowC x))) := by
  unfold rowC
  by_cases h : 1 ≤ x ∧ x ≤ 12
  · rw [if_pos h]
    obtain ⟨m, rfl⟩ := Int.eq_ofNat_of_zero_le (by omega : 0 ≤ x)
    exact CountRowConvex_i m w (by omega) (by omega)
  · rw [if_neg h]
    go_enter Try.func33, Try.ntmps33
    go_wp2_with (go_at_call 48; refine (between_f _ _ _ _ h).mono ?_; rintro e w1 ⟨rfl, hb1⟩)
    go_ret
    exact ⟨rfl, (by (repeat (first | with_reducible exact Below.refl _ _ | with_reducible assumption | with_reducible apply bel_alloc | with_reducible apply bel_drew | with_reducible apply bel_drewN | ((with_reducible refine bel_set ?_ ?_); rotate_left; (simp <;> omega)) | (with_reducible refine bel_trans ?_ (by with_reducible assumption)))))⟩
theorem CountRowConvex_s' (x : Int) (w : World) : Calls Try.prog 34 #[.int .i64 x] w (Ret w (.int .i64 (rowC x))) := by
  unfold rowC
  by_cases h : 1 ≤ x ∧ x ≤ 12
  · rw [if_pos h]
    obtain ⟨m, rfl⟩ := Int.eq_ofNat_of_zero_le (by omega : 0 ≤ x)
    exact CountRowConvex_s m w (by omega) (by omega)
  · rw [if_neg h]
    go_enter Try.func34, Try.ntmps34
    go_wp2_with (go_at_call 50; refine (l1In_f _ _ _ _ h).mono ?_; rintro e w1 ⟨rfl, hb1⟩)
    go_ret
    exact ⟨rfl, (by (repeat (first | with_reducible exact Below.refl _ _ | with_reducible assumption | with_reducible apply bel_alloc | with_reducible apply bel_drew | with_reducible apply bel_drewN | ((with_reducible refine bel_set ?_ ?_); rotate_left; (simp <;> omega)) | (with_reducible refine bel_trans ?_ (by with_reducible assumption)))))⟩
end Go.Proofs.Ytagkopemcabkpaa
