/- Inner sides: walks. -/
import Derived.Test.YteelmhmdnljjnaaShape
import Derived.Test.YteelmhmdnljjnaaSnakeM
import Derived.Test.YteelmhmdnljjnaaShp
import Derived.Test.YteelmhmdnljjnaaShpS
import Derived.Test.YteelmhmdnljjnaaReg
import Derived.Outline
import Derived.WalkLawsBesides
import Derived.WalkSpells
import Derived.BigQuiet
import Derived.Deep.QuietTactic
import Derived.Deep.RegionHeld3
import Derived.Deep.RegionWith
import Derived.Deep.DeepCutAuto
import Derived.Deep.CutBlock
import Derived.Deep.DrawnRows
namespace Go.Proofs.Yteelmhmdnljjnaa
open Go.RowKit
set_option linter.unusedVariables false
attribute [local go_sem ↓] Go.wp_at_zero Go.wp_at_succ

def innerV (xs : List C) : Nat := if isShape xs then inner xs xs.length else 0
set_option maxHeartbeats 800000 in
theorem InnerSides_i (A : Option Addr) (n c : Nat) (xs : List C) (w : World) (hr : Rd w A (vC xs)) (hl : xs.length = n) (hn : n ≤ 1099511627776) :
    Calls Try.prog 32 #[.slice A n c] w (Ret w (.int .i64 (innerV xs : Nat))) := by
  have HL := Lib.hid hl
  cases hs : isShape xs with
  | false =>
    have HV : Hid (innerV xs = 0) := by show innerV xs = 0; unfold innerV; rw [hs]; rfl
    have HS := Lib.hid hs
    clear hs hl
    go_enter Try.func32, Try.ntmps32
    go_wp2_with (go_at_call 31; refine (IsShape_i _ _ _ xs _ hr HL.out (by omega)).mono ?_; rw [HS.out]; rintro e w1 ⟨rfl, hb1⟩)
    go_ret
    exact ⟨by rw [HV.out]; rfl, (by (repeat (first | with_reducible exact Below.refl _ _ | with_reducible assumption | with_reducible apply bel_alloc | with_reducible apply bel_drew | with_reducible apply bel_drewN | ((with_reducible refine bel_set ?_ ?_); rotate_left; (simp <;> omega)) | (with_reducible refine bel_trans ?_ (by with_reducible assumption)))))⟩
  | true =>
    have HV : Hid (innerV xs = inner xs n) := by show innerV xs = inner xs n; unfold innerV; rw [hs, hl]; rfl
    have hlen := shape_len hs
    have hsm := shape_small hs
    have hn8 : n ≤ 8 := by omega
    have hn1 : 1 ≤ n := by omega
    have HS := Lib.hid hs
    have HSM := Lib.hid hsm
    clear hs hlen hsm hl hn
    go_enter Try.func32, Try.ntmps32
    go_wp2_with (go_at_call 31; refine (IsShape_i _ _ _ xs _ hr HL.out (by omega)).mono ?_; rw [HS.out]; rintro e w1 ⟨rfl, hb1⟩)
    go_loopw [11, 3] (fun i s wr => ∃ k q : Nat, k ≤ n ∧ i = .int .i64 k ∧ s = .int .i64 q ∧ q = inner xs k ∧ Below w.heap.size w wr) (fun i _ _ => n - (intOf i).toNat)
    case atStart => exact ⟨0, 0, Nat.zero_le _, rfl, rfl, rfl, (by (repeat (first | with_reducible exact Below.refl _ _ | with_reducible assumption | with_reducible apply bel_alloc | with_reducible apply bel_drew | with_reducible apply bel_drewN | ((with_reducible refine bel_set ?_ ?_); rotate_left; (simp <;> omega)) | (with_reducible refine bel_trans ?_ (by with_reducible assumption)))))⟩
    case round =>
      obtain ⟨k, q, hk, rfl, rfl, hq, hb⟩ := hrel
      by_cases hlt : k < n
      · have hkx : k < xs.length := by rw [HL.out]; omega
        have hin : inner xs (k + 1) = inner xs k + (xs.take k).countP fun d => near xs[k] d := by
          simp only [inner]
          rw [List.getD_eq_getElem?_getD, List.getElem?_eq_getElem hkx]; rfl
        have hi0 : (0 : Int) ≤ (k : Int) := by omega
        have hi1 : (k : Int) < (n : Int) := by omega
        have hile := inner_le xs k (by omega)
        have HQ := Lib.hid hq
        have HIN := Lib.hid hin
        have hq64 : q ≤ 64 := by omega
        clear hq hin hile
        go_wp2
        go_loopw [15, 3] (fun i s wr => ∃ j p : Nat, j ≤ k ∧ i = .int .i64 j ∧ s = .int .i64 p ∧ p = q + ((xs.take j).countP fun d => near xs[k] d) ∧ Below w.heap.size w wr) (fun i _ _ => k - (intOf i).toNat)
        case atStart => exact ⟨0, q, Nat.zero_le _, rfl, rfl, rfl, (by (repeat (first | with_reducible exact Below.refl _ _ | with_reducible assumption | with_reducible apply bel_alloc | with_reducible apply bel_drew | with_reducible apply bel_drewN | ((with_reducible refine bel_set ?_ ?_); rotate_left; (simp <;> omega)) | (with_reducible refine bel_trans ?_ (by with_reducible assumption)))))⟩
        case round =>
          clear hb
          obtain ⟨j, p, hj, rfl, rfl, hp, hb⟩ := hrel
          by_cases hlj : j < k
          · have hjx : j < xs.length := by omega
            have hrw := hr.below hb
            obtain ⟨g, off, rfl, hgw, c1, c2⟩ := RdC.at_ hrw hkx
            have d12 : wr.cell? ⟨g, off + j * 2, none⟩ = some (.int .i64 xs[j].1) ∧ wr.cell? ⟨g, off + j * 2 + 1, none⟩ = some (.int .i64 xs[j].2) := by
              obtain ⟨g', off', e, _, h1, h2⟩ := RdC.at_ hrw hjx
              simp only [Option.some.injEq, Addr.mk.injEq, and_true] at e
              obtain ⟨rfl, rfl⟩ := e
              exact ⟨h1, h2⟩
            obtain ⟨d1, d2⟩ := d12
            have ht := countP_take (fun d => near xs[k] d) xs j hjx
            have hne := nearI_eq (HSM.out _ (List.getElem_mem hkx)) (HSM.out _ (List.getElem_mem hjx))
            have hpb : ((xs.take j).countP fun d => near xs[k] d) ≤ j := Nat.le_trans (countP_le' _ _) (by rw [List.length_take]; omega)
            have hp2 : p ≤ 80 := by omega
            obtain ⟨⟨x, y⟩, hx⟩ : ∃ p, xs[k] = p := ⟨_, rfl⟩
            obtain ⟨⟨x', y'⟩, hx'⟩ : ∃ p, xs[j] = p := ⟨_, rfl⟩
            rw [hx] at c1 c2
            rw [hx'] at d1 d2
            rw [hx'] at ht
            rw [hx, hx'] at hne
            have hi2 : (0 : Int) ≤ (j : Int) := by omega
            have hi3 : (j : Int) < (n : Int) := by omega
            cases hv : near (x, y) (x', y') with
            | true =>
              have HP : Hid (p + 1 = q + ((xs.take (j + 1)).countP fun d => near xs[k] d)) := by
                unfold Hid
                rw [ht, hx, hv]
                rw [hx] at hp
                simp only [if_true]
                omega
              rw [hv] at hne
              have HW := Lib.hid hne
              clear ht hx hx' hp hpb hne hv
              go_wp2_with fail
              go_region_held3 (fun w' => w'.cell? ⟨g, off + k * 2, none⟩ = some (.int .i64 x) ∧ w'.cell? ⟨g, off + k * 2 + 1, none⟩ = some (.int .i64 y) ∧ w'.cell? ⟨g, off + j * 2, none⟩ = some (.int .i64 x') ∧ w'.cell? ⟨g, off + j * 2 + 1, none⟩ = some (.int .i64 y'))
                ((go_split_ands; (try dsimp only); (repeat' (with_reducible apply And.intro)) <;> (repeat (first | with_reducible assumption | with_reducible apply keep_alloc | with_reducible apply keep_drew | with_reducible refine keep_below hb1 ?_ | ((with_reducible refine keep_set ?_ ?_); rotate_left; (simp <;> omega)))))) (first | (go_at_call 51; refine (beside_i _ _ _ _ _).mono ?_; rw [HW.out]; rintro e w1 ⟨rfl, hb1⟩))
              go_wp2
              exact ⟨⟨j + 1, p + 1, by omega, by go_num, by go_num, HP.out, (by (repeat (first | with_reducible exact Below.refl _ _ | with_reducible assumption | with_reducible apply bel_alloc | with_reducible apply bel_drew | with_reducible apply bel_drewN | ((with_reducible refine bel_set ?_ ?_); rotate_left; (simp <;> omega)) | (with_reducible refine bel_trans ?_ (by with_reducible assumption)))))⟩, by simp [intOf]; omega⟩
            | false =>
              have HP : Hid (p = q + ((xs.take (j + 1)).countP fun d => near xs[k] d)) := by
                unfold Hid
                rw [ht, hx, hv]
                rw [hx] at hp
                simp only [Bool.false_eq_true, if_false]
                omega
              rw [hv] at hne
              have HW := Lib.hid hne
              clear ht hx hx' hp hpb hne hv
              go_wp2_with fail
              go_region_held3 (fun w' => w'.cell? ⟨g, off + k * 2, none⟩ = some (.int .i64 x) ∧ w'.cell? ⟨g, off + k * 2 + 1, none⟩ = some (.int .i64 y) ∧ w'.cell? ⟨g, off + j * 2, none⟩ = some (.int .i64 x') ∧ w'.cell? ⟨g, off + j * 2 + 1, none⟩ = some (.int .i64 y'))
                ((go_split_ands; (try dsimp only); (repeat' (with_reducible apply And.intro)) <;> (repeat (first | with_reducible assumption | with_reducible apply keep_alloc | with_reducible apply keep_drew | with_reducible refine keep_below hb1 ?_ | ((with_reducible refine keep_set ?_ ?_); rotate_left; (simp <;> omega)))))) (first | (go_at_call 51; refine (beside_i _ _ _ _ _).mono ?_; rw [HW.out]; rintro e w1 ⟨rfl, hb1⟩))
              go_wp2
              exact ⟨⟨j + 1, p, by omega, by go_num, rfl, HP.out, (by (repeat (first | with_reducible exact Below.refl _ _ | with_reducible assumption | with_reducible apply bel_alloc | with_reducible apply bel_drew | with_reducible apply bel_drewN | ((with_reducible refine bel_set ?_ ?_); rotate_left; (simp <;> omega)) | (with_reducible refine bel_trans ?_ (by with_reducible assumption)))))⟩, by simp [intOf]; omega⟩
          · have hjk : j = k := by omega
            have HP : Hid (p = inner xs (k + 1)) := by
              unfold Hid
              rw [HIN.out, hp, HQ.out, hjk]
            have hj5 : ¬ (j : Int) < (k : Int) := by omega
            clear hjk hp
            go_wp2
            exact ⟨⟨k + 1, p, by omega, by go_num, rfl, HP.out, (by (repeat (first | with_reducible exact Below.refl _ _ | with_reducible assumption | with_reducible apply bel_alloc | with_reducible apply bel_drew | with_reducible apply bel_drewN | ((with_reducible refine bel_set ?_ ?_); rotate_left; (simp <;> omega)) | (with_reducible refine bel_trans ?_ (by with_reducible assumption)))))⟩, by simp [intOf]; omega⟩
      · have hkk : k = n := by omega
        subst hkk
        have HQ := Lib.hid hq
        clear hq
        go_wp2
        go_ret
        exact ⟨by rw [HV.out, ← HQ.out]; rfl, (by (repeat (first | with_reducible exact Below.refl _ _ | with_reducible assumption | with_reducible apply bel_alloc | with_reducible apply bel_drew | with_reducible apply bel_drewN | ((with_reducible refine bel_set ?_ ?_); rotate_left; (simp <;> omega)) | (with_reducible refine bel_trans ?_ (by with_reducible assumption)))))⟩
set_option maxHeartbeats 800000 in
theorem InnerSides_s (A : Option Addr) (n c : Nat) (xs : List C) (w : World) (hr : Rd w A (vC xs)) (hl : xs.length = n) (hn : n ≤ 1099511627776) :
    Calls Try.prog 29 #[.slice A n c] w (Ret w (.int .i64 (innerV xs : Nat))) := by
  have HL := Lib.hid hl
  cases hs : isShape xs with
  | false =>
    have HV : Hid (innerV xs = 0) := by show innerV xs = 0; unfold innerV; rw [hs]; rfl
    have HS := Lib.hid hs
    clear hs hl
    go_enter Try.func29, Try.ntmps29
    go_wp2
    go_loopw [4, 3] (fun i s wr => i = .int .i64 0 ∧ s = .int .i64 0 ∧ Below w.heap.size w wr) (fun i _ _ => 1 - (intOf i).toNat)
    case atStart => exact ⟨rfl, rfl, (by (repeat (first | with_reducible exact Below.refl _ _ | with_reducible assumption | with_reducible apply bel_alloc | with_reducible apply bel_drew | with_reducible apply bel_drewN | ((with_reducible refine bel_set ?_ ?_); rotate_left; (simp <;> omega)) | (with_reducible refine bel_trans ?_ (by with_reducible assumption)))))⟩
    case round =>
      obtain ⟨rfl, rfl, hb⟩ := hrel
      go_wp2_with (go_at_call 28; refine (IsShape_s _ _ _ xs _ (hr.below hb) HL.out (by omega)).mono ?_; rw [HS.out]; rintro e w2 ⟨rfl, hb2⟩)
      all_goals
        go_ret
        exact ⟨by rw [HV.out]; rfl, (by (repeat (first | with_reducible exact Below.refl _ _ | with_reducible assumption | with_reducible apply bel_alloc | with_reducible apply bel_drew | with_reducible apply bel_drewN | ((with_reducible refine bel_set ?_ ?_); rotate_left; (simp <;> omega)) | (with_reducible refine bel_trans ?_ (by with_reducible assumption)))))⟩
  | true =>
    have HV : Hid (innerV xs = inner xs n) := by show innerV xs = inner xs n; unfold innerV; rw [hs, hl]; rfl
    have hlen := shape_len hs
    have hsm := shape_small hs
    have hn8 : n ≤ 8 := by omega
    have hn1 : 1 ≤ n := by omega
    have HS := Lib.hid hs
    have HSM := Lib.hid hsm
    clear hs hlen hsm hl hn
    go_enter Try.func29, Try.ntmps29
    go_wp2
    go_loopw [4, 3] (fun i s wr => ∃ k q : Nat, k ≤ n ∧ i = .int .i64 k ∧ s = .int .i64 q ∧ q = inner xs k ∧ Below w.heap.size w wr) (fun i _ _ => n - (intOf i).toNat)
    case atStart => exact ⟨0, 0, Nat.zero_le _, rfl, rfl, rfl, (by (repeat (first | with_reducible exact Below.refl _ _ | with_reducible assumption | with_reducible apply bel_alloc | with_reducible apply bel_drew | with_reducible apply bel_drewN | ((with_reducible refine bel_set ?_ ?_); rotate_left; (simp <;> omega)) | (with_reducible refine bel_trans ?_ (by with_reducible assumption)))))⟩
    case round =>
      obtain ⟨k, q, hk, rfl, rfl, hq, hb⟩ := hrel
      by_cases hlt : k < n
      · have hkx : k < xs.length := by rw [HL.out]; omega
        have hin : inner xs (k + 1) = inner xs k + (xs.take k).countP fun d => near xs[k] d := by
          simp only [inner]
          rw [List.getD_eq_getElem?_getD, List.getElem?_eq_getElem hkx]; rfl
        have hi0 : (0 : Int) ≤ (k : Int) := by omega
        have hi1 : (k : Int) < (n : Int) := by omega
        have hile := inner_le xs k (by omega)
        have HQ := Lib.hid hq
        have HIN := Lib.hid hin
        have hq64 : q ≤ 64 := by omega
        clear hq hin hile
        go_wp2_with (go_at_call 28; refine (IsShape_s _ _ _ xs _ (hr.below hb) HL.out (by omega)).mono ?_; rw [HS.out]; rintro e w2 ⟨rfl, hb2⟩)
        go_loopw [5, 3] (fun i s wr => ∃ j p : Nat, j ≤ k ∧ i = .int .i64 j ∧ s = .int .i64 p ∧ p = q + ((xs.take j).countP fun d => near xs[k] d) ∧ Below w.heap.size w wr) (fun i _ _ => k - (intOf i).toNat)
        case atStart => exact ⟨0, q, Nat.zero_le _, rfl, rfl, rfl, (by (repeat (first | with_reducible exact Below.refl _ _ | with_reducible assumption | with_reducible apply bel_alloc | with_reducible apply bel_drew | with_reducible apply bel_drewN | ((with_reducible refine bel_set ?_ ?_); rotate_left; (simp <;> omega)) | (with_reducible refine bel_trans ?_ (by with_reducible assumption)))))⟩
        case round =>
          clear hb
          obtain ⟨j, p, hj, rfl, rfl, hp, hb⟩ := hrel
          by_cases hlj : j < k
          · have hjx : j < xs.length := by omega
            have hrw := hr.below hb
            obtain ⟨g, off, rfl, hgw, c1, c2⟩ := RdC.at_ hrw hkx
            have d12 : wr.cell? ⟨g, off + j * 2, none⟩ = some (.int .i64 xs[j].1) ∧ wr.cell? ⟨g, off + j * 2 + 1, none⟩ = some (.int .i64 xs[j].2) := by
              obtain ⟨g', off', e, _, h1, h2⟩ := RdC.at_ hrw hjx
              simp only [Option.some.injEq, Addr.mk.injEq, and_true] at e
              obtain ⟨rfl, rfl⟩ := e
              exact ⟨h1, h2⟩
            obtain ⟨d1, d2⟩ := d12
            have ht := countP_take (fun d => near xs[k] d) xs j hjx
            have hne := nearS_eq (HSM.out _ (List.getElem_mem hkx)) (HSM.out _ (List.getElem_mem hjx))
            have hpb : ((xs.take j).countP fun d => near xs[k] d) ≤ j := Nat.le_trans (countP_le' _ _) (by rw [List.length_take]; omega)
            have hp2 : p ≤ 80 := by omega
            obtain ⟨⟨x, y⟩, hx⟩ : ∃ p, xs[k] = p := ⟨_, rfl⟩
            obtain ⟨⟨x', y'⟩, hx'⟩ : ∃ p, xs[j] = p := ⟨_, rfl⟩
            rw [hx] at c1 c2
            rw [hx'] at d1 d2
            rw [hx'] at ht
            rw [hx, hx'] at hne
            have hi2 : (0 : Int) ≤ (j : Int) := by omega
            have hi3 : (j : Int) < (n : Int) := by omega
            cases hv : near (x, y) (x', y') with
            | true =>
              have HP : Hid (p + 1 = q + ((xs.take (j + 1)).countP fun d => near xs[k] d)) := by
                unfold Hid
                rw [ht, hx, hv]
                rw [hx] at hp
                simp only [if_true]
                omega
              rw [hv] at hne
              have HW := Lib.hid hne
              clear ht hx hx' hp hpb hne hv
              go_wp2_with fail
              go_region_held3 (fun w' => w'.cell? ⟨g, off + k * 2, none⟩ = some (.int .i64 x) ∧ w'.cell? ⟨g, off + k * 2 + 1, none⟩ = some (.int .i64 y) ∧ w'.cell? ⟨g, off + j * 2, none⟩ = some (.int .i64 x') ∧ w'.cell? ⟨g, off + j * 2 + 1, none⟩ = some (.int .i64 y'))
                ((go_split_ands; (try dsimp only); (repeat' (with_reducible apply And.intro)) <;> (repeat (first | with_reducible assumption | with_reducible apply keep_alloc | with_reducible apply keep_drew | with_reducible refine keep_below hb1 ?_ | ((with_reducible refine keep_set ?_ ?_); rotate_left; (simp <;> omega)))))) (first | (go_at_call 48; refine (l2Near_s _ _ _ _ _).mono ?_; rw [HW.out]; rintro e w1 ⟨rfl, hb1⟩))
              go_wp2
              exact ⟨⟨j + 1, p + 1, by omega, by go_num, by go_num, HP.out, (by (repeat (first | with_reducible exact Below.refl _ _ | with_reducible assumption | with_reducible apply bel_alloc | with_reducible apply bel_drew | with_reducible apply bel_drewN | ((with_reducible refine bel_set ?_ ?_); rotate_left; (simp <;> omega)) | (with_reducible refine bel_trans ?_ (by with_reducible assumption)))))⟩, by simp [intOf]; omega⟩
            | false =>
              have HP : Hid (p = q + ((xs.take (j + 1)).countP fun d => near xs[k] d)) := by
                unfold Hid
                rw [ht, hx, hv]
                rw [hx] at hp
                simp only [Bool.false_eq_true, if_false]
                omega
              rw [hv] at hne
              have HW := Lib.hid hne
              clear ht hx hx' hp hpb hne hv
              go_wp2_with fail
              go_region_held3 (fun w' => w'.cell? ⟨g, off + k * 2, none⟩ = some (.int .i64 x) ∧ w'.cell? ⟨g, off + k * 2 + 1, none⟩ = some (.int .i64 y) ∧ w'.cell? ⟨g, off + j * 2, none⟩ = some (.int .i64 x') ∧ w'.cell? ⟨g, off + j * 2 + 1, none⟩ = some (.int .i64 y'))
                ((go_split_ands; (try dsimp only); (repeat' (with_reducible apply And.intro)) <;> (repeat (first | with_reducible assumption | with_reducible apply keep_alloc | with_reducible apply keep_drew | with_reducible refine keep_below hb1 ?_ | ((with_reducible refine keep_set ?_ ?_); rotate_left; (simp <;> omega)))))) (first | (go_at_call 48; refine (l2Near_s _ _ _ _ _).mono ?_; rw [HW.out]; rintro e w1 ⟨rfl, hb1⟩))
              go_wp2
              exact ⟨⟨j + 1, p, by omega, by go_num, rfl, HP.out, (by (repeat (first | with_reducible exact Below.refl _ _ | with_reducible assumption | with_reducible apply bel_alloc | with_reducible apply bel_drew | with_reducible apply bel_drewN | ((with_reducible refine bel_set ?_ ?_); rotate_left; (simp <;> omega)) | (with_reducible refine bel_trans ?_ (by with_reducible assumption)))))⟩, by simp [intOf]; omega⟩
          · have hjk : j = k := by omega
            have HP : Hid (p = inner xs (k + 1)) := by
              unfold Hid
              rw [HIN.out, hp, HQ.out, hjk]
            have hj5 : ¬ (j : Int) < (k : Int) := by omega
            clear hjk hp
            go_wp2
            exact ⟨⟨k + 1, p, by omega, by go_num, rfl, HP.out, (by (repeat (first | with_reducible exact Below.refl _ _ | with_reducible assumption | with_reducible apply bel_alloc | with_reducible apply bel_drew | with_reducible apply bel_drewN | ((with_reducible refine bel_set ?_ ?_); rotate_left; (simp <;> omega)) | (with_reducible refine bel_trans ?_ (by with_reducible assumption)))))⟩, by simp [intOf]; omega⟩
      · have hkk : k = n := by omega
        subst hkk
        have HQ := Lib.hid hq
        clear hq
        go_wp2
        go_ret
        exact ⟨by rw [HV.out, ← HQ.out]; rfl, (by (repeat (first | with_reducible exact Below.refl _ _ | with_reducible assumption | with_reducible apply bel_alloc | with_reducible apply bel_drew | with_reducible apply bel_drewN | ((with_reducible refine bel_set ?_ ?_); rotate_left; (simp <;> omega)) | (with_reducible refine bel_trans ?_ (by with_reducible assumption)))))⟩
end Go.Proofs.Yteelmhmdnljjnaa
