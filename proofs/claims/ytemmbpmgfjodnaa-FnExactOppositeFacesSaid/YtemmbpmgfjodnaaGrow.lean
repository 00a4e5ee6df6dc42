/- Growth: neighbours within a list, the program's and the reference's IsGrowth. -/
import Derived.Test.YtemmbpmgfjodnaaShape
import Derived.Outline
import Derived.WalkLawsBesides
import Derived.WalkSpells
import Derived.BigQuiet
import Derived.Deep.QuietTactic
import Derived.Deep.RegionHeld3
import Derived.Deep.RegionWith
import Derived.Deep.DeepCutAuto
import Derived.Deep.CutBlock
import Derived.Deep.DrawnRows
namespace Go.Proofs.Ytemmbpmgfjodnaa
open Go.RowKit
set_option linter.unusedVariables false
attribute [local go_sem ↓] Go.wp_at_zero Go.wp_at_succ

theorem touches_i (A : Option Addr) (n c : Nat) (xs : List C) (x y : Int) (w : World) (hr : Rd w A (vC xs)) (hl : xs.length = n) (hn : n ≤ 1099511627776) :
    Calls Try.prog 73 #[.slice A n c, .agg #[.int .i64 x, .int .i64 y]] w (Ret w (.bool (touchI xs (x, y)))) := by
  have HL := Lib.hid hl
  clear hl
  go_enter Try.func73, Try.ntmps73
  go_wp2
  go_loopw [9] (fun i wr => ∃ k : Nat, k ≤ n ∧ i = .int .i64 k ∧ touchI (xs.take k) (x, y) = false ∧ Blk wr w.heap.size 60 #[.int .i64 x, .int .i64 y] ∧ Below w.heap.size w wr) (fun i _ => n - (intOf i).toNat)
  case atStart => exact ⟨0, Nat.zero_le _, rfl, rfl, Blk.new _ _ _, (by (repeat (first | with_reducible exact Below.refl _ _ | with_reducible assumption | with_reducible apply bel_alloc | with_reducible apply bel_drew | with_reducible apply bel_drewN | ((with_reducible refine bel_set ?_ ?_); rotate_left; (simp <;> omega)) | (with_reducible refine bel_trans ?_ (by with_reducible assumption)))))⟩
  case round =>
    obtain ⟨k, hk, rfl, hno, hB, hb⟩ := hrel
    have b1 : wr.cell? ⟨w.heap.size, 0, none⟩ = some (.int .i64 x) := by simpa using hB.cell 0
    have b2 : wr.cell? ⟨w.heap.size, 1, none⟩ = some (.int .i64 y) := by simpa using hB.cell 1
    have hg := hB.lt
    by_cases hlt : k < n
    · have hkx : k < xs.length := by rw [HL.out]; omega
      obtain ⟨g, off, rfl, hgw, c1, c2⟩ := RdC.at_ (hr.below hb) hkx
      have ht := any_take (fun d => nearI (x, y) d) xs k hkx
      have hf := any_full (fun d => nearI (x, y) d) xs k hkx
      obtain ⟨⟨a, b⟩, hx⟩ : ∃ p, xs[k] = p := ⟨_, rfl⟩
      rw [hx] at c1 c2 ht hf
      cases hv : nearI (x, y) (a, b) with
      | true =>
        have HV : Hid (touchI xs (x, y) = true) := hf hv
        have HW := Lib.hid hv
        clear ht hf hx hno hv
        go_wp2_with (go_at_call 79; refine (beside_i _ _ _ _ _).mono ?_; rw [HW.out]; rintro e w1 ⟨rfl, hb1⟩)
        go_ret
        exact ⟨by rw [HV.out]; rfl, (by (repeat (first | with_reducible exact Below.refl _ _ | with_reducible assumption | with_reducible apply bel_alloc | with_reducible apply bel_drew | with_reducible apply bel_drewN | ((with_reducible refine bel_set ?_ ?_); rotate_left; (simp <;> omega)) | (with_reducible refine bel_trans ?_ (by with_reducible assumption)))))⟩
      | false =>
        have HV : Hid (touchI (xs.take (k + 1)) (x, y) = false) := by
          show (xs.take (k + 1)).any (fun d => nearI (x, y) d) = false
          rw [ht, show (xs.take k).any (fun d => nearI (x, y) d) = false from hno, hv]; rfl
        have HW := Lib.hid hv
        clear ht hf hx hno hv
        go_wp2_with (go_at_call 79; refine (beside_i _ _ _ _ _).mono ?_; rw [HW.out]; rintro e w1 ⟨rfl, hb1⟩)
        exact ⟨⟨k + 1, by omega, by go_num, HV.out, (hB.alloc _).below hb1, (by (repeat (first | with_reducible exact Below.refl _ _ | with_reducible assumption | with_reducible apply bel_alloc | with_reducible apply bel_drew | with_reducible apply bel_drewN | ((with_reducible refine bel_set ?_ ?_); rotate_left; (simp <;> omega)) | (with_reducible refine bel_trans ?_ (by with_reducible assumption)))))⟩, by simp [intOf]; omega⟩
    · have hkk : k = n := by omega
      subst hkk
      rw [List.take_of_length_le (by rw [HL.out]; omega)] at hno
      have HV := Lib.hid hno
      clear hno
      go_wp2
      go_ret
      exact ⟨by rw [HV.out]; rfl, (by (repeat (first | with_reducible exact Below.refl _ _ | with_reducible assumption | with_reducible apply bel_alloc | with_reducible apply bel_drew | with_reducible apply bel_drewN | ((with_reducible refine bel_set ?_ ?_); rotate_left; (simp <;> omega)) | (with_reducible refine bel_trans ?_ (by with_reducible assumption)))))⟩

theorem l25Near_s (A : Option Addr) (n c : Nat) (xs : List C) (x y : Int) (w : World) (hr : Rd w A (vC xs)) (hl : xs.length = n) (hn : n ≤ 1099511627776) :
    Calls Try.prog 70 #[.slice A n c, .agg #[.int .i64 x, .int .i64 y]] w (Ret w (.bool (touchS xs (x, y)))) := by
  have HL := Lib.hid hl
  clear hl
  go_enter Try.func70, Try.ntmps70
  go_wp2
  go_loopw [5] (fun i wr => ∃ k : Nat, k ≤ n ∧ i = .int .i64 k ∧ touchS (xs.take k) (x, y) = false ∧ Blk wr w.heap.size 60 #[.int .i64 x, .int .i64 y] ∧ Below w.heap.size w wr) (fun i _ => n - (intOf i).toNat)
  case atStart => exact ⟨0, Nat.zero_le _, rfl, rfl, Blk.new _ _ _, (by (repeat (first | with_reducible exact Below.refl _ _ | with_reducible assumption | with_reducible apply bel_alloc | with_reducible apply bel_drew | with_reducible apply bel_drewN | ((with_reducible refine bel_set ?_ ?_); rotate_left; (simp <;> omega)) | (with_reducible refine bel_trans ?_ (by with_reducible assumption)))))⟩
  case round =>
    obtain ⟨k, hk, rfl, hno, hB, hb⟩ := hrel
    have b1 : wr.cell? ⟨w.heap.size, 0, none⟩ = some (.int .i64 x) := by simpa using hB.cell 0
    have b2 : wr.cell? ⟨w.heap.size, 1, none⟩ = some (.int .i64 y) := by simpa using hB.cell 1
    have hg := hB.lt
    by_cases hlt : k < n
    · have hkx : k < xs.length := by rw [HL.out]; omega
      obtain ⟨g, off, rfl, hgw, c1, c2⟩ := RdC.at_ (hr.below hb) hkx
      have ht := any_take (fun d => nearS d (x, y)) xs k hkx
      have hf := any_full (fun d => nearS d (x, y)) xs k hkx
      obtain ⟨⟨a, b⟩, hx⟩ : ∃ p, xs[k] = p := ⟨_, rfl⟩
      rw [hx] at c1 c2 ht hf
      have hi0 : (0 : Int) ≤ (k : Int) := by omega
      have hi1 : (k : Int) < (n : Int) := by omega
      cases hv : nearS (a, b) (x, y) with
      | true =>
        have HV : Hid (touchS xs (x, y) = true) := hf hv
        have HW := Lib.hid hv
        clear ht hf hx hno hv
        go_wp2_with fail
        go_region_held3 (fun w' => w'.cell? ⟨g, off + k * 2, none⟩ = some (.int .i64 a) ∧ w'.cell? ⟨g, off + k * 2 + 1, none⟩ = some (.int .i64 b) ∧ w'.cell? ⟨w.heap.size, 0, none⟩ = some (.int .i64 x) ∧ w'.cell? ⟨w.heap.size, 1, none⟩ = some (.int .i64 y))
          ((go_split_ands; (try dsimp only); (repeat' (with_reducible apply And.intro)) <;> (repeat (first | with_reducible assumption | with_reducible apply keep_alloc | with_reducible apply keep_drew | with_reducible refine keep_below hb1 ?_ | ((with_reducible refine keep_set ?_ ?_); rotate_left; (simp <;> omega)))))) (first | (go_at_call 77; refine (l2Near_s _ _ _ _ _).mono ?_; rw [HW.out]; rintro e w1 ⟨rfl, hb1⟩))
        go_wp2
        go_ret
        exact ⟨by rw [HV.out]; rfl, (by (repeat (first | with_reducible exact Below.refl _ _ | with_reducible assumption | with_reducible apply bel_alloc | with_reducible apply bel_drew | with_reducible apply bel_drewN | ((with_reducible refine bel_set ?_ ?_); rotate_left; (simp <;> omega)) | (with_reducible refine bel_trans ?_ (by with_reducible assumption)))))⟩
      | false =>
        have HV : Hid (touchS (xs.take (k + 1)) (x, y) = false) := by
          show (xs.take (k + 1)).any (fun d => nearS d (x, y)) = false
          rw [ht, show (xs.take k).any (fun d => nearS d (x, y)) = false from hno, hv]; rfl
        have HW := Lib.hid hv
        clear ht hf hx hno hv
        go_wp2_with fail
        go_region_held3 (fun w' => w'.cell? ⟨g, off + k * 2, none⟩ = some (.int .i64 a) ∧ w'.cell? ⟨g, off + k * 2 + 1, none⟩ = some (.int .i64 b) ∧ w'.cell? ⟨w.heap.size, 0, none⟩ = some (.int .i64 x) ∧ w'.cell? ⟨w.heap.size, 1, none⟩ = some (.int .i64 y))
          ((go_split_ands; (try dsimp only); (repeat' (with_reducible apply And.intro)) <;> (repeat (first | with_reducible assumption | with_reducible apply keep_alloc | with_reducible apply keep_drew | with_reducible refine keep_below hb1 ?_ | ((with_reducible refine keep_set ?_ ?_); rotate_left; (simp <;> omega)))))) (first | (go_at_call 77; refine (l2Near_s _ _ _ _ _).mono ?_; rw [HW.out]; rintro e w1 ⟨rfl, hb1⟩))
        go_wp2
        exact ⟨⟨k + 1, by omega, by go_num, HV.out, hB.drew.below hb1, (by (repeat (first | with_reducible exact Below.refl _ _ | with_reducible assumption | with_reducible apply bel_alloc | with_reducible apply bel_drew | with_reducible apply bel_drewN | ((with_reducible refine bel_set ?_ ?_); rotate_left; (simp <;> omega)) | (with_reducible refine bel_trans ?_ (by with_reducible assumption)))))⟩, by simp [intOf]; omega⟩
    · have hkk : k = n := by omega
      subst hkk
      rw [List.take_of_length_le (by rw [HL.out]; omega)] at hno
      have HV := Lib.hid hno
      clear hno
      go_wp2
      go_ret
      exact ⟨by rw [HV.out]; rfl, (by (repeat (first | with_reducible exact Below.refl _ _ | with_reducible assumption | with_reducible apply bel_alloc | with_reducible apply bel_drew | with_reducible apply bel_drewN | ((with_reducible refine bel_set ?_ ?_); rotate_left; (simp <;> omega)) | (with_reducible refine bel_trans ?_ (by with_reducible assumption)))))⟩
end Go.Proofs.Ytemmbpmgfjodnaa
