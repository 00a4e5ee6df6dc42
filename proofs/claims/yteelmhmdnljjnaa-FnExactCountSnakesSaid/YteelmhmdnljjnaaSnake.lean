/- Snakes. -/
import Derived.Test.YteelmhmdnljjnaaShape
import Derived.Test.YteelmhmdnljjnaaTree
import Derived.Test.YteelmhmdnljjnaaDeg
import Derived.Test.YteelmhmdnljjnaaReg
import Derived.Outline
import Derived.WalkLawsBesides
import Derived.WalkSpells
import Derived.BigQuiet
import Derived.Deep.QuietTactic
import Derived.Deep.RegionHeld3
import Derived.Deep.RegionWith
import Derived.Deep.DeepCutAuto
import Derived.Deep.CutBlock
import Derived.Deep.DrawnRows
namespace Go.Proofs.Yteelmhmdnljjnaa
open Go.RowKit
set_option linter.unusedVariables false
attribute [local go_sem ↓] Go.wp_at_zero Go.wp_at_succ

theorem take_no {xs : List C} {k : Nat} {P : C → Prop} (hk : k < xs.length) (h : ∀ c ∈ xs.take k, P c) (h1 : P xs[k]) : ∀ c ∈ xs.take (k + 1), P c := by
  intro c hc
  rw [List.take_succ_eq_append_getElem hk, List.mem_append, List.mem_singleton] at hc
  rcases hc with hc | hc
  · exact h c hc
  · rw [hc]; exact h1
set_option maxHeartbeats 800000 in
theorem IsSnake_i (A : Option Addr) (n c : Nat) (xs : List C) (w : World) (hr : Rd w A (vC xs)) (hl : xs.length = n) (hn : n ≤ 1099511627776) :
    Calls Try.prog 24 #[.slice A n c] w (Ret w (.bool (isSnake xs))) := by
  have HL := Lib.hid hl
  clear hl
  go_enter Try.func24, Try.ntmps24
  go_wp2
  go_loopw [7] (fun i wr => ∃ k : Nat, k ≤ n ∧ i = .int .i64 k ∧ (∀ c ∈ xs.take k, ¬ (xs.length ≤ 8 ∧ 2 < degI xs c)) ∧ Below w.heap.size w wr) (fun i _ => n - (intOf i).toNat)
  case atStart => exact ⟨0, Nat.zero_le _, rfl, by simp, Below.refl _ _⟩
  case round =>
    obtain ⟨k, hk, rfl, hno, hb⟩ := hrel
    by_cases hlt : k < n
    · have hkx : k < xs.length := by rw [HL.out]; omega
      have hrw := hr.below hb
      obtain ⟨g, off, rfl, hgw, c1, c2⟩ := RdC.at_ hrw hkx
      have HT : Hid (¬ (n ≤ 8 ∧ 2 < degI xs xs[k]) → ∀ c ∈ xs.take (k + 1), ¬ (xs.length ≤ 8 ∧ 2 < degI xs c)) := fun h => take_no hkx hno (by rw [HL.out]; exact h)
      have HF : Hid (2 < degI xs xs[k] → isSnake xs = false) := fun h => snake_no (List.getElem_mem hkx) h
      obtain ⟨⟨x, y⟩, hx⟩ : ∃ p, xs[k] = p := ⟨_, rfl⟩
      rw [hx] at c1 c2 HT HF
      clear hno hx
      by_cases h8 : n ≤ 8
      · have h8i : (n : Int) ≤ 8 := by omega
        obtain ⟨q, hq⟩ : ∃ q, degI xs (x, y) = q := ⟨_, rfl⟩
        rw [hq] at HT HF
        have HQ := Lib.hid hq
        clear hq
        by_cases h2 : 2 < q
        · have HV := Lib.hid (HF.out h2)
          have h2i : (2 : Int) < (q : Int) := by omega
          clear h2 HT HF
          go_wp2_with (go_at_call 41; refine (degree_i _ _ _ xs _ _ _ (hrw.alloc _) HL.out (by omega)).mono ?_; rw [HQ.out]; rintro e w1 ⟨rfl, hb1⟩)
          go_ret
          exact ⟨by rw [HV.out]; rfl, (by (repeat (first | with_reducible exact Below.refl _ _ | with_reducible assumption | with_reducible apply bel_alloc | with_reducible apply bel_drew | with_reducible apply bel_drewN | ((with_reducible refine bel_set ?_ ?_); rotate_left; (simp <;> omega)) | (with_reducible refine bel_trans ?_ (by with_reducible assumption)))))⟩
        · have HV := Lib.hid (HT.out (by omega))
          have h2i : ¬ (2 : Int) < (q : Int) := by omega
          have h2d : decide ((2 : Int) < (q : Int)) = false := by simp; omega
          clear h2 HT HF
          go_wp2_with (go_at_call 41; refine (degree_i _ _ _ xs _ _ _ (hrw.alloc _) HL.out (by omega)).mono ?_; rw [HQ.out]; rintro e w1 ⟨rfl, hb1⟩)
          exact ⟨⟨k + 1, by omega, by go_num, HV.out, (by (repeat (first | with_reducible exact Below.refl _ _ | with_reducible assumption | with_reducible apply bel_alloc | with_reducible apply bel_drew | with_reducible apply bel_drewN | ((with_reducible refine bel_set ?_ ?_); rotate_left; (simp <;> omega)) | (with_reducible refine bel_trans ?_ (by with_reducible assumption)))))⟩, by simp [intOf]; omega⟩
      · have HV := Lib.hid (HT.out (by omega))
        have h8i : ¬ (n : Int) ≤ 8 := by omega
        have h8d : decide ((n : Int) ≤ 8) = false := by simp; omega
        clear h8 HT HF
        go_wp2
        exact ⟨⟨k + 1, by omega, by go_num, HV.out, (by (repeat (first | with_reducible exact Below.refl _ _ | with_reducible assumption | with_reducible apply bel_alloc | with_reducible apply bel_drew | with_reducible apply bel_drewN | ((with_reducible refine bel_set ?_ ?_); rotate_left; (simp <;> omega)) | (with_reducible refine bel_trans ?_ (by with_reducible assumption)))))⟩, by simp [intOf]; omega⟩
    · have hkk : k = n := by omega
      subst hkk
      rw [List.take_of_length_le (by rw [HL.out]; omega)] at hno
      have HV := Lib.hid (snake_end hno)
      clear hno
      go_wp2_with (go_at_call 42; refine (IsTreeLike_i _ _ _ xs _ (hr.below hb) HL.out (by omega)).mono ?_; rw [HV.out]; rintro e w1 ⟨rfl, hb1⟩)
      go_ret
      exact ⟨rfl, (by (repeat (first | with_reducible exact Below.refl _ _ | with_reducible assumption | with_reducible apply bel_alloc | with_reducible apply bel_drew | with_reducible apply bel_drewN | ((with_reducible refine bel_set ?_ ?_); rotate_left; (simp <;> omega)) | (with_reducible refine bel_trans ?_ (by with_reducible assumption)))))⟩

theorem snake_iff {s : List C} (ht : isTree s = true) : isSnake s = s.all fun c => decide (deg s c ≤ 2) := by
  unfold isSnake; rw [ht]; rfl
set_option maxHeartbeats 800000 in
theorem IsSnake_s (A : Option Addr) (n c : Nat) (xs : List C) (w : World) (hr : Rd w A (vC xs)) (hl : xs.length = n) (hn : n ≤ 1099511627776) :
    Calls Try.prog 23 #[.slice A n c] w (Ret w (.bool (isSnake xs))) := by
  have HL := Lib.hid hl
  cases ht : isTree xs with
  | false =>
    have HV : Hid (isSnake xs = false) := by show isSnake xs = false; unfold isSnake; rw [ht]; rfl
    have HT := Lib.hid ht
    clear ht hl
    go_enter Try.func23, Try.ntmps23
    go_wp2_with (go_at_call 39; refine (IsTreeLike_s _ _ _ xs _ hr HL.out (by omega)).mono ?_; rw [HT.out]; rintro e w1 ⟨rfl, hb1⟩)
    go_ret
    exact ⟨by rw [HV.out]; rfl, (by (repeat (first | with_reducible exact Below.refl _ _ | with_reducible assumption | with_reducible apply bel_alloc | with_reducible apply bel_drew | with_reducible apply bel_drewN | ((with_reducible refine bel_set ?_ ?_); rotate_left; (simp <;> omega)) | (with_reducible refine bel_trans ?_ (by with_reducible assumption)))))⟩
  | true =>
    have hs := conn_shape (tree_conn ht)
    have hsm := shape_small hs
    have hlen := shape_len hs
    have hn8 : n ≤ 8 := by omega
    have HI := Lib.hid (snake_iff ht)
    have HSM := Lib.hid hsm
    have HT := Lib.hid ht
    clear ht hl hs hsm hlen
    go_enter Try.func23, Try.ntmps23
    go_wp2_with (go_at_call 39; refine (IsTreeLike_s _ _ _ xs _ hr HL.out (by omega)).mono ?_; rw [HT.out]; rintro e w1 ⟨rfl, hb1⟩)
    go_loopw [3] (fun i wr => ∃ k : Nat, k ≤ n ∧ i = .int .i64 k ∧ (∀ c ∈ xs.take k, deg xs c ≤ 2) ∧ Below w.heap.size w wr) (fun i _ => n - (intOf i).toNat)
    case atStart => exact ⟨0, Nat.zero_le _, rfl, by simp, (by (repeat (first | with_reducible exact Below.refl _ _ | with_reducible assumption | with_reducible apply bel_alloc | with_reducible apply bel_drew | with_reducible apply bel_drewN | ((with_reducible refine bel_set ?_ ?_); rotate_left; (simp <;> omega)) | (with_reducible refine bel_trans ?_ (by with_reducible assumption)))))⟩
    case round =>
      clear hb1
      obtain ⟨k, hk, rfl, hno, hb⟩ := hrel
      by_cases hlt : k < n
      · have hkx : k < xs.length := by rw [HL.out]; omega
        have hrw := hr.below hb
        obtain ⟨g, off, rfl, hgw, c1, c2⟩ := RdC.at_ hrw hkx
        have hdq := degS_eq HSM.out (HSM.out _ (List.getElem_mem hkx))
        have HNX : Hid (deg xs xs[k] ≤ 2 → ∀ c ∈ xs.take (k + 1), deg xs c ≤ 2) := fun h => take_no hkx hno h
        have HNO : Hid (2 < deg xs xs[k] → isSnake xs = false) := fun h => by
          rw [HI.out, Bool.eq_false_iff]
          intro ha
          rw [List.all_eq_true] at ha
          have := ha _ (List.getElem_mem hkx)
          rw [decide_eq_true_eq] at this
          omega
        obtain ⟨⟨x, y⟩, hx⟩ : ∃ p, xs[k] = p := ⟨_, rfl⟩
        rw [hx] at c1 c2 hdq HNX HNO
        obtain ⟨q, hq⟩ : ∃ q, deg xs (x, y) = q := ⟨_, rfl⟩
        rw [hq] at hdq HNX HNO
        have HQ := Lib.hid hdq
        have hi0 : (0 : Int) ≤ (k : Int) := by omega
        have hi1 : (k : Int) < (n : Int) := by omega
        clear hno hx hq hdq
        by_cases h2 : 2 < q
        · have HV := Lib.hid (HNO.out h2)
          have h2i : (2 : Int) < (q : Int) := by omega
          clear h2 HNX HNO
          go_wp2_with (go_at_call 40; refine (l26Degree_s _ _ _ xs _ _ _ hrw HL.out (by omega)).mono ?_; rw [HQ.out]; rintro e w1 ⟨rfl, hb1⟩)
          go_ret
          exact ⟨by rw [HV.out]; rfl, (by (repeat (first | with_reducible exact Below.refl _ _ | with_reducible assumption | with_reducible apply bel_alloc | with_reducible apply bel_drew | with_reducible apply bel_drewN | ((with_reducible refine bel_set ?_ ?_); rotate_left; (simp <;> omega)) | (with_reducible refine bel_trans ?_ (by with_reducible assumption)))))⟩
        · have HV := Lib.hid (HNX.out (by omega))
          have h2i : ¬ (2 : Int) < (q : Int) := by omega
          have h2d : decide ((2 : Int) < (q : Int)) = false := by simp; omega
          clear h2 HNX HNO
          go_wp2_with (go_at_call 40; refine (l26Degree_s _ _ _ xs _ _ _ hrw HL.out (by omega)).mono ?_; rw [HQ.out]; rintro e w1 ⟨rfl, hb1⟩)
          exact ⟨⟨k + 1, by omega, by go_num, HV.out, (by (repeat (first | with_reducible exact Below.refl _ _ | with_reducible assumption | with_reducible apply bel_alloc | with_reducible apply bel_drew | with_reducible apply bel_drewN | ((with_reducible refine bel_set ?_ ?_); rotate_left; (simp <;> omega)) | (with_reducible refine bel_trans ?_ (by with_reducible assumption)))))⟩, by simp [intOf]; omega⟩
      · have hkk : k = n := by omega
        subst hkk
        rw [List.take_of_length_le (by rw [HL.out]; omega)] at hno
        have hv : isSnake xs = true := by
          rw [HI.out, List.all_eq_true]
          intro c hc
          rw [decide_eq_true_eq]; exact hno c hc
        have HV := Lib.hid hv
        clear hno hv
        go_wp2
        go_ret
        exact ⟨by rw [HV.out]; rfl, (by (repeat (first | with_reducible exact Below.refl _ _ | with_reducible assumption | with_reducible apply bel_alloc | with_reducible apply bel_drew | with_reducible apply bel_drewN | ((with_reducible refine bel_set ?_ ?_); rotate_left; (simp <;> omega)) | (with_reducible refine bel_trans ?_ (by with_reducible assumption)))))⟩
end Go.Proofs.Yteelmhmdnljjnaa
