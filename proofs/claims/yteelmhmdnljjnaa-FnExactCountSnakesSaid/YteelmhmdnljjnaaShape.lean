/- What the program's and the reference's first functions on cells do: walks. -/
import Derived.Test.YteelmhmdnljjnaaShapeM
import Derived.Test.YteelmhmdnljjnaaSmall
import Derived.Outline
import Derived.WalkLawsBesides
import Derived.WalkSpells
import Derived.BigQuiet
import Derived.Deep.QuietTactic
import Derived.Deep.RegionHeld3
import Derived.Deep.DeepCutAuto
import Derived.Deep.CutBlock
import Derived.Deep.DrawnRows
namespace Go.Proofs.Yteelmhmdnljjnaa
open Go.RowKit
set_option linter.unusedVariables false
attribute [local go_sem ↓] Go.wp_at_zero Go.wp_at_succ

theorem beside_i (a b c d : Int) (w : World) : Calls Try.prog 51 #[.agg #[.int .i64 a, .int .i64 b], .agg #[.int .i64 c, .int .i64 d]] w (Ret w (.bool (nearI (a, b) (c, d)))) := by
  by_cases h1 : wrap64 (a - c) < wrap64 (c - a) <;> by_cases h2 : wrap64 (b - d) < wrap64 (d - b)
  all_goals
    have HV : Hid (nearI (a, b) (c, d) = (wrap64 ((if wrap64 (a - c) < wrap64 (c - a) then wrap64 (c - a) else wrap64 (a - c)) + (if wrap64 (b - d) < wrap64 (d - b) then wrap64 (d - b) else wrap64 (b - d))) == 1)) := rfl
    have H1 := Lib.hid h1
    have H2 := Lib.hid h2
    go_enter Try.func51, Try.ntmps51
    go_wp2
    go_quiet (fail)
    go_wp2
    go_ret
    have q1 := H1.out
    have q2 := H2.out
    exact ⟨by rw [HV.out]; first | (rw [if_pos q1, if_pos q2]; rfl) | (rw [if_pos q1, if_neg (Int.not_lt.2 q2)]; rfl) | (rw [if_neg (Int.not_lt.2 q1), if_pos q2]; rfl) | (rw [if_neg (Int.not_lt.2 q1), if_neg (Int.not_lt.2 q2)]; rfl), (by (repeat (first | with_reducible exact Below.refl _ _ | with_reducible assumption | with_reducible apply bel_alloc | with_reducible apply bel_drew | with_reducible apply bel_drewN | ((with_reducible refine bel_set ?_ ?_); rotate_left; (simp <;> omega)) | (with_reducible refine bel_trans ?_ (by with_reducible assumption)))))⟩
theorem l2Near_s (a b c d : Int) (w : World) : Calls Try.prog 48 #[.agg #[.int .i64 a, .int .i64 b], .agg #[.int .i64 c, .int .i64 d]] w (Ret w (.bool (nearS (a, b) (c, d)))) := by
  go_enter Try.func48, Try.ntmps48
  go_wp2
  go_ret
  exact ⟨rfl, (by (repeat (first | with_reducible exact Below.refl _ _ | with_reducible assumption | with_reducible apply bel_alloc | with_reducible apply bel_drew | with_reducible apply bel_drewN | ((with_reducible refine bel_set ?_ ?_); rotate_left; (simp <;> omega)) | (with_reducible refine bel_trans ?_ (by with_reducible assumption)))))⟩
theorem onBoard_i (a b : Int) (w : World) : Calls Try.prog 49 #[.agg #[.int .i64 a, .int .i64 b]] w (Ret w (.bool (onB (a, b)))) := by
  by_cases h1 : 0 ≤ a ∧ a ≤ 7
  · have hv : onB (a, b) = (decide (0 ≤ b) && decide (b ≤ 7)) := by simp [onB, h1]
    have HV := Lib.hid hv
    clear hv
    go_enter Try.func49, Try.ntmps49
    go_wp2_with fail
    refine (between_t _ _ _ _ (by omega) (by omega)).mono ?_
    rintro e w1 ⟨rfl, hb1⟩
    have k2 : w1.cell? ⟨w.heap.size, 1, none⟩ = some (.int .i64 b) := by simpa using ((Blk.new w 36 #[.int .i64 a, .int .i64 b]).below hb1).cell 1
    go_wp2_with fail
    refine (between_b _ _ _ _ _ rfl).mono ?_
    rintro e w2 ⟨rfl, hb2⟩
    go_wp2_with fail
    go_ret
    exact ⟨by rw [HV.out]; rfl, (by (repeat (first | with_reducible exact Below.refl _ _ | with_reducible assumption | with_reducible apply bel_alloc | with_reducible apply bel_drew | with_reducible apply bel_drewN | ((with_reducible refine bel_set ?_ ?_); rotate_left; (simp <;> omega)) | (with_reducible refine bel_trans ?_ (by with_reducible assumption)))))⟩
  · have hv : onB (a, b) = false := by simp [onB]; omega
    have HV := Lib.hid hv
    clear hv
    go_enter Try.func49, Try.ntmps49
    go_wp2_with (go_at_call 30; refine (between_f _ _ _ _ h1).mono ?_; rintro e w1 ⟨rfl, hb1⟩)
    go_ret
    exact ⟨by rw [HV.out]; rfl, (by (repeat (first | with_reducible exact Below.refl _ _ | with_reducible assumption | with_reducible apply bel_alloc | with_reducible apply bel_drew | with_reducible apply bel_drewN | ((with_reducible refine bel_set ?_ ?_); rotate_left; (simp <;> omega)) | (with_reducible refine bel_trans ?_ (by with_reducible assumption)))))⟩
theorem HasCell_i (A : Option Addr) (n c : Nat) (xs : List C) (x y : Int) (w : World) (hr : Rd w A (vC xs)) (hl : xs.length = n) (hn : n ≤ 1099511627776) :
    Calls Try.prog 56 #[.slice A n c, .int .i64 x, .int .i64 y] w (Ret w (.bool (hasC xs x y))) := by
  have HL := Lib.hid hl
  clear hl
  go_enter Try.func56, Try.ntmps56
  go_wp2
  go_loopw [11] (fun i wr => ∃ k : Nat, k ≤ n ∧ i = .int .i64 k ∧ hasC (xs.take k) x y = false ∧ Below w.heap.size w wr) (fun i _ => n - (intOf i).toNat)
  case atStart => exact ⟨0, Nat.zero_le _, rfl, rfl, Below.refl _ _⟩
  case round =>
    obtain ⟨k, hk, rfl, hno, hb⟩ := hrel
    by_cases hlt : k < n
    · have hkx : k < xs.length := by rw [HL.out]; omega
      obtain ⟨g, off, rfl, hgw, c1, c2⟩ := RdC.at_ (hr.below hb) hkx
      have ht := any_take (fun c => c.1 == x && c.2 == y) xs k hkx
      have hf := any_full (fun c => c.1 == x && c.2 == y) xs k hkx
      obtain ⟨⟨a, b⟩, hx⟩ : ∃ p, xs[k] = p := ⟨_, rfl⟩
      rw [hx] at c1 c2 ht hf
      have HT := Lib.hid ht
      have HF := Lib.hid hf
      have HN := Lib.hid hno
      clear ht hf hx hno
      by_cases h1 : a = x
      · by_cases h2 : b = y
        · have HV : Hid (hasC xs x y = true) := HF.out (by simp [h1, h2])
          have e1 : (a == x) = true := by simp [h1]
          have e2 : (b == y) = true := by simp [h2]
          clear h1 h2 HF
          go_wp2
          go_ret
          exact ⟨by rw [HV.out]; rfl, (by (repeat (first | with_reducible exact Below.refl _ _ | with_reducible assumption | with_reducible apply bel_alloc | with_reducible apply bel_drew | with_reducible apply bel_drewN | ((with_reducible refine bel_set ?_ ?_); rotate_left; (simp <;> omega)) | (with_reducible refine bel_trans ?_ (by with_reducible assumption)))))⟩
        · have HV : Hid (hasC (xs.take (k + 1)) x y = false) := by
            show hasC (xs.take (k + 1)) x y = false
            rw [show hasC (xs.take (k + 1)) x y = _ from HT.out, show ((xs.take k).any fun c => c.1 == x && c.2 == y) = false from HN.out]; simp [h2]
          have e1 : (a == x) = true := by simp [h1]
          have e2 : (b == y) = false := by simp [h2]
          clear h1 h2
          go_wp2
          exact ⟨⟨k + 1, by omega, by go_num, HV.out, (by (repeat (first | with_reducible exact Below.refl _ _ | with_reducible assumption | with_reducible apply bel_alloc | with_reducible apply bel_drew | with_reducible apply bel_drewN | ((with_reducible refine bel_set ?_ ?_); rotate_left; (simp <;> omega)) | (with_reducible refine bel_trans ?_ (by with_reducible assumption)))))⟩, by simp [intOf]; omega⟩
      · have HV : Hid (hasC (xs.take (k + 1)) x y = false) := by
          show hasC (xs.take (k + 1)) x y = false
          rw [show hasC (xs.take (k + 1)) x y = _ from HT.out, show ((xs.take k).any fun c => c.1 == x && c.2 == y) = false from HN.out]; simp [h1]
        have e1 : (a == x) = false := by simp [h1]
        clear h1
        go_wp2
        exact ⟨⟨k + 1, by omega, by go_num, HV.out, (by (repeat (first | with_reducible exact Below.refl _ _ | with_reducible assumption | with_reducible apply bel_alloc | with_reducible apply bel_drew | with_reducible apply bel_drewN | ((with_reducible refine bel_set ?_ ?_); rotate_left; (simp <;> omega)) | (with_reducible refine bel_trans ?_ (by with_reducible assumption)))))⟩, by simp [intOf]; omega⟩
    · have hkk : k = n := by omega
      subst hkk
      rw [List.take_of_length_le (by rw [HL.out]; omega)] at hno
      have HV := Lib.hid hno
      clear hno
      go_wp2
      go_ret
      exact ⟨by rw [HV.out]; rfl, (by (repeat (first | with_reducible exact Below.refl _ _ | with_reducible assumption | with_reducible apply bel_alloc | with_reducible apply bel_drew | with_reducible apply bel_drewN | ((with_reducible refine bel_set ?_ ?_); rotate_left; (simp <;> omega)) | (with_reducible refine bel_trans ?_ (by with_reducible assumption)))))⟩
theorem HasCell_s (A : Option Addr) (n c : Nat) (xs : List C) (x y : Int) (w : World) (hr : Rd w A (vC xs)) (hl : xs.length = n) (hn : n ≤ 1099511627776) :
    Calls Try.prog 36 #[.slice A n c, .int .i64 x, .int .i64 y] w (Ret w (.bool (hasC xs x y))) := by
  have HL := Lib.hid hl
  clear hl
  go_enter Try.func36, Try.ntmps36
  go_wp2
  go_loopw [7] (fun i wr => ∃ k : Nat, k ≤ n ∧ i = .int .i64 k ∧ hasC (xs.take k) x y = false ∧ Below w.heap.size w wr) (fun i _ => n - (intOf i).toNat)
  case atStart => exact ⟨0, Nat.zero_le _, rfl, rfl, Below.refl _ _⟩
  case round =>
    obtain ⟨k, hk, rfl, hno, hb⟩ := hrel
    by_cases hlt : k < n
    · have hkx : k < xs.length := by rw [HL.out]; omega
      obtain ⟨g, off, rfl, hgw, c1, c2⟩ := RdC.at_ (hr.below hb) hkx
      have ht := any_take (fun c => c.1 == x && c.2 == y) xs k hkx
      have hf := any_full (fun c => c.1 == x && c.2 == y) xs k hkx
      obtain ⟨⟨a, b⟩, hx⟩ : ∃ p, xs[k] = p := ⟨_, rfl⟩
      rw [hx] at c1 c2 ht hf
      have HT := Lib.hid ht
      have HF := Lib.hid hf
      have HN := Lib.hid hno
      clear ht hf hx hno
      by_cases h1 : a = x
      · by_cases h2 : b = y
        · have HV : Hid (hasC xs x y = true) := HF.out (by simp [h1, h2])
          have e1 : (a == x) = true := by simp [h1]
          have e2 : (b == y) = true := by simp [h2]
          clear h1 h2 HF
          go_wp2
          go_ret
          exact ⟨by rw [HV.out]; rfl, (by (repeat (first | with_reducible exact Below.refl _ _ | with_reducible assumption | with_reducible apply bel_alloc | with_reducible apply bel_drew | with_reducible apply bel_drewN | ((with_reducible refine bel_set ?_ ?_); rotate_left; (simp <;> omega)) | (with_reducible refine bel_trans ?_ (by with_reducible assumption)))))⟩
        · have HV : Hid (hasC (xs.take (k + 1)) x y = false) := by
            show hasC (xs.take (k + 1)) x y = false
            rw [show hasC (xs.take (k + 1)) x y = _ from HT.out, show ((xs.take k).any fun c => c.1 == x && c.2 == y) = false from HN.out]; simp [h2]
          have e1 : (a == x) = true := by simp [h1]
          have e2 : (b == y) = false := by simp [h2]
          clear h1 h2
          go_wp2
          exact ⟨⟨k + 1, by omega, by go_num, HV.out, (by (repeat (first | with_reducible exact Below.refl _ _ | with_reducible assumption | with_reducible apply bel_alloc | with_reducible apply bel_drew | with_reducible apply bel_drewN | ((with_reducible refine bel_set ?_ ?_); rotate_left; (simp <;> omega)) | (with_reducible refine bel_trans ?_ (by with_reducible assumption)))))⟩, by simp [intOf]; omega⟩
      · have HV : Hid (hasC (xs.take (k + 1)) x y = false) := by
          show hasC (xs.take (k + 1)) x y = false
          rw [show hasC (xs.take (k + 1)) x y = _ from HT.out, show ((xs.take k).any fun c => c.1 == x && c.2 == y) = false from HN.out]; simp [h1]
        have e1 : (a == x) = false := by simp [h1]
        clear h1
        go_wp2
        exact ⟨⟨k + 1, by omega, by go_num, HV.out, (by (repeat (first | with_reducible exact Below.refl _ _ | with_reducible assumption | with_reducible apply bel_alloc | with_reducible apply bel_drew | with_reducible apply bel_drewN | ((with_reducible refine bel_set ?_ ?_); rotate_left; (simp <;> omega)) | (with_reducible refine bel_trans ?_ (by with_reducible assumption)))))⟩, by simp [intOf]; omega⟩
    · have hkk : k = n := by omega
      subst hkk
      rw [List.take_of_length_le (by rw [HL.out]; omega)] at hno
      have HV := Lib.hid hno
      clear hno
      go_wp2
      go_ret
      exact ⟨by rw [HV.out]; rfl, (by (repeat (first | with_reducible exact Below.refl _ _ | with_reducible assumption | with_reducible apply bel_alloc | with_reducible apply bel_drew | with_reducible apply bel_drewN | ((with_reducible refine bel_set ?_ ?_); rotate_left; (simp <;> omega)) | (with_reducible refine bel_trans ?_ (by with_reducible assumption)))))⟩
end Go.Proofs.Yteelmhmdnljjnaa
