/- Whether a list has a number: both sides. -/
import Derived.Test.YteelmhmdnljjnaaGreatMem
import Derived.Outline
import Derived.WalkLawsBesides
import Derived.WalkSpells
import Derived.BigQuiet
import Derived.Deep.QuietTactic
import Derived.Deep.RegionHeld3
import Derived.Deep.RegionWith
import Derived.Deep.DeepCutAuto
import Derived.Deep.CutBlock
import Derived.Deep.DrawnRows
namespace Go.Proofs.YteelmhmdnljjnaaGreat
open Go.RowKit
set_option linter.unusedVariables false
attribute [local go_sem ↓] Go.wp_at_zero Go.wp_at_succ
theorem hasInt_i (A : Option Addr) (n c : Nat) (xs : List Int) (x : Int) (w : World) (hr : Rd w A (vI xs)) (hl : xs.length = n) (hn : n ≤ 1099511627776) :
    Calls Tryz.prog 46 #[.slice A n c, .int .i64 x] w (Ret w (.bool (xs.any (· == x)))) := by
  have HL := Lib.hid hl
  clear hl
  go_enter Tryz.func46, Tryz.ntmps46
  go_wp2
  go_loopw [9] (fun i wr => ∃ k : Nat, k ≤ n ∧ i = .int .i64 k ∧ xs.any (· == x) = (xs.drop k).any (· == x) ∧ Below w.heap.size w wr) (fun i _ => n - (intOf i).toNat)
  case atStart => exact ⟨0, Nat.zero_le _, rfl, rfl, Below.refl _ _⟩
  case round =>
    obtain ⟨k, hk, rfl, hany, hb⟩ := hrel
    by_cases hlt : k < n
    · have hkl : k < xs.length := by rw [HL.out]; exact hlt
      have hk0 : (0 : Int) ≤ (k : Int) := by omega
      have hk1 : (k : Int) < (n : Int) := by omega
      obtain ⟨g, off, rfl, hg, d1⟩ := RdI.at_ (hr.below hb) hkl
      rw [List.drop_eq_getElem_cons hkl, List.any_cons] at hany
      obtain ⟨y, hy⟩ : ∃ y, xs[k] = y := ⟨_, rfl⟩
      rw [hy] at hany d1
      cases hyx : (y == x) with
      | true =>
        rw [hyx, Bool.true_or] at hany
        have HA := Lib.hid hany
        clear hany hy
        go_wp2
        go_ret
        exact ⟨by rw [HA.out]; rfl, hb⟩
      | false =>
        rw [hyx, Bool.false_or] at hany
        have HA := Lib.hid hany
        clear hany hy
        go_wp2
        exact ⟨⟨k + 1, by omega, by go_num, HA.out, hb⟩, by simp [intOf]; omega⟩
    · have hkn : k = n := by omega
      subst hkn
      rw [List.drop_of_length_le (by rw [HL.out]; omega)] at hany
      have HA := Lib.hid hany
      have hk1 : ¬ (k : Int) < (k : Int) := by omega
      clear hany
      go_wp2
      go_ret
      exact ⟨by rw [HA.out]; rfl, hb⟩
theorem l7Has_s (A : Option Addr) (n c : Nat) (xs : List Int) (x : Int) (w : World) (hr : Rd w A (vI xs)) (hl : xs.length = n) (hn : n ≤ 1099511627776) :
    Calls Tryz.prog 41 #[.slice A n c, .int .i64 x] w (Ret w (.bool (xs.any (· == x)))) := by
  have HL := Lib.hid hl
  clear hl
  go_enter Tryz.func41, Tryz.ntmps41
  go_wp2
  go_loopw [5] (fun i wr => ∃ k : Nat, k ≤ n ∧ i = .int .i64 k ∧ xs.any (· == x) = (xs.drop k).any (· == x) ∧ Below w.heap.size w wr) (fun i _ => n - (intOf i).toNat)
  case atStart => exact ⟨0, Nat.zero_le _, rfl, rfl, Below.refl _ _⟩
  case round =>
    obtain ⟨k, hk, rfl, hany, hb⟩ := hrel
    by_cases hlt : k < n
    · have hkl : k < xs.length := by rw [HL.out]; exact hlt
      have hk0 : (0 : Int) ≤ (k : Int) := by omega
      have hk1 : (k : Int) < (n : Int) := by omega
      obtain ⟨g, off, rfl, hg, d1⟩ := RdI.at_ (hr.below hb) hkl
      rw [List.drop_eq_getElem_cons hkl, List.any_cons] at hany
      obtain ⟨y, hy⟩ : ∃ y, xs[k] = y := ⟨_, rfl⟩
      rw [hy] at hany d1
      cases hyx : (y == x) with
      | true =>
        rw [hyx, Bool.true_or] at hany
        have HA := Lib.hid hany
        clear hany hy
        go_wp2
        go_ret
        exact ⟨by rw [HA.out]; rfl, hb⟩
      | false =>
        rw [hyx, Bool.false_or] at hany
        have HA := Lib.hid hany
        clear hany hy
        go_wp2
        exact ⟨⟨k + 1, by omega, by go_num, HA.out, hb⟩, by simp [intOf]; omega⟩
    · have hkn : k = n := by omega
      subst hkn
      rw [List.drop_of_length_le (by rw [HL.out]; omega)] at hany
      have HA := Lib.hid hany
      have hk1 : ¬ (k : Int) < (k : Int) := by omega
      clear hany
      go_wp2
      go_ret
      exact ⟨by rw [HA.out]; rfl, hb⟩
end Go.Proofs.YteelmhmdnljjnaaGreat
