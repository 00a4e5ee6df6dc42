/- The laws' own marks on slices of cells. -/
import Derived.Test.YtemmbpmgfjodnaaLawI
import Derived.Outline
import Derived.WalkLawsBesides
import Derived.WalkSpells
import Derived.BigQuiet
import Derived.Deep.QuietTactic
import Derived.Deep.RegionHeld3
import Derived.Deep.DeepCutAuto
import Derived.Deep.CutBlock
import Derived.Deep.DrawnRows
namespace Go.Proofs.Ytemmbpmgfjodnaa
open Go.RowKit
set_option linter.unusedVariables false
attribute [local go_sem ↓] Go.wp_at_zero Go.wp_at_succ


/-- k, k + 1 · k + 2, k + 3 · .. -/
def ioC (k : Int) (n : Nat) : List C := (List.range n).map fun (i : Nat) => (k + 2 * (i : Int), k + 2 * (i : Int) + 1)
theorem ioC_length (k : Int) (n : Nat) : (ioC k n).length = n := by simp [ioC]
theorem ioC_succ (k : Int) (n : Nat) : ioC k (n + 1) = ioC k n ++ [(k + 2 * n, k + 2 * n + 1)] := by simp [ioC, List.range_succ]
theorem ioC_get (k : Int) (n i : Nat) (h : i < (ioC k n).length) : (ioC k n)[i] = (k + 2 * i, k + 2 * i + 1) := by simp [ioC]
theorem markC_step (k : Int) (xs : List C) (j : Nat) (hj : j < xs.length) : (ioC k j ++ xs.drop j).set j (k + 2 * j, k + 2 * j + 1) = ioC k (j + 1) ++ xs.drop (j + 1) := by
  rw [List.set_append_right _ _ (by rw [ioC_length]; omega), ioC_length, Nat.sub_self, ioC_succ, List.append_assoc, List.drop_eq_getElem_cons hj]
  rfl
theorem markCellS_l (A : Option Addr) (n c base : Nat) (k : Int) (xs : List C) (w : World) (ho : w.ownsRow base 60 2 (.slice A n c) n (vC xs)) (hn : n ≤ 1099511627776) (hk0 : 0 ≤ k) (hk1 : k ≤ 1099511627776) :
    Calls Try.prog 27 #[.slice A n c, .int .i64 k] w (MarkP w base 60 2 A n c (vC (ioC k n)) (k + 2 * n)) := by
  have hl : xs.length = n := by have := own_len ho; rw [vC_length] at this; omega
  have HL := Lib.hid hl
  clear hl
  go_enter Try.func27, Try.ntmps27
  go_wp2
  go_loopw [1, 5] (fun t i wr => ∃ (j : Nat) (q : Int), j ≤ n ∧ i = .int .i64 j ∧ t = .int .i64 q ∧ q = k + 2 * j ∧ wr.ownsRow base 60 2 (.slice A n c) n (vC (ioC k j ++ xs.drop j)) ∧ w.grownBy wr (ob A)) (fun _ i _ => n - (intOf i).toNat)
  case atStart => exact ⟨0, k, Nat.zero_le _, rfl, rfl, by simp, by simpa [ioC] using ho, World.grownBy.refl _ _⟩
  case round =>
    obtain ⟨j, q, hj, rfl, rfl, hq, hO, hg⟩ := hrel
    by_cases hlt : j < n
    · obtain ⟨g, rfl, hbg, hgw⟩ := own_at hO (by omega)
      have hjl : j < (ioC k j ++ xs.drop j).length := by rw [List.length_append, ioC_length, List.length_drop, HL.out]; omega
      have d1 := hO.cellAt (j * 2) (by omega)
      rw [vC_get1 _ j hjl] at d1
      have f1 := hO.frozenAt (j * 2)
      have hst := (hO.stored (j * 2) (.int .i64 q)).1
      have d2 := hst.cellAt (j * 2 + 1) (by omega)
      rw [List.getElem?_set_ne (by omega), vC_get2 _ j hjl] at d2
      have f2 := hst.frozenAt (j * 2 + 1)
      have hst2 := (hst.stored (j * 2 + 1) (.int .i64 (q + 1))).1
      generalize (ioC k j ++ xs.drop j)[j] = z at d1 d2
      rw [vC_set_list _ j (q, q + 1), hq, markC_step k xs j (by rw [HL.out]; omega), ← hq] at hst2
      have q0 : 0 ≤ q := by omega
      have q1 : q ≤ 4398046511104 := by omega
      have HS := Lib.hid hst2
      have HQ := Lib.hid hq
      clear hst hst2 hO hq
      go_wp2
      exact ⟨⟨j + 1, q + 2, by omega, by go_num, by rw [show q + 1 + 1 = q + 2 from by omega], by have := HQ.out; omega, HS.out, grown_set (p := ⟨g, j * 2 + 1, none⟩) (grown_set (p := ⟨g, j * 2, none⟩) hg rfl _) rfl _⟩, by simp [intOf]; omega⟩
    · have hkk : j = n := by omega
      subst hkk
      rw [List.drop_of_length_le (by rw [HL.out]; omega), List.append_nil] at hO
      have HO := Lib.hid hO
      have HQ := Lib.hid hq
      clear hO hq
      go_wp2
      go_ret
      exact ⟨by rw [← HQ.out]; rfl, HO.out, hg⟩
theorem heldCellS_l (A : Option Addr) (n c : Nat) (k : Int) (w : World) (hr : Rd w A (vC (ioC k n))) (hn : n ≤ 1099511627776) (hk0 : 0 ≤ k) (hk1 : k ≤ 1099511627776) :
    Calls Try.prog 28 #[.slice A n c, .int .i64 k] w (Ret w (.int .i64 (k + 2 * n))) := by
  go_enter Try.func28, Try.ntmps28
  go_wp2
  go_loopw [1, 5] (fun t i wr => ∃ (j : Nat) (q : Int), j ≤ n ∧ i = .int .i64 j ∧ t = .int .i64 q ∧ q = k + 2 * j ∧ Below w.heap.size w wr) (fun _ i _ => n - (intOf i).toNat)
  case atStart => exact ⟨0, k, Nat.zero_le _, rfl, rfl, by simp, Below.refl _ _⟩
  case round =>
    obtain ⟨j, q, hj, rfl, rfl, hq, hb⟩ := hrel
    by_cases hlt : j < n
    · obtain ⟨g, off, rfl, hgw, c1, c2⟩ := RdC.at_ (hr.below hb) (k := j) (by rw [ioC_length]; omega)
      rw [ioC_get] at c1 c2
      simp only at c1 c2
      rw [← hq] at c1 c2
      have q0 : 0 ≤ q := by omega
      have q1 : q ≤ 4398046511104 := by omega
      have HQ := Lib.hid hq
      clear hq
      go_wp2
      exact ⟨⟨j + 1, q + 2, by omega, by go_num, by rw [show q + 1 + 1 = q + 2 from by omega], by have := HQ.out; omega, hb⟩, by simp [intOf]; omega⟩
    · have hkk : j = n := by omega
      subst hkk
      have HQ := Lib.hid hq
      clear hq
      go_wp2
      go_ret
      exact ⟨by rw [← HQ.out]; rfl, hb⟩
end Go.Proofs.Ytemmbpmgfjodnaa
