/- The perimeter of a shape: both sides. -/
import Derived.Test.YteelmhmdnljjnaaInner
import Derived.Test.YteelmhmdnljjnaaQreg
namespace Go.Proofs.Yteelmhmdnljjnaa
open Go.RowKit
set_option linter.unusedVariables false
attribute [local go_sem ↓] Go.wp_at_zero Go.wp_at_succ

def perV (s : List C) : Int := 4 * (s.length : Nat) - 2 * (innerV s : Nat)
theorem perV_le {s : List C} (hs : isShape s = true) : innerV s ≤ 64 := by
  have h8 := (shape_len hs).2
  unfold innerV
  rw [if_pos hs]
  have := inner_le s s.length h8
  omega
set_option maxHeartbeats 800000 in
theorem PerimeterOf_i (A : Option Addr) (n c : Nat) (xs : List C) (w : World) (hr : Rd w A (vC xs)) (hl : xs.length = n) (hs : isShape xs = true) :
    Calls Try.prog 19 #[.slice A n c] w (Ret w (.int .i64 (perV xs))) := by
  have hn8 := (shape_len hs).2
  rw [hl] at hn8
  have hin := perV_le hs
  have hV : perV xs = 4 * (n : Int) - 2 * (innerV xs : Nat) := by unfold perV; rw [hl]
  obtain ⟨q, hq⟩ : ∃ q, innerV xs = q := ⟨_, rfl⟩
  rw [hq] at hV hin
  have HV := Lib.hid hV
  have HQ := Lib.hid hq
  have HL := Lib.hid hl
  have HR := Lib.hid hr
  have HS := Lib.hid hs
  have e1 : IntKind.i64.wrap (4 * (n : Int)) = 4 * (n : Int) := Go.IntWalk.i64_in _ (by omega)
  have e2 : IntKind.i64.wrap (2 * (q : Int)) = 2 * (q : Int) := Go.IntWalk.i64_in _ (by omega)
  have e3 : IntKind.i64.wrap (4 * (n : Int) - 2 * (q : Int)) = 4 * (n : Int) - 2 * (q : Int) := Go.IntWalk.i64_in _ (by omega)
  have hnn : n ≤ 1099511627776 := by omega
  clear hl hr hs hV hq
  go_enter Try.func19, Try.ntmps19
  go_wp2_with fail
  refine (IsShape_i A n c xs _ HR.out HL.out hnn).mono ?_
  rw [HS.out]
  rintro e w1 ⟨rfl, hb1⟩
  have HC : Hid (∀ w', Below w1.heap.size w1 w' → Calls Try.prog 32 #[.slice A n c] w' (Ret w' (.int .i64 (q : Int)))) := fun w' hb => by
    have h := InnerSides_i A n c xs w' ((HR.out.below hb1).below hb) HL.out hnn
    rw [HQ.out] at h
    exact h
  go_wp2_with fail
  refine (HC.out _ (Below.refl _ _)).mono ?_
  rintro e w2 ⟨rfl, hb2⟩
  go_wp2_with fail
  go_ret
  exact ⟨by rw [HV.out]; rfl, bel_trans hb1 hb2⟩
set_option maxHeartbeats 800000 in
theorem PerimeterOf_s (A : Option Addr) (n c : Nat) (xs : List C) (w : World) (hr : Rd w A (vC xs)) (hl : xs.length = n) (hs : isShape xs = true) :
    Calls Try.prog 16 #[.slice A n c] w (Ret w (.int .i64 (perV xs))) := by
  have hn8 := (shape_len hs).2
  rw [hl] at hn8
  have hin := perV_le hs
  have hV : perV xs = 4 * (n : Int) - 2 * (innerV xs : Nat) := by unfold perV; rw [hl]
  obtain ⟨q, hq⟩ : ∃ q, innerV xs = q := ⟨_, rfl⟩
  rw [hq] at hV hin
  have HV := Lib.hid hV
  have HQ := Lib.hid hq
  have HL := Lib.hid hl
  have HR := Lib.hid hr
  have HS := Lib.hid hs
  have e1 : IntKind.i64.wrap (4 * (n : Int)) = 4 * (n : Int) := Go.IntWalk.i64_in _ (by omega)
  have e2 : IntKind.i64.wrap (2 * (q : Int)) = 2 * (q : Int) := Go.IntWalk.i64_in _ (by omega)
  have e3 : IntKind.i64.wrap (4 * (n : Int) - 2 * (q : Int)) = 4 * (n : Int) - 2 * (q : Int) := Go.IntWalk.i64_in _ (by omega)
  have hnn : n ≤ 1099511627776 := by omega
  clear hl hr hs hV hq
  go_enter Try.func16, Try.ntmps16
  go_wp2_with fail
  refine (IsShape_s A n c xs _ HR.out HL.out hnn).mono ?_
  rw [HS.out]
  rintro e w1 ⟨rfl, hb1⟩
  have HC : Hid (∀ w', Below w1.heap.size w1 w' → Calls Try.prog 29 #[.slice A n c] w' (Ret w' (.int .i64 (q : Int)))) := fun w' hb => by
    have h := InnerSides_s A n c xs w' ((HR.out.below hb1).below hb) HL.out hnn
    rw [HQ.out] at h
    exact h
  go_wp2_with fail
  refine (HC.out _ (Below.refl _ _)).mono ?_
  rintro e w2 ⟨rfl, hb2⟩
  go_wp2_with fail
  go_ret
  exact ⟨by rw [HV.out]; rfl, bel_trans hb1 hb2⟩
end Go.Proofs.Yteelmhmdnljjnaa
