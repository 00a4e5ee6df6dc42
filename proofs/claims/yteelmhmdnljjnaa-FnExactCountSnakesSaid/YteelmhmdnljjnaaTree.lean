/- Connected shapes and trees. -/
import Derived.Test.YteelmhmdnljjnaaShape
import Derived.Test.YteelmhmdnljjnaaHang
import Derived.Test.YteelmhmdnljjnaaConnS
import Derived.Test.YteelmhmdnljjnaaInner
import Derived.Test.YteelmhmdnljjnaaReg
import Derived.Outline
import Derived.WalkLawsBesides
import Derived.WalkSpells
import Derived.BigQuiet
import Derived.Deep.QuietTactic
import Derived.Deep.RegionHeld3
import Derived.Deep.RegionWith
import Derived.Deep.DeepCutAuto
import Derived.Deep.CutBlock
import Derived.Deep.DrawnRows
namespace Go.Proofs.Yteelmhmdnljjnaa
open Go.RowKit
set_option linter.unusedVariables false
attribute [local go_sem ↓] Go.wp_at_zero Go.wp_at_succ

theorem IsConnectedShape_i (A : Option Addr) (n c : Nat) (xs : List C) (w : World) (hr : Rd w A (vC xs)) (hl : xs.length = n) (hn : n ≤ 1099511627776) :
    Calls Try.prog 55 #[.slice A n c] w (Ret w (.bool (isConn xs))) := by
  have HL := Lib.hid hl
  cases hs : isShape xs with
  | false =>
    have HV : Hid (isConn xs = false) := by show isConn xs = false; unfold isConn; rw [hs]; rfl
    have HS := Lib.hid hs
    clear hs hl
    go_enter Try.func55, Try.ntmps55
    go_wp2_with (go_at_call 31; refine (IsShape_i _ _ _ xs _ hr HL.out (by omega)).mono ?_; rw [HS.out]; rintro e w1 ⟨rfl, hb1⟩)
    go_ret
    exact ⟨by rw [HV.out]; rfl, (by (repeat (first | with_reducible exact Below.refl _ _ | with_reducible assumption | with_reducible apply bel_alloc | with_reducible apply bel_drew | with_reducible apply bel_drewN | ((with_reducible refine bel_set ?_ ?_); rotate_left; (simp <;> omega)) | (with_reducible refine bel_trans ?_ (by with_reducible assumption)))))⟩
  | true =>
    have HV : Hid (isConn xs = conn xs) := by show isConn xs = conn xs; unfold isConn; rw [hs]; rfl
    have HS := Lib.hid hs
    clear hs hl
    go_enter Try.func55, Try.ntmps55
    go_wp2_with (first | (go_at_call 31; refine (IsShape_i _ _ _ xs _ hr HL.out (by omega)).mono ?_; rw [HS.out]; rintro e w1 ⟨rfl, hb1⟩) | (go_at_call 63; refine (hangs_i _ _ _ xs _ (hr.below hb1) HL.out HS.out).mono ?_; rintro e w2 ⟨rfl, hb2⟩))
    go_ret
    exact ⟨by rw [HV.out]; rfl, (by (repeat (first | with_reducible exact Below.refl _ _ | with_reducible assumption | with_reducible apply bel_alloc | with_reducible apply bel_drew | with_reducible apply bel_drewN | ((with_reducible refine bel_set ?_ ?_); rotate_left; (simp <;> omega)) | (with_reducible refine bel_trans ?_ (by with_reducible assumption)))))⟩

theorem tree_int (xs : List C) (n : Nat) (hl : xs.length = n) (hs : isShape xs = true) : (((innerV xs : Nat) : Int) == (n : Int) - 1) = (inner xs xs.length == xs.length - 1) := by
  have := shape_len hs
  unfold innerV
  rw [hs, if_pos rfl, Bool.eq_iff_iff, beq_iff_eq, beq_iff_eq]
  omega

theorem IsTreeLike_i (A : Option Addr) (n c : Nat) (xs : List C) (w : World) (hr : Rd w A (vC xs)) (hl : xs.length = n) (hn : n ≤ 1099511627776) :
    Calls Try.prog 42 #[.slice A n c] w (Ret w (.bool (isTree xs))) := by
  have HL := Lib.hid hl
  cases hs : isConn xs with
  | false =>
    have HV : Hid (isTree xs = false) := by show isTree xs = false; unfold isTree; rw [hs]; rfl
    have HS := Lib.hid hs
    clear hs hl
    go_enter Try.func42, Try.ntmps42
    go_wp2_with (go_at_call 55; refine (IsConnectedShape_i _ _ _ xs _ hr HL.out (by omega)).mono ?_; rw [HS.out]; rintro e w1 ⟨rfl, hb1⟩)
    go_ret
    exact ⟨by rw [HV.out]; rfl, (by (repeat (first | with_reducible exact Below.refl _ _ | with_reducible assumption | with_reducible apply bel_alloc | with_reducible apply bel_drew | with_reducible apply bel_drewN | ((with_reducible refine bel_set ?_ ?_); rotate_left; (simp <;> omega)) | (with_reducible refine bel_trans ?_ (by with_reducible assumption)))))⟩
  | true =>
    have hti := tree_int xs n hl (conn_shape hs)
    have hlen := shape_len (conn_shape hs)
    have hn8 : n ≤ 8 := by omega
    have hn1 : (1 : Int) ≤ (n : Int) := by omega
    have HV : Hid (isTree xs = (((innerV xs : Nat) : Int) == (n : Int) - 1)) := by show isTree xs = _; rw [hti]; unfold isTree; rw [hs]; rfl
    have HS := Lib.hid hs
    clear hs hl hti hlen
    go_enter Try.func42, Try.ntmps42
    go_wp2_with (first | (go_at_call 55; refine (IsConnectedShape_i _ _ _ xs _ hr HL.out (by omega)).mono ?_; rw [HS.out]; rintro e w1 ⟨rfl, hb1⟩) | (go_at_call 32; refine (InnerSides_i _ _ _ xs _ (hr.below hb1) HL.out (by omega)).mono ?_; rintro e w2 ⟨rfl, hb2⟩))
    go_ret
    exact ⟨by rw [HV.out]; rfl, (by (repeat (first | with_reducible exact Below.refl _ _ | with_reducible assumption | with_reducible apply bel_alloc | with_reducible apply bel_drew | with_reducible apply bel_drewN | ((with_reducible refine bel_set ?_ ?_); rotate_left; (simp <;> omega)) | (with_reducible refine bel_trans ?_ (by with_reducible assumption)))))⟩

theorem IsTreeLike_s (A : Option Addr) (n c : Nat) (xs : List C) (w : World) (hr : Rd w A (vC xs)) (hl : xs.length = n) (hn : n ≤ 1099511627776) :
    Calls Try.prog 39 #[.slice A n c] w (Ret w (.bool (isTree xs))) := by
  have HL := Lib.hid hl
  cases hs : isConn xs with
  | false =>
    have HV : Hid (isTree xs = false) := by show isTree xs = false; unfold isTree; rw [hs]; rfl
    have HS := Lib.hid hs
    clear hs hl
    go_enter Try.func39, Try.ntmps39
    go_wp2_with (go_at_call 54; refine (IsConnectedShape_s _ _ _ xs _ hr HL.out (by omega)).mono ?_; rw [HS.out]; rintro e w1 ⟨rfl, hb1⟩)
    go_ret
    exact ⟨by rw [HV.out]; rfl, (by (repeat (first | with_reducible exact Below.refl _ _ | with_reducible assumption | with_reducible apply bel_alloc | with_reducible apply bel_drew | with_reducible apply bel_drewN | ((with_reducible refine bel_set ?_ ?_); rotate_left; (simp <;> omega)) | (with_reducible refine bel_trans ?_ (by with_reducible assumption)))))⟩
  | true =>
    have hti := tree_int xs n hl (conn_shape hs)
    have hlen := shape_len (conn_shape hs)
    have hn8 : n ≤ 8 := by omega
    have hn1 : (1 : Int) ≤ (n : Int) := by omega
    have HV : Hid (isTree xs = (((innerV xs : Nat) : Int) == (n : Int) - 1)) := by show isTree xs = _; rw [hti]; unfold isTree; rw [hs]; rfl
    have HS := Lib.hid hs
    clear hs hl hti hlen
    go_enter Try.func39, Try.ntmps39
    go_wp2_with (first | (go_at_call 54; refine (IsConnectedShape_s _ _ _ xs _ hr HL.out (by omega)).mono ?_; rw [HS.out]; rintro e w1 ⟨rfl, hb1⟩) | (go_at_call 29; refine (InnerSides_s _ _ _ xs _ (hr.below hb1) HL.out (by omega)).mono ?_; rintro e w2 ⟨rfl, hb2⟩))
    go_ret
    exact ⟨by rw [HV.out]; rfl, (by (repeat (first | with_reducible exact Below.refl _ _ | with_reducible assumption | with_reducible apply bel_alloc | with_reducible apply bel_drew | with_reducible apply bel_drewN | ((with_reducible refine bel_set ?_ ?_); rotate_left; (simp <;> omega)) | (with_reducible refine bel_trans ?_ (by with_reducible assumption)))))⟩
end Go.Proofs.Yteelmhmdnljjnaa
