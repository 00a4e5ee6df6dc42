/- How many faces are covered; nets of the cube. -/
import Derived.Test.YtemmbpmgfjodnaaNetI
import Derived.Test.YtemmbpmgfjodnaaNetS
import Derived.Test.YtemmbpmgfjodnaaOrd
import Derived.Outline
import Derived.WalkLawsBesides
import Derived.WalkSpells
import Derived.BigQuiet
import Derived.Deep.QuietTactic
import Derived.Deep.RegionHeld3
import Derived.Deep.RegionWith
import Derived.Deep.DeepCutAuto
import Derived.Deep.CutBlock
import Derived.Deep.DrawnRows
namespace Go.Proofs.Ytemmbpmgfjodnaa
open Go.RowKit
set_option linter.unusedVariables false
attribute [local go_sem ↓] Go.wp_at_zero Go.wp_at_succ

noncomputable def covV (xs : List C) : Int := if isConn xs then ((ord (faces xs)).length : Nat) else -1
noncomputable def netV (xs : List C) : Bool := xs.length == 6 && isTree xs && covV xs == 6
theorem faces_le8 {xs : List C} (h : isConn xs = true) : (faces xs).length ≤ 8 := by
  unfold faces; rw [h, if_pos rfl, List.length_map]; exact (shape_len (conn_shape h)).2
theorem putI_len (l : List Int) (n : Int) : (putI l n).length ≤ l.length + 1 := by
  unfold putI
  have := cutTo_le l n l.length
  split
  · omega
  · simp; omega
theorem foldl_len : ∀ (l acc : List Int), (l.foldl putI acc).length ≤ acc.length + l.length
  | [], acc => by simp
  | a :: t, acc => by
    have h1 := foldl_len t (putI acc a)
    have h2 := putI_len acc a
    rw [List.foldl_cons, List.length_cons]
    omega
theorem foldl_take (l : List Int) (k : Nat) (h : k < l.length) : (l.take (k + 1)).foldl putI [] = putI ((l.take k).foldl putI []) l[k] := by
  rw [List.take_succ_eq_append_getElem h, List.foldl_append]; rfl
theorem FacesCovered_i (A : Option Addr) (n c : Nat) (xs : List C) (w : World) (hr : Rd w A (vC xs)) (hl : xs.length = n) (hn : n ≤ 1099511627776) :
    Calls Try.prog 45 #[.slice A n c] w (Ret w (.int .i64 (covV xs))) := by
  have HL := Lib.hid hl
  cases hc : isConn xs with
  | false =>
    have HV : Hid (covV xs = -1) := by show covV xs = -1; unfold covV; rw [hc]; rfl
    have HC := Lib.hid hc
    clear hc hl
    go_enter Try.func45, Try.ntmps45
    go_wp2_with (go_at_call 36; refine (FacesOf_i _ _ _ xs _ hr HL.out (by omega)).mono ?_; rw [HC.out]; rintro e w1 ⟨B, m, cap, rfl, ho, hb1⟩; clear ho)
    go_ret
    exact ⟨by rw [HV.out]; rfl, (by (repeat (first | with_reducible exact Below.refl _ _ | with_reducible assumption | with_reducible apply bel_alloc | with_reducible apply bel_drew | with_reducible apply bel_drewN | ((with_reducible refine bel_set ?_ ?_); rotate_left; (simp <;> omega)) | (with_reducible refine bel_trans ?_ (by with_reducible assumption)))))⟩
  | true =>
    have HV : Hid (covV xs = ((ord (faces xs)).length : Nat)) := by show covV xs = _; unfold covV; rw [hc]; rfl
    have h8 := faces_le8 hc
    have HC := Lib.hid hc
    clear hc hl
    go_enter Try.func45, Try.ntmps45
    go_wp2_with fail
    refine (FacesOf_i _ _ _ xs _ hr HL.out (by omega)).mono ?_
    rw [HC.out]
    rintro e w1 ⟨B, m, cap, rfl, ho, hb1⟩
    generalize faces xs = l at HV ho h8
    have hlm : l.length = m := by have := own_len ho; rw [vI_length] at this; omega
    have HLM := Lib.hid hlm
    have hrd := Rd.of_own ho
    clear hlm ho
    go_wp2_with fail
    refine (ordered_i _ _ _ l _ hrd HLM.out (by have := HLM.out; omega)).mono ?_
    rintro e w2 ⟨D, q, cq, rfl, hoq, hb2⟩
    have hq : q = (ord l).length := by have := own_len hoq; rw [vI_length] at this; omega
    have HQ : Hid (covV xs = (q : Int)) := by rw [hq]; exact HV.out
    clear hq hoq
    go_wp2
    go_ret
    exact ⟨by rw [HQ.out]; rfl, (by (repeat (first | with_reducible exact Below.refl _ _ | with_reducible assumption | with_reducible apply bel_alloc | with_reducible apply bel_drew | with_reducible apply bel_drewN | ((with_reducible refine bel_set ?_ ?_); rotate_left; (simp <;> omega)) | (with_reducible refine bel_trans ?_ (by with_reducible assumption)))))⟩
set_option maxHeartbeats 800000 in
theorem FacesCovered_s (A : Option Addr) (n c : Nat) (xs : List C) (w : World) (hr : Rd w A (vC xs)) (hl : xs.length = n) (hn : n ≤ 1099511627776) :
    Calls Try.prog 44 #[.slice A n c] w (Ret w (.int .i64 (covV xs))) := by
  have HL := Lib.hid hl
  cases hc : isConn xs with
  | false =>
    have HV : Hid (covV xs = -1) := by show covV xs = -1; unfold covV; rw [hc]; rfl
    have HC := Lib.hid hc
    clear hc hl
    go_enter Try.func44, Try.ntmps44
    go_wp2_with (go_at_call 35; refine (FacesOf_s _ _ _ xs _ hr HL.out (by omega)).mono ?_; rw [HC.out]; rintro e w1 ⟨B, m, cap, rfl, ho, hb1⟩; clear ho)
    go_ret
    exact ⟨by rw [HV.out]; rfl, (by (repeat (first | with_reducible exact Below.refl _ _ | with_reducible assumption | with_reducible apply bel_alloc | with_reducible apply bel_drew | with_reducible apply bel_drewN | ((with_reducible refine bel_set ?_ ?_); rotate_left; (simp <;> omega)) | (with_reducible refine bel_trans ?_ (by with_reducible assumption)))))⟩
  | true =>
    have HV : Hid (covV xs = ((putAll (faces xs)).length : Nat)) := by show covV xs = _; unfold covV; rw [hc, ← ord_eq]; rfl
    have h8 := faces_le8 hc
    have HC := Lib.hid hc
    clear hc hl
    go_enter Try.func44, Try.ntmps44
    go_wp2_with fail
    refine (FacesOf_s _ _ _ xs _ hr HL.out (by omega)).mono ?_
    rw [HC.out]
    rintro e w1 ⟨B, m, cap, rfl, ho, hb1⟩
    generalize faces xs = l at HV ho h8
    have hlm : l.length = m := by have := own_len ho; rw [vI_length] at this; omega
    rw [hlm] at h8
    have HLM := Lib.hid hlm
    have hrd := Rd.of_own ho
    have hbs := hb1.size
    have hini := own_new w1 3 1 0 #[] rfl (by simp [maxLen]) (base := w1.heap.size) (Nat.le_refl _)
    have HI := Lib.hid hini
    clear hlm ho hini
    go_wp2_with fail
    go_loopw [5, 6] (fun e e6 wr => ∃ (k q cq g : Nat), k ≤ m ∧ q ≤ k ∧ e = .slice (some ⟨g, 0, none⟩) q cq ∧ e6 = .int .i64 k ∧ wr.ownsRow w1.heap.size 3 1 (.slice (some ⟨g, 0, none⟩) q cq) q (vI ((l.take k).foldl putI [])) ∧ Below w1.heap.size w1 wr) (fun _ e6 _ => m - (intOf e6).toNat)
    case atStart => exact ⟨0, 0, 0, _, by omega, by omega, rfl, rfl, HI.out, (by (repeat (first | with_reducible exact Below.refl _ _ | with_reducible assumption | with_reducible apply bel_alloc | with_reducible apply bel_drew | with_reducible apply bel_drewN | ((with_reducible refine bel_set ?_ ?_); rotate_left; (simp <;> omega)) | (with_reducible refine bel_trans ?_ (by with_reducible assumption)))))⟩
    case round =>
      clear HI
      obtain ⟨k, q, cq, g, hk, hq, rfl, rfl, hown, hb⟩ := hrel
      by_cases hlt : k < m
      · have hkl : k < l.length := by rw [HLM.out]; exact hlt
        have hk0 : (0 : Int) ≤ (k : Int) := by omega
        have hk1 : (k : Int) < (m : Int) := by omega
        obtain ⟨gB, offB, rfl, hgB, c1⟩ := RdI.at_ (hrd.below hb) hkl
        have hft := foldl_take l k hkl
        have hfl := foldl_len (l.take (k + 1)) []
        rw [List.length_take] at hfl
        obtain ⟨x, hx⟩ : ∃ x, l[k] = x := ⟨_, rfl⟩
        rw [hx] at c1 hft
        have HF := Lib.hid hft
        have HO := Lib.hid hown
        have hbz := hb.size
        clear hx hft hown
        go_wp2_with fail
        refine (l7Put_s g q cq _ x w1.heap.size _ HO.out hbz (by omega)).mono ?_
        rintro e w2 ⟨g2, q2, c2, rfl, ho2, hb2⟩
        have hq2 : q2 ≤ k + 1 := by
          have h1 := own_len ho2
          rw [vI_length, ← HF.out] at h1
          simp only [List.length_nil] at hfl
          omega
        have HO2 := Lib.hid ho2
        clear ho2
        go_wp2_with fail
        exact ⟨⟨k + 1, q2, c2, g2, by omega, hq2, rfl, by go_num, by rw [HF.out]; exact HO2.out, bel_trans hb hb2⟩, by simp [intOf]; omega⟩
      · have hkm : k = m := by omega
        subst hkm
        rw [List.take_of_length_le (by rw [HLM.out]; omega)] at hown
        have hq2 : q = (putAll l).length := by have := own_len hown; rw [vI_length] at this; unfold putAll; omega
        have HQ : Hid (covV xs = (q : Int)) := by rw [hq2]; exact HV.out
        have hk1 : ¬ (k : Int) < (k : Int) := by omega
        clear hown hq2
        go_wp2
        go_ret
        exact ⟨by rw [HQ.out]; rfl, (by (repeat (first | with_reducible exact Below.refl _ _ | with_reducible assumption | with_reducible apply bel_alloc | with_reducible apply bel_drew | with_reducible apply bel_drewN | ((with_reducible refine bel_set ?_ ?_); rotate_left; (simp <;> omega)) | (with_reducible refine bel_trans ?_ (by with_reducible assumption)))))⟩
set_option maxHeartbeats 800000 in
theorem IsCubeNet_i (A : Option Addr) (n c : Nat) (xs : List C) (w : World) (hr : Rd w A (vC xs)) (hl : xs.length = n) (hn : n ≤ 1099511627776) :
    Calls Try.prog 47 #[.slice A n c] w (Ret w (.bool (netV xs))) := by
  have HL := Lib.hid hl
  by_cases h6 : n = 6
  · have e6 : ((n : Int) == 6) = true := by simp [h6]
    cases ht : isTree xs with
    | false =>
      have HV : Hid (netV xs = false) := by show netV xs = false; unfold netV; rw [ht]; simp
      have HT := Lib.hid ht
      clear ht hl h6
      go_enter Try.func47, Try.ntmps47
      go_wp2_with fail
      refine (IsTreeLike_i _ _ _ xs _ hr HL.out (by omega)).mono ?_
      rw [HT.out]
      rintro e w1 ⟨rfl, hb1⟩
      go_wp2_with fail
      go_ret
      exact ⟨by rw [HV.out]; rfl, hb1⟩
    | true =>
      obtain ⟨q, hq⟩ : ∃ q, covV xs = q := ⟨_, rfl⟩
      have HV : Hid (netV xs = (q == 6)) := by show netV xs = _; unfold netV; rw [ht, hq, hl, h6]; rfl
      have HT := Lib.hid ht
      have HQ := Lib.hid hq
      clear ht hl h6 hq
      go_enter Try.func47, Try.ntmps47
      go_wp2_with fail
      refine (IsTreeLike_i _ _ _ xs _ hr HL.out (by omega)).mono ?_
      rw [HT.out]
      rintro e w1 ⟨rfl, hb1⟩
      go_wp2_with fail
      refine (FacesCovered_i _ _ _ xs _ (hr.below hb1) HL.out (by omega)).mono ?_
      rw [HQ.out]
      rintro e w2 ⟨rfl, hb2⟩
      go_wp2_with fail
      go_ret
      exact ⟨by rw [HV.out]; rfl, bel_trans hb1 hb2⟩
  · have e6 : ((n : Int) == 6) = false := by simp; omega
    have HV : Hid (netV xs = false) := by
      have h : (xs.length == 6) = false := by simp; omega
      show netV xs = false
      unfold netV
      rw [h]; rfl
    clear hl h6
    go_enter Try.func47, Try.ntmps47
    go_wp2_with fail
    go_ret
    exact ⟨by rw [HV.out]; rfl, Below.refl _ _⟩
set_option maxHeartbeats 800000 in
theorem IsCubeNet_s (A : Option Addr) (n c : Nat) (xs : List C) (w : World) (hr : Rd w A (vC xs)) (hl : xs.length = n) (hn : n ≤ 1099511627776) :
    Calls Try.prog 46 #[.slice A n c] w (Ret w (.bool (netV xs))) := by
  have HL := Lib.hid hl
  by_cases h6 : n = 6
  · have e6 : ((n : Int) == 6) = true := by simp [h6]
    cases ht : isTree xs with
    | false =>
      have HV : Hid (netV xs = false) := by show netV xs = false; unfold netV; rw [ht]; simp
      have HT := Lib.hid ht
      clear ht hl h6
      go_enter Try.func46, Try.ntmps46
      go_wp2_with fail
      refine (IsTreeLike_s _ _ _ xs _ hr HL.out (by omega)).mono ?_
      rw [HT.out]
      rintro e w1 ⟨rfl, hb1⟩
      go_wp2_with fail
      go_ret
      exact ⟨by rw [HV.out]; rfl, hb1⟩
    | true =>
      obtain ⟨q, hq⟩ : ∃ q, covV xs = q := ⟨_, rfl⟩
      have HV : Hid (netV xs = (q == 6)) := by show netV xs = _; unfold netV; rw [ht, hq, hl, h6]; rfl
      have HT := Lib.hid ht
      have HQ := Lib.hid hq
      clear ht hl h6 hq
      go_enter Try.func46, Try.ntmps46
      go_wp2_with fail
      refine (IsTreeLike_s _ _ _ xs _ hr HL.out (by omega)).mono ?_
      rw [HT.out]
      rintro e w1 ⟨rfl, hb1⟩
      go_wp2_with fail
      refine (FacesCovered_s _ _ _ xs _ (hr.below hb1) HL.out (by omega)).mono ?_
      rw [HQ.out]
      rintro e w2 ⟨rfl, hb2⟩
      go_wp2_with fail
      go_ret
      exact ⟨by rw [HV.out]; rfl, bel_trans hb1 hb2⟩
  · have e6 : ((n : Int) == 6) = false := by simp; omega
    have HV : Hid (netV xs = false) := by
      have h : (xs.length == 6) = false := by simp; omega
      show netV xs = false
      unfold netV
      rw [h]; rfl
    clear hl h6
    go_enter Try.func46, Try.ntmps46
    go_wp2_with fail
    go_ret
    exact ⟨by rw [HV.out]; rfl, Below.refl _ _⟩
end Go.Proofs.Ytemmbpmgfjodnaa
