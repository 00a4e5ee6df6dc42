/- The ends of a shape. -/
import Derived.Test.YtemmbpmgfjodnaaShape
import Derived.Test.YtemmbpmgfjodnaaShpS
import Derived.Test.YtemmbpmgfjodnaaDeg
import Derived.Test.YtemmbpmgfjodnaaApp
import Derived.Test.YtemmbpmgfjodnaaReg
import Derived.Outline
import Derived.WalkLawsBesides
import Derived.WalkSpells
import Derived.BigQuiet
import Derived.Deep.QuietTactic
import Derived.Deep.RegionHeld3
import Derived.Deep.RegionWith
import Derived.Deep.DeepCutAuto
import Derived.Deep.CutBlock
import Derived.Deep.DrawnRows
namespace Go.Proofs.Ytemmbpmgfjodnaa
open Go.RowKit
set_option linter.unusedVariables false
attribute [local go_sem ↓] Go.wp_at_zero Go.wp_at_succ

def endC (xs : List C) (c : C) : Bool := deg xs c == 1
theorem ends_eq {xs : List C} (h : isShape xs = true) : ends xs = xs.filter (endC xs) := by unfold ends; rw [h, if_pos rfl]; rfl
theorem ends_no {xs : List C} (h : isShape xs = false) : ends xs = [] := by unfold ends; rw [h]; rfl
theorem ends_len (xs : List C) : (ends xs).length ≤ 1048576 := by
  unfold ends
  split
  · next h => have := List.length_filter_le (fun c => deg xs c == 1) xs; have := shape_len h; omega
  · simp
set_option maxHeartbeats 800000 in
theorem EndsOf_i (A : Option Addr) (n c : Nat) (xs : List C) (w : World) (hr : Rd w A (vC xs)) (hl : xs.length = n) (hn : n ≤ 1099511627776) :
    Calls Try.prog 25 #[.slice A n c] w (RetS w 60 2 (vC (ends xs))) := by
  have HL := Lib.hid hl
  cases hs : isShape xs with
  | false =>
    have HV := Lib.hid (ends_no hs)
    have HS := Lib.hid hs
    clear hs hl
    go_enter Try.func25, Try.ntmps25
    go_wp2_with (go_at_call 63; refine (IsShape_i _ _ _ xs _ hr HL.out (by omega)).mono ?_; rw [HS.out]; rintro e w1 ⟨rfl, hb1⟩)
    go_ret
    exact ⟨none, 0, 0, rfl, by rw [HV.out]; exact own_nil _ _ _ _, (by (repeat (first | with_reducible exact Below.refl _ _ | with_reducible assumption | with_reducible apply bel_alloc | with_reducible apply bel_drew | with_reducible apply bel_drewN | ((with_reducible refine bel_set ?_ ?_); rotate_left; (simp <;> omega)) | (with_reducible refine bel_trans ?_ (by with_reducible assumption)))))⟩
  | true =>
    have HV := Lib.hid (ends_eq hs)
    have hsm := shape_small hs
    have hlen := shape_len hs
    have hn8 : n ≤ 8 := by omega
    have HSM := Lib.hid hsm
    have HS := Lib.hid hs
    clear hs hl hsm hlen
    go_enter Try.func25, Try.ntmps25
    go_wp2_with (go_at_call 63; refine (IsShape_i _ _ _ xs _ hr HL.out (by omega)).mono ?_; rw [HS.out]; rintro e w1 ⟨rfl, hb1⟩)
    go_loopw [11, 3] (fun i e wr => ∃ (k m cap : Nat) (B : Option Addr), k ≤ n ∧ m ≤ k ∧ i = .int .i64 k ∧ e = .slice B m cap ∧ wr.ownsRow w.heap.size 60 2 (.slice B m cap) m (vC ((xs.take k).filter (endC xs))) ∧ Below w.heap.size w wr) (fun i _ _ => n - (intOf i).toNat)
    case atStart => exact ⟨0, 0, 0, none, Nat.zero_le _, Nat.le_refl _, rfl, rfl, own_nil _ _ _ _, (by (repeat (first | with_reducible exact Below.refl _ _ | with_reducible assumption | with_reducible apply bel_alloc | with_reducible apply bel_drew | with_reducible apply bel_drewN | ((with_reducible refine bel_set ?_ ?_); rotate_left; (simp <;> omega)) | (with_reducible refine bel_trans ?_ (by with_reducible assumption)))))⟩
    case round =>
      clear hb1
      obtain ⟨k, m, cap, B, hk, hmk, rfl, rfl, hown, hb⟩ := hrel
      by_cases hlt : k < n
      · have hkx : k < xs.length := by rw [HL.out]; omega
        have hrw := hr.below hb
        obtain ⟨g, off, rfl, hgw, c1, c2⟩ := RdC.at_ hrw hkx
        have hft := filter_take (endC xs) xs k hkx
        have hdq := degI_eq HSM.out (HSM.out _ (List.getElem_mem hkx))
        have hec : endC xs xs[k] = (deg xs xs[k] == 1) := rfl
        obtain ⟨⟨x, y⟩, hx⟩ : ∃ p, xs[k] = p := ⟨_, rfl⟩
        rw [hx] at c1 c2 hft hdq hec
        obtain ⟨q, hq⟩ : ∃ q, deg xs (x, y) = q := ⟨_, rfl⟩
        rw [hq] at hdq hec
        rw [hec] at hft
        have HQ := Lib.hid hdq
        have HO := Lib.hid hown
        have hbs := hb.size
        clear hx hq hdq hec hown
        by_cases h1 : q = 1
        · have e1 : ((q : Int) == 1) = true := by simp; omega
          rw [show (q == 1) = true from by simp [h1], if_pos rfl] at hft
          have HF := Lib.hid hft
          clear hft h1
          go_wp2_with fail
          refine (degree_i _ _ _ xs _ _ _ (hrw.alloc _) HL.out (by omega)).mono ?_
          rw [HQ.out]
          rintro e w1 ⟨rfl, hb1⟩
          have hz := hb1.size
          have z1 : w1.cell? ⟨wr.heap.size, 0, none⟩ = some (.int .i64 x) := by simpa using ((Blk.new wr 60 #[.int .i64 x, .int .i64 y]).below hb1).cell 0
          have z2 : w1.cell? ⟨wr.heap.size, 1, none⟩ = some (.int .i64 y) := by simpa using ((Blk.new wr 60 #[.int .i64 x, .int .i64 y]).below hb1).cell 1
          have hbw : Below w.heap.size w w1 := (by (repeat (first | with_reducible exact Below.refl _ _ | with_reducible assumption | with_reducible apply bel_alloc | with_reducible apply bel_drew | with_reducible apply bel_drewN | ((with_reducible refine bel_set ?_ ?_); rotate_left; (simp <;> omega)) | (with_reducible refine bel_trans ?_ (by with_reducible assumption)))))
          have HO2 := Lib.hid (own_keep (HO.out.alloc (.cells #[.int .i64 x, .int .i64 y] 60)) hb1)
          have hbwz := hbw.size
          go_wp2_with (at_builtin; go_must (refine app_C _ rfl _ _ rfl w.heap.size _ _ _ _ rfl (HO2.out.alloc _) _ _ _ [(x, y)] rfl (rd_newC _ _ _ _) rfl (by omega) (by simp; omega) ?_); intro A' c' w' hown' hg' hat'; have HO3 := Lib.hid hown'; have HBG := Lib.hid (bel_app (bel_alloc hbw _) hg' (fun g' hg1 => ((own_lt HO2.out) g' hg1).1)); clear hown' hg' hat')
          exact ⟨⟨k + 1, m + 1, c', A', by omega, by omega, by go_num, rfl, by rw [HF.out]; exact HO3.out, HBG.out⟩, by simp [intOf]; omega⟩
        · have e1 : ((q : Int) == 1) = false := by simp; omega
          rw [show (q == 1) = false from by simp [h1], if_neg (by simp), List.append_nil] at hft
          have HF := Lib.hid hft
          clear hft h1
          go_wp2_with (go_at_call 64; refine (degree_i _ _ _ xs _ _ _ (hrw.alloc _) HL.out (by omega)).mono ?_; rw [HQ.out]; rintro e w1 ⟨rfl, hb1⟩; have HO2 := Lib.hid (own_keep (HO.out.alloc _) hb1))
          exact ⟨⟨k + 1, m, cap, B, by omega, by omega, by go_num, rfl, by rw [HF.out]; exact HO2.out, (by (repeat (first | with_reducible exact Below.refl _ _ | with_reducible assumption | with_reducible apply bel_alloc | with_reducible apply bel_drew | with_reducible apply bel_drewN | ((with_reducible refine bel_set ?_ ?_); rotate_left; (simp <;> omega)) | (with_reducible refine bel_trans ?_ (by with_reducible assumption)))))⟩, by simp [intOf]; omega⟩
      · have hkk : k = n := by omega
        subst hkk
        rw [List.take_of_length_le (by rw [HL.out]; omega), ← HV.out] at hown
        have HO := Lib.hid hown
        clear hown
        go_wp2
        go_ret
        exact ⟨_, _, _, rfl, HO.out, (by (repeat (first | with_reducible exact Below.refl _ _ | with_reducible assumption | with_reducible apply bel_alloc | with_reducible apply bel_drew | with_reducible apply bel_drewN | ((with_reducible refine bel_set ?_ ?_); rotate_left; (simp <;> omega)) | (with_reducible refine bel_trans ?_ (by with_reducible assumption)))))⟩
set_option maxHeartbeats 800000 in
theorem EndsOf_s (A : Option Addr) (n c : Nat) (xs : List C) (w : World) (hr : Rd w A (vC xs)) (hl : xs.length = n) (hn : n ≤ 1099511627776) :
    Calls Try.prog 23 #[.slice A n c] w (RetS w 60 2 (vC (ends xs))) := by
  have HL := Lib.hid hl
  cases hs : isShape xs with
  | false =>
    have HV := Lib.hid (ends_no hs)
    have HS := Lib.hid hs
    have ho := own_new w 60 2 0 #[] rfl (by simp [maxLen]) (base := w.heap.size) (Nat.le_refl _)
    have HO := Lib.hid ho
    clear hs hl ho
    go_enter Try.func23, Try.ntmps23
    go_wp2
    go_loopw [4, 3] (fun i e wr => i = .int .i64 0 ∧ e = .slice (some ⟨w.heap.size, 0, none⟩) 0 0 ∧ wr.ownsRow w.heap.size 60 2 (.slice (some ⟨w.heap.size, 0, none⟩) 0 0) 0 [] ∧ Below w.heap.size w wr) (fun i _ _ => 0)
    case atStart => exact ⟨rfl, rfl, HO.out, (by (repeat (first | with_reducible exact Below.refl _ _ | with_reducible assumption | with_reducible apply bel_alloc | with_reducible apply bel_drew | with_reducible apply bel_drewN | ((with_reducible refine bel_set ?_ ?_); rotate_left; (simp <;> omega)) | (with_reducible refine bel_trans ?_ (by with_reducible assumption)))))⟩
    case round =>
      clear HO
      obtain ⟨rfl, rfl, hown, hb⟩ := hrel
      have HO := Lib.hid hown
      clear hown
      by_cases h0 : 0 < n
      · have h0i : (0 : Int) < (n : Int) := by omega
        go_wp2_with (go_at_call 60; refine (IsShape_s _ _ _ xs _ (hr.below hb) HL.out (by omega)).mono ?_; rw [HS.out]; rintro e w1 ⟨rfl, hb1⟩)
        go_ret
        exact ⟨_, _, _, rfl, by rw [HV.out]; exact own_keep HO.out hb1, (by (repeat (first | with_reducible exact Below.refl _ _ | with_reducible assumption | with_reducible apply bel_alloc | with_reducible apply bel_drew | with_reducible apply bel_drewN | ((with_reducible refine bel_set ?_ ?_); rotate_left; (simp <;> omega)) | (with_reducible refine bel_trans ?_ (by with_reducible assumption)))))⟩
      · have h0i : ¬ (0 : Int) < (n : Int) := by omega
        have h0d : decide ((0 : Int) < (n : Int)) = false := by simp; omega
        go_wp2
        go_ret
        exact ⟨_, _, _, rfl, by rw [HV.out]; exact HO.out, (by (repeat (first | with_reducible exact Below.refl _ _ | with_reducible assumption | with_reducible apply bel_alloc | with_reducible apply bel_drew | with_reducible apply bel_drewN | ((with_reducible refine bel_set ?_ ?_); rotate_left; (simp <;> omega)) | (with_reducible refine bel_trans ?_ (by with_reducible assumption)))))⟩
  | true =>
    have HV := Lib.hid (ends_eq hs)
    have hsm := shape_small hs
    have hlen := shape_len hs
    have hn8 : n ≤ 8 := by omega
    have HSM := Lib.hid hsm
    have HS := Lib.hid hs
    have ho := own_new w 60 2 0 #[] rfl (by simp [maxLen]) (base := w.heap.size) (Nat.le_refl _)
    have HO := Lib.hid ho
    clear hs hl hsm hlen ho
    go_enter Try.func23, Try.ntmps23
    go_wp2
    go_loopw [4, 3] (fun i e wr => ∃ (k m cap : Nat) (B : Option Addr), k ≤ n ∧ m ≤ k ∧ i = .int .i64 k ∧ e = .slice B m cap ∧ wr.ownsRow w.heap.size 60 2 (.slice B m cap) m (vC ((xs.take k).filter (endC xs))) ∧ Below w.heap.size w wr) (fun i _ _ => n - (intOf i).toNat)
    case atStart => exact ⟨0, 0, 0, _, Nat.zero_le _, Nat.le_refl _, rfl, rfl, HO.out, (by (repeat (first | with_reducible exact Below.refl _ _ | with_reducible assumption | with_reducible apply bel_alloc | with_reducible apply bel_drew | with_reducible apply bel_drewN | ((with_reducible refine bel_set ?_ ?_); rotate_left; (simp <;> omega)) | (with_reducible refine bel_trans ?_ (by with_reducible assumption)))))⟩
    case round =>
      clear HO
      obtain ⟨k, m, cap, B, hk, hmk, rfl, rfl, hown, hb⟩ := hrel
      by_cases hlt : k < n
      · have hkx : k < xs.length := by rw [HL.out]; omega
        have hrw := hr.below hb
        obtain ⟨g, off, rfl, hgw, c1, c2⟩ := RdC.at_ hrw hkx
        have hft := filter_take (endC xs) xs k hkx
        have hdq := degS_eq HSM.out (HSM.out _ (List.getElem_mem hkx))
        have hec : endC xs xs[k] = (deg xs xs[k] == 1) := rfl
        obtain ⟨⟨x, y⟩, hx⟩ : ∃ p, xs[k] = p := ⟨_, rfl⟩
        rw [hx] at c1 c2 hft hdq hec
        obtain ⟨q, hq⟩ : ∃ q, deg xs (x, y) = q := ⟨_, rfl⟩
        rw [hq] at hdq hec
        rw [hec] at hft
        have HQ := Lib.hid hdq
        have HO := Lib.hid hown
        have hbs := hb.size
        have hi0 : (0 : Int) ≤ (k : Int) := by omega
        have hi1 : (k : Int) < (n : Int) := by omega
        clear hx hq hdq hec hown
        by_cases h1 : q = 1
        · have e1 : ((q : Int) == 1) = true := by simp; omega
          rw [show (q == 1) = true from by simp [h1], if_pos rfl] at hft
          have HF := Lib.hid hft
          clear hft h1
          go_wp2_with (first | (go_at_call 60; refine (IsShape_s _ _ _ xs _ hrw HL.out (by omega)).mono ?_; rw [HS.out]; rintro e w0 ⟨rfl, hb0⟩; have y1 := keep_below hb0 c1; have y2 := keep_below hb0 c2) | (go_at_call 61; refine (l26Degree_s _ _ _ xs _ _ _ (hrw.below hb0) HL.out (by omega)).mono ?_; rw [HQ.out]; rintro e w1 ⟨rfl, hb1⟩; have z1 := keep_below hb1 y1; have z2 := keep_below hb1 y2; have hbw : Below w.heap.size w w1 := (by (repeat (first | with_reducible exact Below.refl _ _ | with_reducible assumption | with_reducible apply bel_alloc | with_reducible apply bel_drew | with_reducible apply bel_drewN | ((with_reducible refine bel_set ?_ ?_); rotate_left; (simp <;> omega)) | (with_reducible refine bel_trans ?_ (by with_reducible assumption))))); have HO2 := Lib.hid (own_keep (own_keep HO.out hb0) hb1); have hbwz := hbw.size) | (at_builtin; go_must (refine app_C _ rfl _ _ rfl w.heap.size _ _ _ _ rfl (HO2.out.alloc _) _ _ _ [(x, y)] rfl (rd_newC _ _ _ _) rfl (by omega) (by simp; omega) ?_); intro A' c' w' hown' hg' hat'; have HO3 := Lib.hid hown'; have HBG := Lib.hid (bel_app (bel_alloc hbw _) hg' (fun g' hg1 => ((own_lt HO2.out) g' hg1).1)); clear hown' hg' hat'))
          exact ⟨⟨k + 1, m + 1, c', A', by omega, by omega, by go_num, rfl, by rw [HF.out]; exact HO3.out, HBG.out⟩, by simp [intOf]; omega⟩
        · have e1 : ((q : Int) == 1) = false := by simp; omega
          rw [show (q == 1) = false from by simp [h1], if_neg (by simp), List.append_nil] at hft
          have HF := Lib.hid hft
          clear hft h1
          go_wp2_with (first | (go_at_call 60; refine (IsShape_s _ _ _ xs _ hrw HL.out (by omega)).mono ?_; rw [HS.out]; rintro e w0 ⟨rfl, hb0⟩; have y1 := keep_below hb0 c1; have y2 := keep_below hb0 c2) | (go_at_call 61; refine (l26Degree_s _ _ _ xs _ _ _ (hrw.below hb0) HL.out (by omega)).mono ?_; rw [HQ.out]; rintro e w1 ⟨rfl, hb1⟩; have HO2 := Lib.hid (own_keep (own_keep HO.out hb0) hb1)))
          exact ⟨⟨k + 1, m, cap, B, by omega, by omega, by go_num, rfl, by rw [HF.out]; exact HO2.out, (by (repeat (first | with_reducible exact Below.refl _ _ | with_reducible assumption | with_reducible apply bel_alloc | with_reducible apply bel_drew | with_reducible apply bel_drewN | ((with_reducible refine bel_set ?_ ?_); rotate_left; (simp <;> omega)) | (with_reducible refine bel_trans ?_ (by with_reducible assumption)))))⟩, by simp [intOf]; omega⟩
      · have hkk : k = n := by omega
        subst hkk
        rw [List.take_of_length_le (by rw [HL.out]; omega), ← HV.out] at hown
        have HO := Lib.hid hown
        clear hown
        go_wp2
        go_ret
        exact ⟨_, _, _, rfl, HO.out, (by (repeat (first | with_reducible exact Below.refl _ _ | with_reducible assumption | with_reducible apply bel_alloc | with_reducible apply bel_drew | with_reducible apply bel_drewN | ((with_reducible refine bel_set ?_ ?_); rotate_left; (simp <;> omega)) | (with_reducible refine bel_trans ?_ (by with_reducible assumption)))))⟩
end Go.Proofs.Ytemmbpmgfjodnaa
