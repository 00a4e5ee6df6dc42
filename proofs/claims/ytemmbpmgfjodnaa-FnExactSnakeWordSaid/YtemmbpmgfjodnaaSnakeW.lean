/- The steps of a snake. -/
import Derived.Test.YtemmbpmgfjodnaaWordsM
import Derived.Test.YtemmbpmgfjodnaaAppB
import Derived.Test.YtemmbpmgfjodnaaSnakeO
import Derived.Test.YtemmbpmgfjodnaaQtail
import Derived.Outline
import Derived.WalkLawsBesides
import Derived.WalkSpells
import Derived.BigQuiet
import Derived.Deep.QuietTactic
import Derived.Deep.RegionHeld3
import Derived.Deep.RegionWith
import Derived.Deep.DeepCutAuto
import Derived.Deep.CutBlock
import Derived.Deep.DrawnRows
namespace Go.Proofs.Ytemmbpmgfjodnaa
open Go.RowKit
set_option linter.unusedVariables false
attribute [local go_sem ↓] Go.wp_at_zero Go.wp_at_succ

theorem stepOf_i (a b c d : Int) (w : World) : Calls Try.prog 80 #[.agg #[.int .i64 a, .int .i64 b], .agg #[.int .i64 c, .int .i64 d]] w (Ret w (.int .u8 (stepV (a, b) (c, d)).toNat)) := by
  by_cases h1 : a < c
  · have HV := Lib.hid (show stepV (a, b) (c, d) = 114 by unfold stepV; simp only [gt_iff_lt, h1, if_true])
    go_enter Try.func80, Try.ntmps80
    go_wp2
    go_ret
    exact ⟨by rw [HV.out]; rfl, (by (repeat (first | with_reducible exact Below.refl _ _ | with_reducible assumption | with_reducible apply bel_alloc | with_reducible apply bel_drew | with_reducible apply bel_drewN | ((with_reducible refine bel_set ?_ ?_); rotate_left; (simp <;> omega)) | (with_reducible refine bel_trans ?_ (by with_reducible assumption)))))⟩
  by_cases h2 : c < a
  · have HV := Lib.hid (show stepV (a, b) (c, d) = 108 by unfold stepV; simp only [gt_iff_lt, h1, h2, if_true, if_false])
    go_enter Try.func80, Try.ntmps80
    go_wp2
    go_ret
    exact ⟨by rw [HV.out]; rfl, (by (repeat (first | with_reducible exact Below.refl _ _ | with_reducible assumption | with_reducible apply bel_alloc | with_reducible apply bel_drew | with_reducible apply bel_drewN | ((with_reducible refine bel_set ?_ ?_); rotate_left; (simp <;> omega)) | (with_reducible refine bel_trans ?_ (by with_reducible assumption)))))⟩
  by_cases h3 : b < d
  · have HV := Lib.hid (show stepV (a, b) (c, d) = 100 by unfold stepV; simp only [gt_iff_lt, h1, h2, h3, if_true, if_false])
    go_enter Try.func80, Try.ntmps80
    go_wp2
    go_ret
    exact ⟨by rw [HV.out]; rfl, (by (repeat (first | with_reducible exact Below.refl _ _ | with_reducible assumption | with_reducible apply bel_alloc | with_reducible apply bel_drew | with_reducible apply bel_drewN | ((with_reducible refine bel_set ?_ ?_); rotate_left; (simp <;> omega)) | (with_reducible refine bel_trans ?_ (by with_reducible assumption)))))⟩
  · have HV := Lib.hid (show stepV (a, b) (c, d) = 117 by unfold stepV; simp only [gt_iff_lt, h1, h2, h3, if_false])
    go_enter Try.func80, Try.ntmps80
    go_wp2
    go_ret
    exact ⟨by rw [HV.out]; rfl, (by (repeat (first | with_reducible exact Below.refl _ _ | with_reducible assumption | with_reducible apply bel_alloc | with_reducible apply bel_drew | with_reducible apply bel_drewN | ((with_reducible refine bel_set ?_ ?_); rotate_left; (simp <;> omega)) | (with_reducible refine bel_trans ?_ (by with_reducible assumption)))))⟩

def wordTo (l : List C) (k : Nat) : List UInt8 := (List.range k).map fun i => stepV (l.getD i (0, 0)) (l.getD (i + 1) (0, 0))
theorem wordTo_succ (l : List C) (k : Nat) : wordTo l (k + 1) = wordTo l k ++ [stepV (l.getD k (0, 0)) (l.getD (k + 1) (0, 0))] := by simp [wordTo, List.range_succ]
theorem wordTo_len (l : List C) (k : Nat) : (wordTo l k).length = k := by simp [wordTo]
noncomputable def snakeWord (s : List C) : List UInt8 := wordTo (snakeOrder s) ((snakeOrder s).length - 1)
noncomputable def snakeWordV (s : List C) : Value := .tuple #[.string (bs (snakeWord s)), .bool (isSnake s)]
theorem snakeWord_no {xs : List C} (h : isSnake xs = false) : snakeWord xs = [] := by unfold snakeWord; rw [snakeOrder_no h]; rfl
set_option maxHeartbeats 1600000 in
theorem SnakeWord_i (A : Option Addr) (n c : Nat) (xs : List C) (w : World) (hr : Rd w A (vC xs)) (hl : xs.length = n) (hn : n ≤ 1099511627776) :
    Calls Try.prog 43 #[.slice A n c] w (Ret w (snakeWordV xs)) := by
  have HL := Lib.hid hl
  cases hc : isSnake xs with
  | false =>
    have HV : Hid (snakeWordV xs = .tuple #[.string (bs []), .bool false]) := by show snakeWordV xs = _; unfold snakeWordV; rw [snakeWord_no hc, hc]
    have HC := Lib.hid hc
    clear hc hl
    go_enter Try.func43, Try.ntmps43
    go_wp2_with (go_at_call 41; refine (SnakeOrder_i _ _ _ xs _ hr HL.out (by omega)).mono ?_; rw [HC.out]; rintro e w1 ⟨B, m, cap, rfl, ho, hb1⟩; clear ho)
    go_ret2
    exact ⟨by rw [HV.out]; rfl, (by (repeat (first | with_reducible exact Below.refl _ _ | with_reducible assumption | with_reducible apply bel_alloc | with_reducible apply bel_drew | with_reducible apply bel_drewN | ((with_reducible refine bel_set ?_ ?_); rotate_left; (simp <;> omega)) | (with_reducible refine bel_trans ?_ (by with_reducible assumption)))))⟩
  | true =>
    have hlen := shape_len (conn_shape (tree_conn (snake_tree hc)))
    have HV : Hid (snakeWordV xs = .tuple #[.string (bs (wordTo (snakeOrder xs) (n - 1))), .bool true]) := by show snakeWordV xs = _; unfold snakeWordV snakeWord; rw [hc, snakeOrder_len hc, hl]
    have HSL := Lib.hid (snakeOrder_len hc)
    have HC := Lib.hid hc
    have hn8 : n ≤ 8 := by omega
    have hn1 : 1 ≤ n := by omega
    clear hc hlen hl
    go_enter Try.func43, Try.ntmps43
    go_wp2_with fail
    refine (SnakeOrder_i _ _ _ xs _ hr HL.out (by omega)).mono ?_
    rw [HC.out]
    rintro e w1 ⟨B, m, cap, rfl, ho, hb1⟩
    generalize snakeOrder xs = l at HV HSL ho
    have hlm : l.length = m := by have := own_len ho; rw [vC_length] at this; omega
    obtain rfl : m = n := by have := HSL.out; have := HL.out; omega
    have HLM := Lib.hid hlm
    have hrd := Rd.of_own ho
    clear hlm
    go_wp2_with fail
    go_loopw [6, 7] (fun e i wr => ∃ (k q cp : Nat) (A' : Option Addr), 1 ≤ k ∧ k ≤ m ∧ q + 1 = k ∧ i = .int .i64 k ∧ e = .slice A' q cp ∧ wr.ownsRow w1.heap.size 5 1 (.slice A' q cp) q (vB (wordTo l q)) ∧ Below w1.heap.size w1 wr) (fun _ i _ => m - (intOf i).toNat)
    case atStart => exact ⟨1, 0, 0, none, Nat.le_refl _, hn1, rfl, rfl, rfl, own_nil _ _ _ _, (by (repeat (first | with_reducible exact Below.refl _ _ | with_reducible assumption | with_reducible apply bel_alloc | with_reducible apply bel_drew | with_reducible apply bel_drewN | ((with_reducible refine bel_set ?_ ?_); rotate_left; (simp <;> omega)) | (with_reducible refine bel_trans ?_ (by with_reducible assumption)))))⟩
    case round =>
      obtain ⟨k, j, cp, A', hk1, hk, hjk, rfl, rfl, hown, hb⟩ := hrel
      by_cases hlt : k < m
      · have hl1 : j < l.length := by rw [HLM.out]; omega
        have hl2 : k < l.length := by rw [HLM.out]; omega
        obtain ⟨g, off, rfl, hgw, c1, c2⟩ := RdC.at_ (hrd.below hb) hl1
        obtain ⟨g', off', hgg, _, d1, d2⟩ := RdC.at_ (hrd.below hb) hl2
        obtain ⟨rfl, rfl⟩ : g = g' ∧ off = off' := by injection hgg with h; injection h with h1 h2; exact ⟨h1, h2⟩
        have hws := wordTo_succ l j
        rw [hjk, List.getD_eq_getElem?_getD, List.getD_eq_getElem?_getD, List.getElem?_eq_getElem hl1, List.getElem?_eq_getElem hl2] at hws
        simp only [Option.getD_some] at hws
        obtain ⟨⟨x, y⟩, hxy⟩ : ∃ p, l[j] = p := ⟨_, rfl⟩
        obtain ⟨⟨x', y'⟩, hxy'⟩ : ∃ p, l[k] = p := ⟨_, rfl⟩
        rw [hxy] at c1 c2 hws
        rw [hxy'] at d1 d2 hws
        have HR := Lib.hid hws
        have HJ := Lib.hid hjk
        have hgw1 : g < w1.heap.size := (own_lt ho g rfl).2
        have hj8 : j ≤ 8 := by omega
        have hi0 : (0 : Int) ≤ (k : Int) := by omega
        have hi1 : (k : Int) < (m : Int) := by omega
        have hi2 : (k : Int) - 1 < (m : Int) := by omega
        have hi3 : ((k : Int) - 1).toNat = j := by omega
        have hi4 : (0 : Int) ≤ (k : Int) - 1 := by omega
        have hi6 : (1 : Int) ≤ (k : Int) := by omega
        have hi8 : (k : Int) < (m : Int) + 1 := by omega
        have hi5 : IntKind.i64.wrap ((k : Int) - 1) = (k : Int) - 1 := IntWalk.i64_in _ (by omega)
        clear hxy hxy' hgg hjk hws
        go_wp2_with fail
        have hne : some g ≠ ob A' := fun h => by have := (own_lt hown g h.symm).1; omega
        (refine wp_region_tailN (C := Gr wr A') 11 (by kernel_rfl) (by kernel_rfl) (Gr.drawn _ _) (fun _ _ h k => h.ext k) ?_; simp only [List.take_succ_cons, List.take_zero, List.drop_succ_cons, List.drop_zero]; (repeat (first | (refine headSkip (by rfl) rfl ?_; simp only [List.setIfInBounds_toArray, List.set_cons_zero, List.set_cons_succ]) | (refine headV (v := ?_) (by rfl) rfl (fun w' hcw => ?_) ?_; rotate_left; ((try dsimp only at hcw); have hbc := hcw.cells; go_simp; first | done | with_reducible rfl | (exact callsX (v := .int .u8 (stepV (x, y) (x', y')).toNat) (stepOf_i _ _ _ _ _))); simp only [List.setIfInBounds_toArray, List.set_cons_zero, List.set_cons_succ]))); unfold wpHead)
        (refine tailK (by rfl) (fun w3 hc3 he3 K hK => ?_); go_simp; refine hK _ _ (hc3.ext (by (repeat (first | with_reducible exact Below.refl _ _ | with_reducible assumption | with_reducible apply bel_alloc | with_reducible apply bel_drew | with_reducible apply bel_drewN | ((with_reducible refine bel_set ?_ ?_); rotate_left; (simp <;> omega)) | (with_reducible refine bel_trans ?_ (by with_reducible assumption)))))) ?_; clear hK K)
        (refine tailK (by rfl) (fun w4 hc4 he4 K hK => ?_); refine wpB _ _ _ rfl w1.heap.size A' j cp (wordTo l j) rfl (own_keep ((own_keep hown he3).alloc _) he4) _ 1 1 [stepV (x, y) (x', y')] rfl (Rd.below (rd_newB _ _ _) he4) rfl (by omega) (by have h1 := hb.size; have h2 := he3.size; have h3 := he4.size; simp at h3; omega) ?_; intro A2 c2 w5 hown5 hg5 _; refine hK _ _ (Gr.trans hc4 hg5) ?_; clear hK K; simp only [Act.put, List.setIfInBounds_toArray, List.set_cons_zero, List.set_cons_succ])
        (refine tailK (by rfl) (fun w6 hc6 he6 K hK => ?_); go_simp; refine hK _ _ (hc6) ?_; clear hK K)
        (refine fun w7 hc7 he7 => NoPanic.normal ?_)
        have hb5 : Below w1.heap.size w1 w5 := bel_app (bel_trans (bel_alloc (bel_trans hb he3) _) he4) hg5 (fun g' hg' => ((own_lt hown) g' hg').1)
        have HO3 := Lib.hid (own_keep (own_keep hown5 he6) he7)
        clear hown5
        go_wp2
        exact ⟨⟨k + 1, j + 1, c2, A2, by omega, by omega, by rw [HJ.out], by go_num, rfl, by rw [HJ.out, HR.out]; have h := HO3.out; rw [HJ.out] at h; exact h, (by (repeat (first | with_reducible exact Below.refl _ _ | with_reducible assumption | with_reducible apply bel_alloc | with_reducible apply bel_drew | with_reducible apply bel_drewN | ((with_reducible refine bel_set ?_ ?_); rotate_left; (simp <;> omega)) | (with_reducible refine bel_trans ?_ (by with_reducible assumption)))))⟩, by simp [intOf]; omega⟩
      · have hkm : k = m := by omega
        have hcv := conv_B wr (n := j) (c := cp) (Rd.of_own hown) (by rw [wordTo_len])
        have hjm : j = m - 1 := by omega
        rw [← hjm] at HV
        have HCV := Lib.hid hcv
        have hlt2 : ¬ (k : Int) < (m : Int) := by omega
        clear hcv hjm hjk hkm
        have hcv := HCV.out
        go_wp2
        go_ret2
        exact ⟨by rw [HV.out]; rfl, (by (repeat (first | with_reducible exact Below.refl _ _ | with_reducible assumption | with_reducible apply bel_alloc | with_reducible apply bel_drew | with_reducible apply bel_drewN | ((with_reducible refine bel_set ?_ ?_); rotate_left; (simp <;> omega)) | (with_reducible refine bel_trans ?_ (by with_reducible assumption)))))⟩

theorem data_app2 (a b : ByteArray) : (a ++ b).data.toList = a.data.toList ++ b.data.toList := by simp [ByteArray.data_append]
theorem stepV_r {x y x' y' : Int} (h : x < x') : stepV (x, y) (x', y') = 114 := by unfold stepV; rw [if_pos (show x' > x by omega)]
theorem stepV_l {x y x' y' : Int} (h : x' < x) : stepV (x, y) (x', y') = 108 := by unfold stepV; rw [if_neg (show ¬ x' > x by omega), if_pos (show x' < x by omega)]
theorem stepV_d {x y x' y' : Int} (hn : near (x, y) (x', y') = true) (h : y < y') : stepV (x, y) (x', y') = 100 := by
  simp only [near, decide_eq_true_eq] at hn
  unfold stepV
  rw [if_neg (show ¬ x' > x by omega), if_neg (show ¬ x' < x by omega), if_pos (show y' > y by omega)]
theorem stepV_u {x y x' y' : Int} (h1 : ¬ x < x') (h2 : ¬ y < y') (h3 : ¬ x' < x) : stepV (x, y) (x', y') = 117 := by
  unfold stepV
  rw [if_neg (show ¬ x' > x by omega), if_neg (show ¬ x' < x by omega), if_neg (show ¬ y' > y by omega)]
set_option maxHeartbeats 1600000 in
theorem SnakeWord_s (A : Option Addr) (n c : Nat) (xs : List C) (w : World) (hr : Rd w A (vC xs)) (hl : xs.length = n) (hn : n ≤ 1099511627776) :
    Calls Try.prog 42 #[.slice A n c] w (Ret w (snakeWordV xs)) := by
  have HV : Hid (snakeWordV xs = .tuple #[.string (bs (wordTo (snakeOrder xs) ((snakeOrder xs).length - 1))), .bool (isSnake xs)]) := rfl
  have hadj0 : ∀ l, snakeOrder xs = l → ∀ i (h : i + 1 < l.length), near l[i] l[i + 1] = true := by rintro l rfl i h; exact snakeOrder_adj i h
  have hm8 : (snakeOrder xs).length ≤ 1048576 := snakeOrder_le xs
  go_enter Try.func42, Try.ntmps42
  go_wp2_with fail
  refine (SnakeOrder_s _ _ _ xs _ hr hl (by omega)).mono ?_
  rintro e w1 ⟨B, m, cap, rfl, ho, hb1⟩
  generalize hl0 : snakeOrder xs = l at HV ho hm8
  have hadj := hadj0 l hl0
  clear hadj0 hl0
  generalize isSnake xs = ok at HV
  have hlm : l.length = m := by have := own_len ho; rw [vC_length] at this; omega
  rw [hlm] at HV hm8
  have HLM := Lib.hid hlm
  have HAD := Lib.hid hadj
  have hrd := Rd.of_own ho
  clear hlm hadj hl
  go_wp2_with fail
  go_loopw [6, 7] (fun e i wr => ∃ (k j : Nat) (q : ByteArray), 1 ≤ k ∧ (k ≤ m ∨ k = 1) ∧ j + 1 = k ∧ i = .int .i64 k ∧ e = .string q ∧ q.data.toList = wordTo l j ∧ Below w1.heap.size w1 wr) (fun _ i _ => m - (intOf i).toNat)
  case atStart => exact ⟨1, 0, _, Nat.le_refl _, .inr rfl, rfl, rfl, rfl, rfl, (by (repeat (first | with_reducible exact Below.refl _ _ | with_reducible assumption | with_reducible apply bel_alloc | with_reducible apply bel_drew | with_reducible apply bel_drewN | ((with_reducible refine bel_set ?_ ?_); rotate_left; (simp <;> omega)) | (with_reducible refine bel_trans ?_ (by with_reducible assumption)))))⟩
  case round =>
    obtain ⟨k, j, q, hk1, hk, hjk, rfl, rfl, hq, hb⟩ := hrel
    have hk' : k ≤ 1048577 := by omega
    by_cases hlt : k < m
    · have hl1 : j < l.length := by rw [HLM.out]; omega
      have hl2 : k < l.length := by rw [HLM.out]; omega
      obtain ⟨g, off, rfl, hgw, c1, c2⟩ := RdC.at_ (hrd.below hb) hl1
      obtain ⟨g', off', hgg, _, d1, d2⟩ := RdC.at_ (hrd.below hb) hl2
      obtain ⟨rfl, rfl⟩ : g = g' ∧ off = off' := by injection hgg with h; injection h with h1 h2; exact ⟨h1, h2⟩
      have hws := wordTo_succ l j
      have hnr := HAD.out j (by omega)
      simp only [hjk] at hnr
      rw [hjk, List.getD_eq_getElem?_getD, List.getD_eq_getElem?_getD, List.getElem?_eq_getElem hl1, List.getElem?_eq_getElem hl2] at hws
      simp only [Option.getD_some] at hws
      obtain ⟨⟨x, y⟩, hxy⟩ : ∃ p, l[j] = p := ⟨_, rfl⟩
      obtain ⟨⟨x', y'⟩, hxy'⟩ : ∃ p, l[k] = p := ⟨_, rfl⟩
      rw [hxy] at c1 c2 hws hnr
      rw [hxy'] at d1 d2 hws hnr
      have HR := Lib.hid hws
      have HJ := Lib.hid hjk
      have HN := Lib.hid hnr
      have HQ := Lib.hid hq
      have hqs : q.size ≤ 1048577 := by have := congrArg List.length hq; rw [data_len, wordTo_len] at this; omega
      have hi0 : (0 : Int) ≤ (k : Int) := by omega
      have hi1 : (k : Int) < (m : Int) := by omega
      have hi2 : (k : Int) - 1 < (m : Int) := by omega
      have hi3 : ((k : Int) - 1).toNat = j := by omega
      have hi4 : (0 : Int) ≤ (k : Int) - 1 := by omega
      have hi6 : (1 : Int) ≤ (k : Int) := by omega
      have hi8 : (k : Int) < (m : Int) + 1 := by omega
      have hi5 : IntKind.i64.wrap ((k : Int) - 1) = (k : Int) - 1 := IntWalk.i64_in _ (by omega)
      clear hxy hxy' hgg hjk hws hnr hq
      by_cases h1 : x < x'
      · have HV2 := Lib.hid (stepV_r h1 : stepV (x, y) (x', y') = 114)
        go_wp2_with fail
        (refine wp_region_below (by kernel_rfl) (by kernel_rfl) ?_; (repeat (first | go_big_quiet_skip | (refine quietV (v := ?_) (by rfl) rfl (fun w' hbw => ?_) ?_; rotate_left; ((try dsimp only at hbw); have hbc := (bcell hbw).1; have hbf := (bcell hbw).2; go_simp; first | done | with_reducible rfl | fail); simp only [List.setIfInBounds_toArray, List.set_cons_zero, List.set_cons_succ]))); refine wpQuiet_nil ?_; intro wq0 hq0)
        have c1' := keep_below hq0 c1
        have c2' := keep_below hq0 c2
        have d1' := keep_below hq0 d1
        have d2' := keep_below hq0 d2
        go_wp2_with fail
        exact ⟨⟨k + 1, j + 1, _, by omega, by omega, by rw [HJ.out], by go_num, rfl, by rw [data_app2, HQ.out, HJ.out, HR.out, HV2.out], (by (repeat (first | with_reducible exact Below.refl _ _ | with_reducible assumption | with_reducible apply bel_alloc | with_reducible apply bel_drew | with_reducible apply bel_drewN | ((with_reducible refine bel_set ?_ ?_); rotate_left; (simp <;> omega)) | (with_reducible refine bel_trans ?_ (by with_reducible assumption)))))⟩, by simp [intOf]; omega⟩
      by_cases h2 : y < y'
      · have HV2 := Lib.hid (stepV_d HN.out h2 : stepV (x, y) (x', y') = 100)
        go_wp2_with fail
        (refine wp_region_below (by kernel_rfl) (by kernel_rfl) ?_; (repeat (first | go_big_quiet_skip | (refine quietV (v := ?_) (by rfl) rfl (fun w' hbw => ?_) ?_; rotate_left; ((try dsimp only at hbw); have hbc := (bcell hbw).1; have hbf := (bcell hbw).2; go_simp; first | done | with_reducible rfl | fail); simp only [List.setIfInBounds_toArray, List.set_cons_zero, List.set_cons_succ]))); refine wpQuiet_nil ?_; intro wq0 hq0)
        have c1' := keep_below hq0 c1
        have c2' := keep_below hq0 c2
        have d1' := keep_below hq0 d1
        have d2' := keep_below hq0 d2
        have hgw5 := Nat.lt_of_lt_of_le hgw hq0.size
        go_wp2_with fail
        (refine wp_region_below (by kernel_rfl) (by kernel_rfl) ?_; (repeat (first | go_big_quiet_skip | (refine quietV (v := ?_) (by rfl) rfl (fun w' hbw => ?_) ?_; rotate_left; ((try dsimp only at hbw); have hbc := (bcell hbw).1; have hbf := (bcell hbw).2; go_simp; first | done | with_reducible rfl | fail); simp only [List.setIfInBounds_toArray, List.set_cons_zero, List.set_cons_succ]))); refine wpQuiet_nil ?_; intro wq1 hq1)
        have c1'' := keep_below hq1 c1'
        have c2'' := keep_below hq1 c2'
        have d1'' := keep_below hq1 d1'
        have d2'' := keep_below hq1 d2'
        go_wp2_with fail
        exact ⟨⟨k + 1, j + 1, _, by omega, by omega, by rw [HJ.out], by go_num, rfl, by rw [data_app2, HQ.out, HJ.out, HR.out, HV2.out], (by (repeat (first | with_reducible exact Below.refl _ _ | with_reducible assumption | with_reducible apply bel_alloc | with_reducible apply bel_drew | with_reducible apply bel_drewN | ((with_reducible refine bel_set ?_ ?_); rotate_left; (simp <;> omega)) | (with_reducible refine bel_trans ?_ (by with_reducible assumption)))))⟩, by simp [intOf]; omega⟩
      by_cases h3 : x' < x
      · have HV2 := Lib.hid (stepV_l h3 : stepV (x, y) (x', y') = 108)
        go_wp2_with fail
        (refine wp_region_below (by kernel_rfl) (by kernel_rfl) ?_; (repeat (first | go_big_quiet_skip | (refine quietV (v := ?_) (by rfl) rfl (fun w' hbw => ?_) ?_; rotate_left; ((try dsimp only at hbw); have hbc := (bcell hbw).1; have hbf := (bcell hbw).2; go_simp; first | done | with_reducible rfl | fail); simp only [List.setIfInBounds_toArray, List.set_cons_zero, List.set_cons_succ]))); refine wpQuiet_nil ?_; intro wq0 hq0)
        have c1' := keep_below hq0 c1
        have c2' := keep_below hq0 c2
        have d1' := keep_below hq0 d1
        have d2' := keep_below hq0 d2
        have hgw5 := Nat.lt_of_lt_of_le hgw hq0.size
        go_wp2_with fail
        (refine wp_region_below (by kernel_rfl) (by kernel_rfl) ?_; (repeat (first | go_big_quiet_skip | (refine quietV (v := ?_) (by rfl) rfl (fun w' hbw => ?_) ?_; rotate_left; ((try dsimp only at hbw); have hbc := (bcell hbw).1; have hbf := (bcell hbw).2; go_simp; first | done | with_reducible rfl | fail); simp only [List.setIfInBounds_toArray, List.set_cons_zero, List.set_cons_succ]))); refine wpQuiet_nil ?_; intro wq1 hq1)
        have c1'' := keep_below hq1 c1'
        have c2'' := keep_below hq1 c2'
        have d1'' := keep_below hq1 d1'
        have d2'' := keep_below hq1 d2'
        have hgw6 := Nat.lt_of_lt_of_le hgw5 hq1.size
        go_wp2_with fail
        (refine wp_region_below (by kernel_rfl) (by kernel_rfl) ?_; (repeat (first | go_big_quiet_skip | (refine quietV (v := ?_) (by rfl) rfl (fun w' hbw => ?_) ?_; rotate_left; ((try dsimp only at hbw); have hbc := (bcell hbw).1; have hbf := (bcell hbw).2; go_simp; first | done | with_reducible rfl | fail); simp only [List.setIfInBounds_toArray, List.set_cons_zero, List.set_cons_succ]))); refine wpQuiet_nil ?_; intro wq2 hq2)
        have c1''' := keep_below hq2 c1''
        have c2''' := keep_below hq2 c2''
        have d1''' := keep_below hq2 d1''
        have d2''' := keep_below hq2 d2''
        go_wp2_with fail
        exact ⟨⟨k + 1, j + 1, _, by omega, by omega, by rw [HJ.out], by go_num, rfl, by rw [data_app2, HQ.out, HJ.out, HR.out, HV2.out], (by (repeat (first | with_reducible exact Below.refl _ _ | with_reducible assumption | with_reducible apply bel_alloc | with_reducible apply bel_drew | with_reducible apply bel_drewN | ((with_reducible refine bel_set ?_ ?_); rotate_left; (simp <;> omega)) | (with_reducible refine bel_trans ?_ (by with_reducible assumption)))))⟩, by simp [intOf]; omega⟩
      · have HV2 := Lib.hid (stepV_u h1 h2 h3 : stepV (x, y) (x', y') = 117)
        go_wp2_with fail
        (refine wp_region_below (by kernel_rfl) (by kernel_rfl) ?_; (repeat (first | go_big_quiet_skip | (refine quietV (v := ?_) (by rfl) rfl (fun w' hbw => ?_) ?_; rotate_left; ((try dsimp only at hbw); have hbc := (bcell hbw).1; have hbf := (bcell hbw).2; go_simp; first | done | with_reducible rfl | fail); simp only [List.setIfInBounds_toArray, List.set_cons_zero, List.set_cons_succ]))); refine wpQuiet_nil ?_; intro wq0 hq0)
        have c1' := keep_below hq0 c1
        have c2' := keep_below hq0 c2
        have d1' := keep_below hq0 d1
        have d2' := keep_below hq0 d2
        have hgw5 := Nat.lt_of_lt_of_le hgw hq0.size
        go_wp2_with fail
        (refine wp_region_below (by kernel_rfl) (by kernel_rfl) ?_; (repeat (first | go_big_quiet_skip | (refine quietV (v := ?_) (by rfl) rfl (fun w' hbw => ?_) ?_; rotate_left; ((try dsimp only at hbw); have hbc := (bcell hbw).1; have hbf := (bcell hbw).2; go_simp; first | done | with_reducible rfl | fail); simp only [List.setIfInBounds_toArray, List.set_cons_zero, List.set_cons_succ]))); refine wpQuiet_nil ?_; intro wq1 hq1)
        have c1'' := keep_below hq1 c1'
        have c2'' := keep_below hq1 c2'
        have d1'' := keep_below hq1 d1'
        have d2'' := keep_below hq1 d2'
        have hgw6 := Nat.lt_of_lt_of_le hgw5 hq1.size
        go_wp2_with fail
        (refine wp_region_below (by kernel_rfl) (by kernel_rfl) ?_; (repeat (first | go_big_quiet_skip | (refine quietV (v := ?_) (by rfl) rfl (fun w' hbw => ?_) ?_; rotate_left; ((try dsimp only at hbw); have hbc := (bcell hbw).1; have hbf := (bcell hbw).2; go_simp; first | done | with_reducible rfl | fail); simp only [List.setIfInBounds_toArray, List.set_cons_zero, List.set_cons_succ]))); refine wpQuiet_nil ?_; intro wq2 hq2)
        have c1''' := keep_below hq2 c1''
        have c2''' := keep_below hq2 c2''
        have d1''' := keep_below hq2 d1''
        have d2''' := keep_below hq2 d2''
        go_wp2_with fail
        exact ⟨⟨k + 1, j + 1, _, by omega, by omega, by rw [HJ.out], by go_num, rfl, by rw [data_app2, HQ.out, HJ.out, HR.out, HV2.out], (by (repeat (first | with_reducible exact Below.refl _ _ | with_reducible assumption | with_reducible apply bel_alloc | with_reducible apply bel_drew | with_reducible apply bel_drewN | ((with_reducible refine bel_set ?_ ?_); rotate_left; (simp <;> omega)) | (with_reducible refine bel_trans ?_ (by with_reducible assumption)))))⟩, by simp [intOf]; omega⟩
    · have hjm : j = m - 1 := by omega
      rw [hjm] at hq
      have HB := Lib.hid (bs_of hq)
      clear hq hjm hjk
      have hlt2 : ¬ (k : Int) < (m : Int) := by omega
      go_wp2
      go_ret2
      exact ⟨by rw [HV.out, ← HB.out]; rfl, (by (repeat (first | with_reducible exact Below.refl _ _ | with_reducible assumption | with_reducible apply bel_alloc | with_reducible apply bel_drew | with_reducible apply bel_drewN | ((with_reducible refine bel_set ?_ ?_); rotate_left; (simp <;> omega)) | (with_reducible refine bel_trans ?_ (by with_reducible assumption)))))⟩
theorem snakeWord_form (xs : List C) : ∃ q b, snakeWordV xs = .tuple #[.string q, .bool b] := ⟨_, _, rfl⟩
end Go.Proofs.Ytemmbpmgfjodnaa
