/- Rolling a cube: the program's and the reference's function, and the law that compares them. -/
import Derived.Test.YtemmbpmgfjodnaaLawI
import Derived.Test.YtemmbpmgfjodnaaSmall
import Derived.Outline
import Derived.WalkLawsBesides
import Derived.WalkSpells
import Derived.BigQuiet
import Derived.Deep.QuietTactic
import Derived.Deep.RegionHeld3
import Derived.Deep.DeepCutAuto
import Derived.Deep.CutBlock
import Derived.Deep.DrawnRows
namespace Go.Proofs.Ytemmbpmgfjodnaa
open Go.RowKit
set_option linter.unusedVariables false
attribute [local go_sem ↓] Go.wp_at_zero Go.wp_at_succ

def permN : Nat → List Nat
  | 0 => [3, 2, 0, 1, 4, 5]
  | 1 => [5, 4, 2, 3, 0, 1]
  | 2 => [2, 3, 1, 0, 4, 5]
  | _ => [4, 5, 2, 3, 1, 0]
def rollL (xs : List Int) (d : Nat) : List Int := (permN d).map fun i => xs.getD i 0
def rollOk (xs : List Int) (d : Int) : Bool := decide (xs.length = 6) && decide (0 ≤ d) && decide (d ≤ 3)
def rollV (xs : List Int) (d : Int) : List Int := if rollOk xs d = true then rollL xs d.toNat else []
theorem permN_len (d : Nat) : (permN d).length = 6 := by unfold permN; split <;> rfl
theorem permN_lt (d k : Nat) (h : k < 6) : (permN d).getD k 0 < 6 := by
  unfold permN
  have : k = 0 ∨ k = 1 ∨ k = 2 ∨ k = 3 ∨ k = 4 ∨ k = 5 := by omega
  split <;> rcases this with rfl | rfl | rfl | rfl | rfl | rfl <;> decide
theorem roll_take (xs : List Int) (d k : Nat) (h : k < 6) : (rollL xs d).take (k + 1) = (rollL xs d).take k ++ [xs.getD ((permN d).getD k 0) 0] := by
  have hl : k < (permN d).length := by rw [permN_len]; exact h
  unfold rollL
  rw [← List.map_take, ← List.map_take, List.take_succ_eq_append_getElem hl, List.map_append, List.getD_eq_getElem?_getD (l := permN d), List.getElem?_eq_getElem hl]
  rfl
theorem roll_take6 (xs : List Int) (d : Nat) : (rollL xs d).take 6 = rollL xs d := List.take_of_length_le (by unfold rollL; rw [List.length_map, permN_len]; exact Nat.le_refl _)

theorem idx6 (p0 p1 p2 p3 p4 p5 : Int) (k : Nat) (h : k < 6) (W : World) : (Instr.index 77 (.agg #[.int .i64 p0, .int .i64 p1, .int .i64 p2, .int .i64 p3, .int .i64 p4, .int .i64 p5]) (.int .i64 (k : Int))).run Try.prog W = .ok (.int .i64 ([p0, p1, p2, p3, p4, p5].getD k 0)) W := by
  have hk : k = 0 ∨ k = 1 ∨ k = 2 ∨ k = 3 ∨ k = 4 ∨ k = 5 := by omega
  rcases hk with rfl | rfl | rfl | rfl | rfl | rfl
  · show _ = _; kernel_rfl
  · show _ = _; kernel_rfl
  · show _ = _; kernel_rfl
  · show _ = _; kernel_rfl
  · show _ = _; kernel_rfl
  · show _ = _; kernel_rfl
theorem idx_rows (d : Nat) (hd : d < 4) : ∃ p0 p1 p2 p3 p4 p5 : Int, (permN d).map (fun (i : Nat) => (i : Int)) = [p0, p1, p2, p3, p4, p5] ∧
    ∀ W, (Instr.index 78 (.agg #[.int .i64 3, .int .i64 2, .int .i64 0, .int .i64 1, .int .i64 4, .int .i64 5, .int .i64 5, .int .i64 4, .int .i64 2, .int .i64 3, .int .i64 0, .int .i64 1, .int .i64 2, .int .i64 3, .int .i64 1, .int .i64 0, .int .i64 4, .int .i64 5, .int .i64 4, .int .i64 5, .int .i64 2, .int .i64 3, .int .i64 1, .int .i64 0]) (.int .i64 (d : Int))).run Try.prog W = .ok (.agg #[.int .i64 p0, .int .i64 p1, .int .i64 p2, .int .i64 p3, .int .i64 p4, .int .i64 p5]) W := by
  have hdd : d = 0 ∨ d = 1 ∨ d = 2 ∨ d = 3 := by omega
  rcases hdd with rfl | rfl | rfl | rfl
  · exact ⟨3, 2, 0, 1, 4, 5, rfl, fun W => by kernel_rfl⟩
  · exact ⟨5, 4, 2, 3, 0, 1, rfl, fun W => by kernel_rfl⟩
  · exact ⟨2, 3, 1, 0, 4, 5, rfl, fun W => by kernel_rfl⟩
  · exact ⟨4, 5, 2, 3, 1, 0, rfl, fun W => by kernel_rfl⟩

set_option maxRecDepth 100000 in
set_option maxHeartbeats 400000 in
theorem roll_i (A : Option Addr) (c : Nat) (xs : List Int) (d : Nat) (w : World) (hr : Rd w A (vI xs)) (hl : xs.length = 6) (hd : d < 4) :
    Calls Try.prog 76 #[.slice A 6 c, .int .i64 (d : Int)] w (RetS w 3 1 (vI (rollL xs d))) := by
  obtain ⟨p0, p1, p2, p3, p4, p5, hp, h1⟩ := idx_rows d hd
  have h1 := h1 w
  have HP := Lib.hid hp
  clear hp
  go_enter Try.func76, Try.ntmps76
  go_wp2
  clear h1
  go_loopw [6, 8, 17] (fun o _ i wr => ∃ (k n cap : Nat) (B : Option Addr), k ≤ 6 ∧ i = .int .i64 k ∧ o = .slice B n cap ∧ n = k ∧ wr.ownsRow w.heap.size 3 1 (.slice B n cap) n (vI ((rollL xs d).take k)) ∧ Below w.heap.size w wr) (fun _ _ i _ => 6 - (intOf i).toNat)
  case atStart => exact ⟨0, 0, 0, none, by omega, rfl, rfl, rfl, own_nil _ _ _ _, (by (repeat (first | with_reducible exact Below.refl _ _ | with_reducible assumption | with_reducible apply bel_alloc | with_reducible apply bel_drew | with_reducible apply bel_drewN | ((with_reducible refine bel_set ?_ ?_); rotate_left; (simp <;> omega)) | (with_reducible refine bel_trans ?_ (by with_reducible assumption)))))⟩
  case round =>
    obtain ⟨k, n, cap, B, hk, rfl, rfl, hnk, hown, hb⟩ := hrel
    by_cases hlt : k < 6
    · have hix := idx6 p0 p1 p2 p3 p4 p5 k hlt wr
      rw [← HP.out] at hix
      have hpk : (permN d).getD k 0 < 6 := permN_lt d k hlt
      have hgd : ((permN d).map (fun (i : Nat) => (i : Int))).getD k 0 = (((permN d).getD k 0 : Nat) : Int) := by
        rw [List.getD_eq_getElem?_getD, List.getD_eq_getElem?_getD, List.getElem?_map]
        cases (permN d)[k]? <;> rfl
      rw [hgd] at hix
      have hrt := roll_take xs d k hlt
      generalize hq : (permN d).getD k 0 = q at hix hpk hrt
      obtain ⟨g, off, rfl, hgw, c1⟩ := RdI.at_ (hr.below hb) (k := q) (by omega)
      have hxq : xs.getD q 0 = xs[q] := by rw [List.getD_eq_getElem?_getD, List.getElem?_eq_getElem (by omega)]; rfl
      obtain ⟨x, hx⟩ : ∃ x, xs[q] = x := ⟨_, rfl⟩
      rw [hxq, hx] at hrt
      rw [hx] at c1
      have HR := Lib.hid hrt
      have HN := Lib.hid hnk
      have hn6 : n ≤ 6 := by omega
      have hi1 : (q : Int) < 6 := by omega
      have hi2 : (0 : Int) ≤ (q : Int) := by omega
      clear hgd hrt hxq hx hq hnk hl
      go_wp2_with ((at_builtin; go_must (refine app_I _ rfl _ _ rfl w.heap.size _ _ _ _ rfl (hown.alloc _) _ _ _ [x] rfl (rd_newI _ _ _) rfl (by omega) (by have := hb.size; simp; omega) ?_); intro A' c' w' hown' hg' hat'))
      exact ⟨⟨k + 1, n + 1, c', A', by omega, by go_num, rfl, by have := HN.out; omega, by rw [HR.out]; exact hown', bel_app (bel_alloc hb _) hg' (fun g' hg1 => ((own_lt hown) g' hg1).1)⟩, by simp [intOf]; omega⟩
    · have hk6 : k = 6 := by omega
      subst hk6
      rw [roll_take6] at hown
      have HO := Lib.hid hown
      clear hown hnk
      go_wp2
      go_ret
      exact ⟨_, _, _, rfl, HO.out, hb⟩


set_option maxHeartbeats 1600000 in
theorem RollFaces_s_yes (g off c : Nat) (x0 x1 x2 x3 x4 x5 : Int) (d : Int) (hd : d = 0 ∨ d = 1 ∨ d = 2 ∨ d = 3) (w : World)
    (c0 : w.cell? ⟨g, off, none⟩ = some (.int .i64 x0)) (c1 : w.cell? ⟨g, off + 1, none⟩ = some (.int .i64 x1)) (c2 : w.cell? ⟨g, off + 2, none⟩ = some (.int .i64 x2))
    (c3 : w.cell? ⟨g, off + 3, none⟩ = some (.int .i64 x3)) (c4 : w.cell? ⟨g, off + 4, none⟩ = some (.int .i64 x4)) (c5 : w.cell? ⟨g, off + 5, none⟩ = some (.int .i64 x5)) :
    Calls Try.prog 74 #[.slice (some ⟨g, off, none⟩) 6 c, .int .i64 d] w (RetS2 w 3 1 (vI (rollL [x0, x1, x2, x3, x4, x5] d.toNat)) (.bool true)) := by
  rcases hd with hd | hd | hd | hd
  · subst hd
    go_enter Try.func74, Try.ntmps74
    go_wp2_with (go_at_call 85; refine (l1In_t _ _ _ _ (by omega) (by omega)).mono ?_; rintro e' w1 ⟨rfl, hb0⟩; have k0 := keep_below hb0 c0; have k1 := keep_below hb0 c1; have k2 := keep_below hb0 c2; have k3 := keep_below hb0 c3; have k4 := keep_below hb0 c4; have k5 := keep_below hb0 c5)
    go_region_held3 (fun w' => w'.cell? ⟨g, off, none⟩ = some (.int .i64 x0) ∧ w'.cell? ⟨g, off + 1, none⟩ = some (.int .i64 x1) ∧ w'.cell? ⟨g, off + 2, none⟩ = some (.int .i64 x2) ∧ w'.cell? ⟨g, off + 3, none⟩ = some (.int .i64 x3) ∧ w'.cell? ⟨g, off + 4, none⟩ = some (.int .i64 x4) ∧ w'.cell? ⟨g, off + 5, none⟩ = some (.int .i64 x5))
      ((go_split_ands; (try dsimp only); (repeat' (with_reducible apply And.intro)) <;> (repeat (first | with_reducible assumption | with_reducible apply keep_alloc | with_reducible apply keep_drew | with_reducible refine keep_below hb0 ?_ | ((with_reducible refine keep_set ?_ ?_); rotate_left; (simp <;> omega)))))) (fail)
    go_wp2
    go_ret2
    exact ⟨_, 6, 6, rfl, own_new w1.drew 3 1 6 (vI [x3, x2, x0, x1, x4, x5]).toArray rfl (by decide) hb0.size, (by (repeat (first | with_reducible exact Below.refl _ _ | with_reducible assumption | with_reducible apply bel_alloc | with_reducible apply bel_drew | with_reducible apply bel_drewN | ((with_reducible refine bel_set ?_ ?_); rotate_left; (simp <;> omega)) | (with_reducible refine bel_trans ?_ (by with_reducible assumption)))))⟩
  · subst hd
    go_enter Try.func74, Try.ntmps74
    go_wp2_with (go_at_call 85; refine (l1In_t _ _ _ _ (by omega) (by omega)).mono ?_; rintro e' w1 ⟨rfl, hb0⟩; have k0 := keep_below hb0 c0; have k1 := keep_below hb0 c1; have k2 := keep_below hb0 c2; have k3 := keep_below hb0 c3; have k4 := keep_below hb0 c4; have k5 := keep_below hb0 c5)
    go_region_held3 (fun w' => w'.cell? ⟨g, off, none⟩ = some (.int .i64 x0) ∧ w'.cell? ⟨g, off + 1, none⟩ = some (.int .i64 x1) ∧ w'.cell? ⟨g, off + 2, none⟩ = some (.int .i64 x2) ∧ w'.cell? ⟨g, off + 3, none⟩ = some (.int .i64 x3) ∧ w'.cell? ⟨g, off + 4, none⟩ = some (.int .i64 x4) ∧ w'.cell? ⟨g, off + 5, none⟩ = some (.int .i64 x5))
      ((go_split_ands; (try dsimp only); (repeat' (with_reducible apply And.intro)) <;> (repeat (first | with_reducible assumption | with_reducible apply keep_alloc | with_reducible apply keep_drew | with_reducible refine keep_below hb0 ?_ | ((with_reducible refine keep_set ?_ ?_); rotate_left; (simp <;> omega)))))) (fail)
    go_wp2
    go_ret2
    exact ⟨_, 6, 6, rfl, own_new w1.drew 3 1 6 (vI [x5, x4, x2, x3, x0, x1]).toArray rfl (by decide) hb0.size, (by (repeat (first | with_reducible exact Below.refl _ _ | with_reducible assumption | with_reducible apply bel_alloc | with_reducible apply bel_drew | with_reducible apply bel_drewN | ((with_reducible refine bel_set ?_ ?_); rotate_left; (simp <;> omega)) | (with_reducible refine bel_trans ?_ (by with_reducible assumption)))))⟩
  · subst hd
    go_enter Try.func74, Try.ntmps74
    go_wp2_with (go_at_call 85; refine (l1In_t _ _ _ _ (by omega) (by omega)).mono ?_; rintro e' w1 ⟨rfl, hb0⟩; have k0 := keep_below hb0 c0; have k1 := keep_below hb0 c1; have k2 := keep_below hb0 c2; have k3 := keep_below hb0 c3; have k4 := keep_below hb0 c4; have k5 := keep_below hb0 c5)
    go_region_held3 (fun w' => w'.cell? ⟨g, off, none⟩ = some (.int .i64 x0) ∧ w'.cell? ⟨g, off + 1, none⟩ = some (.int .i64 x1) ∧ w'.cell? ⟨g, off + 2, none⟩ = some (.int .i64 x2) ∧ w'.cell? ⟨g, off + 3, none⟩ = some (.int .i64 x3) ∧ w'.cell? ⟨g, off + 4, none⟩ = some (.int .i64 x4) ∧ w'.cell? ⟨g, off + 5, none⟩ = some (.int .i64 x5))
      ((go_split_ands; (try dsimp only); (repeat' (with_reducible apply And.intro)) <;> (repeat (first | with_reducible assumption | with_reducible apply keep_alloc | with_reducible apply keep_drew | with_reducible refine keep_below hb0 ?_ | ((with_reducible refine keep_set ?_ ?_); rotate_left; (simp <;> omega)))))) (fail)
    go_wp2
    go_ret2
    exact ⟨_, 6, 6, rfl, own_new w1.drew 3 1 6 (vI [x2, x3, x1, x0, x4, x5]).toArray rfl (by decide) hb0.size, (by (repeat (first | with_reducible exact Below.refl _ _ | with_reducible assumption | with_reducible apply bel_alloc | with_reducible apply bel_drew | with_reducible apply bel_drewN | ((with_reducible refine bel_set ?_ ?_); rotate_left; (simp <;> omega)) | (with_reducible refine bel_trans ?_ (by with_reducible assumption)))))⟩
  · subst hd
    go_enter Try.func74, Try.ntmps74
    go_wp2_with (go_at_call 85; refine (l1In_t _ _ _ _ (by omega) (by omega)).mono ?_; rintro e' w1 ⟨rfl, hb0⟩; have k0 := keep_below hb0 c0; have k1 := keep_below hb0 c1; have k2 := keep_below hb0 c2; have k3 := keep_below hb0 c3; have k4 := keep_below hb0 c4; have k5 := keep_below hb0 c5)
    go_region_held3 (fun w' => w'.cell? ⟨g, off, none⟩ = some (.int .i64 x0) ∧ w'.cell? ⟨g, off + 1, none⟩ = some (.int .i64 x1) ∧ w'.cell? ⟨g, off + 2, none⟩ = some (.int .i64 x2) ∧ w'.cell? ⟨g, off + 3, none⟩ = some (.int .i64 x3) ∧ w'.cell? ⟨g, off + 4, none⟩ = some (.int .i64 x4) ∧ w'.cell? ⟨g, off + 5, none⟩ = some (.int .i64 x5))
      ((go_split_ands; (try dsimp only); (repeat' (with_reducible apply And.intro)) <;> (repeat (first | with_reducible assumption | with_reducible apply keep_alloc | with_reducible apply keep_drew | with_reducible refine keep_below hb0 ?_ | ((with_reducible refine keep_set ?_ ?_); rotate_left; (simp <;> omega)))))) (fail)
    go_wp2
    go_ret2
    exact ⟨_, 6, 6, rfl, own_new w1.drew 3 1 6 (vI [x4, x5, x2, x3, x1, x0]).toArray rfl (by decide) hb0.size, (by (repeat (first | with_reducible exact Below.refl _ _ | with_reducible assumption | with_reducible apply bel_alloc | with_reducible apply bel_drew | with_reducible apply bel_drewN | ((with_reducible refine bel_set ?_ ?_); rotate_left; (simp <;> omega)) | (with_reducible refine bel_trans ?_ (by with_reducible assumption)))))⟩

theorem RollFaces_s (A : Option Addr) (n c : Nat) (xs : List Int) (d : Int) (w : World) (hr : Rd w A (vI xs)) (hl : xs.length = n) (hn : n ≤ 1099511627776) :
    Calls Try.prog 74 #[.slice A n c, .int .i64 d] w (RetS2 w 3 1 (vI (rollV xs d)) (.bool (rollOk xs d))) := by
  by_cases h6 : n = 6
  · subst h6
    by_cases h1 : 0 ≤ d ∧ d ≤ 3
    · have hok : rollOk xs d = true := by simp [rollOk, hl]; omega
      have hv : rollV xs d = rollL xs d.toNat := by unfold rollV; rw [if_pos hok]
      rw [hok, hv]
      match xs, hl with
      | [x0, x1, x2, x3, x4, x5], _ =>
        rcases hr with h | ⟨g, off, rfl, h⟩
        · simp [vI] at h
        · exact RollFaces_s_yes g off c x0 x1 x2 x3 x4 x5 d (by omega) w (h 0 _ rfl) (h 1 _ rfl) (h 2 _ rfl) (h 3 _ rfl) (h 4 _ rfl) (h 5 _ rfl)
    · have hok : rollOk xs d = false := by simp [rollOk]; omega
      have hv : rollV xs d = [] := by unfold rollV; rw [hok]; rfl
      have HO := Lib.hid hok
      have HV := Lib.hid hv
      clear hok hv hl
      go_enter Try.func74, Try.ntmps74
      go_wp2_with (go_at_call 85; refine (l1In_f _ _ _ _ h1).mono ?_; rintro e' w1 ⟨rfl, hb0⟩)
      go_ret2
      exact ⟨_, 0, 0, by rw [HO.out]; rfl, by rw [HV.out]; exact own_new w1 3 1 0 (vI []).toArray rfl (by decide) hb0.size, (by (repeat (first | with_reducible exact Below.refl _ _ | with_reducible assumption | with_reducible apply bel_alloc | with_reducible apply bel_drew | with_reducible apply bel_drewN | ((with_reducible refine bel_set ?_ ?_); rotate_left; (simp <;> omega)) | (with_reducible refine bel_trans ?_ (by with_reducible assumption)))))⟩
  · have hok : rollOk xs d = false := by simp [rollOk]; omega
    have hv : rollV xs d = [] := by unfold rollV; rw [hok]; rfl
    have HO := Lib.hid hok
    have HV := Lib.hid hv
    have hne : ((n : Int) == 6) = false := by simp; omega
    clear hok hv hl
    go_enter Try.func74, Try.ntmps74
    go_wp2
    go_ret2
    exact ⟨_, 0, 0, by rw [HO.out]; rfl, by rw [HV.out]; exact own_new w 3 1 0 (vI []).toArray rfl (by decide) (Nat.le_refl _), (by (repeat (first | with_reducible exact Below.refl _ _ | with_reducible assumption | with_reducible apply bel_alloc | with_reducible apply bel_drew | with_reducible apply bel_drewN | ((with_reducible refine bel_set ?_ ?_); rotate_left; (simp <;> omega)) | (with_reducible refine bel_trans ?_ (by with_reducible assumption)))))⟩
end Go.Proofs.Ytemmbpmgfjodnaa
