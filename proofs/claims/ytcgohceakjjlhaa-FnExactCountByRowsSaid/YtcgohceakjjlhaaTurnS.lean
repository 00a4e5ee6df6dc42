/- What a motion makes of a mask: the reference. -/
import Derived.Test.YtcgohceakjjlhaaPlaceS
import Derived.Outline
import Derived.WalkLawsBesides
import Derived.WalkSpells
import Derived.BigQuiet
import Derived.Deep.QuietTactic
import Derived.Deep.RegionHeld3
import Derived.Deep.RegionWith
import Derived.Deep.DeepCutAuto
import Derived.Deep.CutBlock
import Derived.Deep.DrawnRows
namespace Go.Proofs.Ytcgohceakjjlhaa
open Go.RowKit
set_option linter.unusedVariables false
attribute [local go_sem ↓] Go.wp_at_zero Go.wp_at_succ
theorem l23Place_go (a b x y : Int) (m : Nat) (w : World) (hq : okQ (a, b, x, y)) (hm : m < 8) (hg : m % 2 = 0 ∨ a = b) :
    Calls Try.prog 69 #[.int .i64 a, .int .i64 b, .int .i64 x, .int .i64 y, .int .i64 (m : Int)] w (Ret w (.tuple #[.int .i64 (carry a b x y m).2.2.1, .int .i64 (carry a b x y m).2.2.2, .bool true])) := by
  rcases Nat.mod_two_eq_zero_or_one m with h | h
  · exact l23Place_even a b x y m w hq hm h
  · rcases hg with h2 | h2
    · omega
    · exact l23Place_square a b x y m w hq hm ⟨h, h2⟩
theorem grid_ok {n h k : Nat} (hn : 1 ≤ n ∧ n ≤ 6) (hh : 1 ≤ h ∧ h ≤ 6) (hk : k < n * h) : okQ ((n : Int), (h : Int), ((k % n : Nat) : Int), ((k / n : Nat) : Int)) := by
  have h1 : k % n < n := Nat.mod_lt _ (by omega)
  have h2 : k / n < h := Nat.div_lt_of_lt_mul hk
  generalize k % n = a at h1
  generalize k / n = b at h2
  unfold okQ
  simp only
  omega
theorem bit_test (m k : Nat) (hm : m < 2 ^ 62) : (bits .and .i64 ((m : Int) / 2 ^ k) 1 == 1) = m.testBit k := by
  have e : ((m : Int) / 2 ^ k) = ((m / 2 ^ k : Nat) : Int) := by simp
  have hle := Nat.div_le_self m (2 ^ k)
  have h1 := i64_and (m / 2 ^ k) 1 (by omega) (by decide)
  rw [e, show (1 : Int) = ((1 : Nat) : Int) from rfl, h1, Nat.and_one_is_mod, bit_and]
  cases m.testBit k <;> rfl
theorem pos_int {n h m : Nat} {x y : Int} (hq : okQ ((n : Int), (h : Int), x, y)) : (carry n h x y m).2.2.2 * (n : Int) + (carry n h x y m).2.2.1 = (((carry n h x y m).2.2.2 * n + (carry n h x y m).2.2.1).toNat : Int) := by
  have h1 := carry_small hq m
  unfold okQ at h1
  obtain ⟨_, _, _, _, h5, _, h7, _⟩ := h1
  have : 0 ≤ (carry n h x y m).2.2.2 * (n : Int) := Int.mul_nonneg h7 (by omega)
  omega
theorem l23Place_q (a b x y : Int) (m : Nat) (w : World) (hq : okQ (a, b, x, y)) (hm : m < 8) (hg : m % 2 = 0 ∨ a = b) {a' b' x' y' : Int} (he : carry a b x y m = (a', b', x', y')) :
    Calls Try.prog 69 #[.int .i64 a, .int .i64 b, .int .i64 x, .int .i64 y, .int .i64 (m : Int)] w (Ret w (.tuple #[.int .i64 x', .int .i64 y', .bool true])) := by
  have h := l23Place_go a b x y m w hq hm hg
  rw [he] at h
  exact h
set_option maxHeartbeats 1600000 in
theorem l23Turn_s (n : Nat) (A : Option Addr) (h c : Nat) (rows : List Int) (mask m : Nat) (w : World) (hr : Rd w A (vI rows)) (hl : rows.length = h) (hn : 1 ≤ n ∧ n ≤ 6) (hh : 1 ≤ h ∧ h ≤ 6) (hm : m < 8) (hg : goesM n h m = true) (hmask : mask < 2 ^ 62) :
    Calls Try.prog 42 #[.agg #[.int .i64 (n : Int), .slice A h c], .int .i64 (mask : Int), .int .i64 (m : Int)] w (Ret w (.tuple #[.int .i64 (turnTo n h m mask (n * h) : Nat), .bool true])) := by
  obtain ⟨hp1, hp2⟩ := pos_ok hn hh hm hg
  have hg2 : m % 2 = 0 ∨ (n : Int) = (h : Int) := by
    unfold goesM at hg
    simp only [Bool.or_eq_true, beq_iff_eq] at hg
    omega
  obtain ⟨N, hN⟩ : ∃ N, n * h = N := ⟨_, rfl⟩
  have h36 : n * h ≤ 6 * 6 := Nat.mul_le_mul hn.2 hh.2
  have hNi : (n : Int) * (h : Int) = (N : Int) := by rw [← hN]; simp
  have HP1 := Lib.hid hp1
  have HP2 := Lib.hid hp2
  have HG := Lib.hid hg2
  have HN := Lib.hid hN
  have hN36 : N ≤ 36 := by omega
  obtain ⟨hn1, hn6⟩ := hn
  obtain ⟨hh1, hh6⟩ := hh
  clear hp1 hp2 hg2 hg hl hN h36
  go_enter Try.func42, Try.ntmps42
  go_wp2
  go_loopw [9, 8] (fun i t wr => ∃ k v : Nat, k ≤ N ∧ i = .int .i64 k ∧ t = .int .i64 v ∧ v = turnTo n h m mask k ∧ Below (w.alloc (.cells #[.int .i64 (n : Int), .slice A h c] 27)).heap.size (w.alloc (.cells #[.int .i64 (n : Int), .slice A h c] 27)) wr) (fun i _ _ => N - (intOf i).toNat)
  case atStart => exact ⟨0, 0, Nat.zero_le _, rfl, rfl, rfl, Below.refl _ _⟩
  case round =>
    obtain ⟨k, v, hk, rfl, rfl, hv, hb⟩ := hrel
    have hB := (Blk.new w 27 #[.int .i64 (n : Int), .slice A h c]).below hb
    have d0 : wr.cell? ⟨w.heap.size, 0, none⟩ = some (.int .i64 (n : Int)) := by simpa using hB.cell 0
    have d1 : wr.cell? ⟨w.heap.size, 1, none⟩ = some (.slice A h c) := by simpa using hB.cell 1
    have hgw := hB.lt
    clear hB
    by_cases hlt : k < N
    · have hk0 : (0 : Int) ≤ (k : Int) := by omega
      have hk1 : (k : Int) < (N : Int) := by omega
      have hkn : k < n * h := by rw [HN.out]; exact hlt
      have hgrid := Lib.hid (grid_ok ⟨hn1, hn6⟩ ⟨hh1, hh6⟩ hkn)
      obtain ⟨xk, hxk⟩ : ∃ xk, k % n = xk := ⟨_, rfl⟩
      obtain ⟨yk, hyk⟩ : ∃ yk, k / n = yk := ⟨_, rfl⟩
      have e1 : (k : Int) % (n : Int) = (xk : Int) := by rw [← hxk]; rfl
      have e2 : (k : Int) / (n : Int) = (yk : Int) := by rw [← hyk]; rfl
      have e3 : (k : Int).tmod (n : Int) = (xk : Int) := by rw [Int.tmod_eq_emod_of_nonneg hk0]; exact e1
      have e4 : (k : Int).tdiv (n : Int) = (yk : Int) := by rw [Int.tdiv_eq_ediv_of_nonneg hk0]; exact e2
      have hyk36 : yk ≤ 36 := by rw [← hyk]; have := Nat.div_le_self k n; omega
      have e5 : IntKind.i64.wrap (yk : Int) = (yk : Int) := Go.IntWalk.i64_in _ (by omega)
      have hn0 : ((n : Int) == 0) = false := beq_eq_false_iff_ne.2 (by omega)
      have hn00 : ¬ (n : Int) = 0 := by omega
      have hgr : Hid (okQ ((n : Int), (h : Int), (xk : Int), (yk : Int))) := by rw [← hxk, ← hyk]; exact hgrid.out
      have hnn : ¬ n = 0 := by omega
      have hxk36 : xk ≤ 36 := by rw [← hxk]; have := Nat.mod_lt k (show 0 < n by omega); omega
      have e6 : IntKind.i64.wrap (xk : Int) = (xk : Int) := Go.IntWalk.i64_in _ (by omega)
      clear hgrid
      have HV := Lib.hid hv
      clear hv hkn
      have hbit : (bits .and .i64 ((mask : Int) / 2 ^ k) 1 == 1) = mask.testBit k := bit_test mask k hmask
      have hpos := pos_int (m := m) hgr.out
      have hposk : pos n h m k = ((carry n h xk yk m).2.2.2 * n + (carry n h xk yk m).2.2.1).toNat := by unfold pos; rw [hxk, hyk]
      have hcs := carry_small hgr.out m
      obtain ⟨⟨a', b', x', y'⟩, hq4⟩ : ∃ q, carry n h xk yk m = q := ⟨_, rfl⟩
      rw [hq4] at hpos hposk hcs
      rw [← hposk] at hpos
      have hjN := HP1.out k (by rw [HN.out]; exact hlt)
      have hturn : turnTo n h m mask (k + 1) = v + (if mask.testBit k then 2 ^ pos n h m k else 0) := by rw [HV.out]; rfl
      have hvlt := (turn_bits (mask := mask) HP2.out HP1.out (by rw [HN.out]; exact hN36) k (by rw [HN.out]; omega)).1
      rw [← HV.out] at hvlt
      rw [HN.out] at hvlt hjN
      generalize pos n h m k = j at hpos hposk hjN hturn
      obtain ⟨z, hz⟩ : ∃ z : Int, y' * (n : Int) = z := ⟨_, rfl⟩
      have hzj : z + x' = (j : Int) := by rw [← hz]; exact hpos
      have h2N : (2 : Nat) ^ N ≤ 2 ^ 36 := Nat.pow_le_pow_right (by decide) hN36
      have h2j : (2 : Nat) ^ j < 2 ^ 36 := Nat.pow_lt_pow_right (by decide) (by omega)
      obtain ⟨t, ht⟩ : ∃ t : Nat, 2 ^ j = t := ⟨_, rfl⟩
      have htI : (2 : Int) ^ j = (t : Int) := by rw [← ht]; simp
      rw [ht] at h2j hturn
      have hj64 : (j : Int) ≤ 64 := by omega
      have hj0 : (0 : Int) ≤ (j : Int) := by omega
      unfold okQ at hcs
      simp only at hcs
      obtain ⟨k1, k2, k3, k4, k5, k6, k7, k8⟩ := hcs
      have hz0 : 0 ≤ z := by rw [← hz]; exact Int.mul_nonneg k7 (by omega)
      have hz36 : 0 ≤ z ∧ z ≤ 36 := by constructor <;> omega
      have HQ4 := Lib.hid hq4
      clear hq4 hposk hpos
      cases hb1 : mask.testBit k with
      | true =>
        rw [hb1] at hbit
        rw [hb1, if_pos rfl] at hturn
        have HT := Lib.hid hturn
        clear hturn hb1
        go_wp2_with fail
        (refine wp_region_below (by kernel_rfl) (by kernel_rfl) ?_; (repeat (first | go_big_quiet_skip | (refine quietV (v := ?_) (by rfl) rfl (fun w' hbw => ?_) ?_; rotate_left; ((try dsimp only at hbw); have hbc := (bcell hbw).1; have hbf := (bcell hbw).2; go_simp; first | done | with_reducible rfl | (exact callsB (v := .tuple #[.int .i64 x', .int .i64 y', .bool true]) (l23Place_q _ _ _ _ m _ hgr.out hm HG.out HQ4.out) hbw)); simp only [List.setIfInBounds_toArray, List.set_cons_zero, List.set_cons_succ]))); refine wpQuiet_nil ?_; intro wq hbq)
        have y0 := keep_below hbq d0
        go_wp2_with fail
        exact ⟨⟨k + 1, v + t, by omega, by go_num, by go_num, HT.out.symm, (by (repeat (first | with_reducible exact Below.refl _ _ | with_reducible assumption | with_reducible apply bel_alloc | with_reducible apply bel_drew | with_reducible apply bel_drewN | ((with_reducible refine bel_set ?_ ?_); rotate_left; (simp <;> omega)) | (with_reducible refine bel_trans ?_ (by with_reducible assumption)))))⟩, by simp [intOf]; omega⟩
      | false =>
        rw [hb1] at hbit
        rw [hb1] at hturn
        have HT := Lib.hid (hturn.trans (Nat.add_zero _))
        clear hturn hb1
        go_wp2_with fail
        (refine wp_region_below (by kernel_rfl) (by kernel_rfl) ?_; (repeat (first | go_big_quiet_skip | (refine quietV (v := ?_) (by rfl) rfl (fun w' hbw => ?_) ?_; rotate_left; ((try dsimp only at hbw); have hbc := (bcell hbw).1; have hbf := (bcell hbw).2; go_simp; first | done | with_reducible rfl | (exact callsB (v := .tuple #[.int .i64 x', .int .i64 y', .bool true]) (l23Place_q _ _ _ _ m _ hgr.out hm HG.out HQ4.out) hbw)); simp only [List.setIfInBounds_toArray, List.set_cons_zero, List.set_cons_succ]))); refine wpQuiet_nil ?_; intro wq hbq)
        go_wp2_with fail
        exact ⟨⟨k + 1, v, by omega, by go_num, rfl, HT.out.symm, (by (repeat (first | with_reducible exact Below.refl _ _ | with_reducible assumption | with_reducible apply bel_alloc | with_reducible apply bel_drew | with_reducible apply bel_drewN | ((with_reducible refine bel_set ?_ ?_); rotate_left; (simp <;> omega)) | (with_reducible refine bel_trans ?_ (by with_reducible assumption)))))⟩, by simp [intOf]; omega⟩
    · have hkN : k = N := by omega
      subst hkN
      have HV : Hid (v = turnTo n h m mask (n * h)) := by rw [HN.out]; exact hv
      have hk1 : ¬ (k : Int) < (k : Int) := by omega
      clear hv
      go_wp2
      go_ret2
      exact ⟨by rw [← HV.out]; rfl, (by (repeat (first | with_reducible exact Below.refl _ _ | with_reducible assumption | with_reducible apply bel_alloc | with_reducible apply bel_drew | with_reducible apply bel_drewN | ((with_reducible refine bel_set ?_ ?_); rotate_left; (simp <;> omega)) | (with_reducible refine bel_trans ?_ (by with_reducible assumption)))))⟩
set_option maxHeartbeats 800000 in
theorem l23Turn_no (n : Nat) (A : Option Addr) (h c : Nat) (mask : Int) (m : Nat) (w : World) (hn : 1 ≤ n ∧ n ≤ 6) (hh : 1 ≤ h ∧ h ≤ 6) (hm : m < 8) (hg : goesM n h m = false) :
    Calls Try.prog 42 #[.agg #[.int .i64 (n : Int), .slice A h c], .int .i64 mask, .int .i64 (m : Int)] w (Ret w (.tuple #[.int .i64 0, .bool false])) := by
  have hg2 : m % 2 = 1 ∧ (n : Int) ≠ (h : Int) := by
    unfold goesM at hg
    simp only [Bool.or_eq_false_iff, beq_eq_false_iff_ne] at hg
    omega
  obtain ⟨N, hN⟩ : ∃ N, n * h = N := ⟨_, rfl⟩
  have hNi : (n : Int) * (h : Int) = (N : Int) := by rw [← hN]; simp
  have hN36 : N ≤ 36 := by have : n * h ≤ 6 * 6 := Nat.mul_le_mul hn.2 hh.2; omega
  have hN1 : (0 : Int) < (N : Int) := by have : 1 * 1 ≤ n * h := Nat.mul_le_mul hn.1 hh.1; omega
  have HG := Lib.hid hg2
  obtain ⟨hn1, hn6⟩ := hn
  obtain ⟨hh1, hh6⟩ := hh
  have hnn : ¬ n = 0 := by omega
  clear hg2 hg hN
  go_enter Try.func42, Try.ntmps42
  go_wp2
  go_loopw [9, 8] (fun i t wr => i = .int .i64 0 ∧ t = .int .i64 0 ∧ Below (w.alloc (.cells #[.int .i64 (n : Int), .slice A h c] 27)).heap.size (w.alloc (.cells #[.int .i64 (n : Int), .slice A h c] 27)) wr) (fun _ _ _ => 0)
  case atStart => exact ⟨rfl, rfl, Below.refl _ _⟩
  case round =>
    obtain ⟨rfl, rfl, hb⟩ := hrel
    have hB := (Blk.new w 27 #[.int .i64 (n : Int), .slice A h c]).below hb
    have d0 : wr.cell? ⟨w.heap.size, 0, none⟩ = some (.int .i64 (n : Int)) := by simpa using hB.cell 0
    have d1 : wr.cell? ⟨w.heap.size, 1, none⟩ = some (.slice A h c) := by simpa using hB.cell 1
    have hgw := hB.lt
    clear hB
    go_wp2_with fail
    (refine wp_region_below (by kernel_rfl) (by kernel_rfl) ?_; (repeat (first | go_big_quiet_skip | (refine quietV (v := ?_) (by rfl) rfl (fun w' hbw => ?_) ?_; rotate_left; ((try dsimp only at hbw); have hbc := (bcell hbw).1; have hbf := (bcell hbw).2; go_simp; first | done | with_reducible rfl | (exact callsB (v := .tuple #[.int .i64 0, .int .i64 0, .bool false]) (l23Place_no _ _ _ _ m _ hm HG.out.1 HG.out.2) hbw)); simp only [List.setIfInBounds_toArray, List.set_cons_zero, List.set_cons_succ]))); refine wpQuiet_nil ?_; intro wq hbq)
    go_wp2_with fail
    go_ret2
    exact ⟨rfl, (by (repeat (first | with_reducible exact Below.refl _ _ | with_reducible assumption | with_reducible apply bel_alloc | with_reducible apply bel_drew | with_reducible apply bel_drewN | ((with_reducible refine bel_set ?_ ?_); rotate_left; (simp <;> omega)) | (with_reducible refine bel_trans ?_ (by with_reducible assumption)))))⟩
end Go.Proofs.Ytcgohceakjjlhaa
