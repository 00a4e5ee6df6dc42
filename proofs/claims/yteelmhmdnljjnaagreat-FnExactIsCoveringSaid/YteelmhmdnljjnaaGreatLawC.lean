/- The laws' own functions on cells and slices of cells: sizes, copying, comparing. -/
import Derived.Test.YteelmhmdnljjnaaGreatMem
import Derived.Outline
import Derived.WalkLawsBesides
import Derived.WalkSpells
import Derived.BigQuiet
import Derived.Deep.QuietTactic
import Derived.Deep.RegionHeld3
import Derived.Deep.DeepCutAuto
import Derived.Deep.CutBlock
import Derived.Deep.DrawnRows
namespace Go.Proofs.YteelmhmdnljjnaaGreat
open Go.RowKit
set_option linter.unusedVariables false
attribute [local go_sem ↓] Go.wp_at_zero Go.wp_at_succ


theorem szCellS_l (A : Option Addr) (n c : Nat) (m : Int) (w : World) (hm : n ≤ maxLen) (h0 : 0 ≤ m) (h1 : m ≤ 1048576) :
    Calls Tryz.prog 38 #[.slice A n c, .int .i64 m] w (Ret w (.int .i64 (if m < (n : Int) then -1 else m - n))) := by
  unfold maxLen at hm
  by_cases h : m < (n : Int)
  · have hlt : m - (n : Int) < 0 := by omega
    go_enter Tryz.func38, Tryz.ntmps38
    go_wp2
    go_ret
    exact ⟨rfl, (by (repeat (first | with_reducible exact Below.refl _ _ | with_reducible assumption | with_reducible apply bel_alloc | with_reducible apply bel_drew | with_reducible apply bel_drewN | ((with_reducible refine bel_set ?_ ?_); rotate_left; (simp <;> omega)) | (with_reducible refine bel_trans ?_ (by with_reducible assumption)))))⟩
  · have hlt : ¬ m - (n : Int) < 0 := by omega
    go_enter Tryz.func38, Tryz.ntmps38
    go_wp2
    go_ret
    exact ⟨rfl, (by (repeat (first | with_reducible exact Below.refl _ _ | with_reducible assumption | with_reducible apply bel_alloc | with_reducible apply bel_drew | with_reducible apply bel_drewN | ((with_reducible refine bel_set ?_ ?_); rotate_left; (simp <;> omega)) | (with_reducible refine bel_trans ?_ (by with_reducible assumption)))))⟩

theorem toCell_l (a b : Int) (w : World) : Calls Tryz.prog 71 #[.agg #[.int .i64 a, .int .i64 b]] w (Ret w (.agg #[.int .i64 a, .int .i64 b])) := by
  go_enter Tryz.func71, Tryz.ntmps71
  go_wp2
  exact bodyPost_ret (v := .agg #[.int .i64 a, .int .i64 b]) (by simp [results, Tryz.results71, go_sem]) rfl ⟨rfl, (by (repeat (first | with_reducible exact Below.refl _ _ | with_reducible assumption | with_reducible apply bel_alloc | with_reducible apply bel_drew | with_reducible apply bel_drewN | ((with_reducible refine bel_set ?_ ?_); rotate_left; (simp <;> omega)) | (with_reducible refine bel_trans ?_ (by with_reducible assumption)))))⟩

theorem toCellS_l (A : Option Addr) (n c : Nat) (xs : List C) (w : World) (hr : Rd w A (vC xs)) (hl : xs.length = n) (hn : n ≤ 1048576) :
    Calls Tryz.prog 44 #[.slice A n c] w (RetS w 71 2 (vC xs)) := by
  have hmk := mk_C w n hn
  go_enter Tryz.func44, Tryz.ntmps44
  go_wp2
  go_loopw [4] (fun i wr => ∃ k : Nat, k ≤ n ∧ i = .int .i64 k ∧ Blk wr w.heap.size 71 (vC (xs.take k ++ List.replicate (xs.length - k) (0, 0))).toArray ∧ Below w.heap.size w wr) (fun i _ => n - (intOf i).toNat)
  case atStart => exact ⟨0, Nat.zero_le _, rfl, by rw [hl]; exact Blk.new _ _ _, (by (repeat (first | with_reducible exact Below.refl _ _ | with_reducible assumption | with_reducible apply bel_alloc | with_reducible apply bel_drew | with_reducible apply bel_drewN | ((with_reducible refine bel_set ?_ ?_); rotate_left; (simp <;> omega)) | (with_reducible refine bel_trans ?_ (by with_reducible assumption)))))⟩
  case round =>
    obtain ⟨k, hk, rfl, hB, hb⟩ := hrel
    clear hmk
    by_cases hlt : k < n
    · have hkx : k < xs.length := by omega
      obtain ⟨g, off, rfl, hgn, c0, c0'⟩ := RdC.at_ hr hkx
      have c1 := keep_below hb c0
      have c2 := keep_below hb c0'
      clear c0 c0'
      have hgl := hB.lt
      have hfl : k < (xs.take k ++ List.replicate (xs.length - k) ((0, 0) : C)).length := by rw [fill_len _ _ _ (by omega)]; omega
      have hst := fill_step xs (0, 0) k hkx
      obtain ⟨⟨a, b⟩, hx⟩ : ∃ p, xs[k] = p := ⟨_, rfl⟩
      rw [hx] at hst c1 c2
      have HST := Lib.hid hst
      have HB := Lib.hid hB
      have HFL := Lib.hid hfl
      clear hst hx hB hfl hl
      go_wp2_with (go_at_call 71; refine (toCell_l _ _ _).mono ?_; rintro e w1 ⟨rfl, hb1⟩; have hB1 := HB.out.below hb1; obtain ⟨d1, d2⟩ := blkC_cell hB1 HFL.out; have f1 := hB1.frozen (k * 2); have f2 := hB1.frozen (k * 2 + 1); have hs := blkC_set hB1 k a b; rw [HST.out] at hs; have HS := Lib.hid hs; clear hB1 hs)
      exact ⟨⟨k + 1, by omega, by go_num, HS.out, (by (repeat (first | with_reducible exact Below.refl _ _ | with_reducible assumption | with_reducible apply bel_alloc | with_reducible apply bel_drew | with_reducible apply bel_drewN | ((with_reducible refine bel_set ?_ ?_); rotate_left; (simp <;> omega)) | (with_reducible refine bel_trans ?_ (by with_reducible assumption)))))⟩, by simp [intOf]; omega⟩
    · have hkk : k = n := by omega
      subst hkk
      have ho := own_blk hB (size := 2) (n := k) (by simp [vC_length, ← hl]) (Nat.le_refl _) (by unfold maxLen; omega)
      rw [← hl, fill_end] at ho
      have HO := Lib.hid ho
      have HL := Lib.hid hl
      clear ho hB hl
      go_wp2
      go_ret
      exact ⟨_, _, _, rfl, by have h := HO.out; rw [HL.out] at h; simpa using h, hb⟩

theorem eqCell_l (a b c d : Int) (r : Bool) (h : r = (a == c && b == d)) (w : World) : Calls Tryz.prog 78 #[.agg #[.int .i64 a, .int .i64 b], .agg #[.int .i64 c, .int .i64 d]] w (Ret w (.bool r)) := by
  by_cases h1 : a = c
  · by_cases h2 : b = d
    · have HV : Hid (r = true) := by rw [h]; simp [h1, h2, Hid]
      clear h
      subst h1 h2
      go_enter Tryz.func78, Tryz.ntmps78
      go_wp2
      go_ret
      exact ⟨by rw [HV.out]; rfl, (by (repeat (first | with_reducible exact Below.refl _ _ | with_reducible assumption | with_reducible apply bel_alloc | with_reducible apply bel_drew | with_reducible apply bel_drewN | ((with_reducible refine bel_set ?_ ?_); rotate_left; (simp <;> omega)) | (with_reducible refine bel_trans ?_ (by with_reducible assumption)))))⟩
    · have HV : Hid (r = false) := by rw [h]; simp [h2, Hid]
      have e2 : (b == d) = false := by simp [h2]
      clear h h2
      subst h1
      go_enter Tryz.func78, Tryz.ntmps78
      go_wp2
      go_ret
      exact ⟨by rw [HV.out]; rfl, (by (repeat (first | with_reducible exact Below.refl _ _ | with_reducible assumption | with_reducible apply bel_alloc | with_reducible apply bel_drew | with_reducible apply bel_drewN | ((with_reducible refine bel_set ?_ ?_); rotate_left; (simp <;> omega)) | (with_reducible refine bel_trans ?_ (by with_reducible assumption)))))⟩
  · have HV : Hid (r = false) := by rw [h]; simp [h1, Hid]
    have e2 : (a == c) = false := by simp [h1]
    clear h h1
    go_enter Tryz.func78, Tryz.ntmps78
    go_wp2
    go_ret
    exact ⟨by rw [HV.out]; rfl, (by (repeat (first | with_reducible exact Below.refl _ _ | with_reducible assumption | with_reducible apply bel_alloc | with_reducible apply bel_drew | with_reducible apply bel_drewN | ((with_reducible refine bel_set ?_ ?_); rotate_left; (simp <;> omega)) | (with_reducible refine bel_trans ?_ (by with_reducible assumption)))))⟩

theorem eqCellS_t (A A2 : Option Addr) (n c n2 c2 : Nat) (xs : List C) (w : World) (hr : Rd w A (vC xs)) (hr2 : Rd w A2 (vC xs)) (hl : xs.length = n) (hl2 : xs.length = n2) (hn : n ≤ 1099511627776) :
    Calls Tryz.prog 49 #[.slice A n c, .slice A2 n2 c2] w (Ret w (.bool true)) := by
  obtain rfl : n = n2 := hl.symm.trans hl2
  have HL := Lib.hid hl
  clear hl hl2
  go_enter Tryz.func49, Tryz.ntmps49
  go_wp2
  go_loopw [5] (fun i wr => ∃ k : Nat, k ≤ n ∧ i = .int .i64 k ∧ Below w.heap.size w wr) (fun i _ => n - (intOf i).toNat)
  case atStart => exact ⟨0, Nat.zero_le _, rfl, Below.refl _ _⟩
  case round =>
    obtain ⟨k, hk, rfl, hb⟩ := hrel
    by_cases hlt : k < n
    · have hkx : k < xs.length := by rw [HL.out]; omega
      obtain ⟨g, off, rfl, hgw, c1, c1'⟩ := RdC.at_ (hr.below hb) hkx
      obtain ⟨g2, off2, rfl, hgw2, d1, d1'⟩ := RdC.at_ (hr2.below hb) hkx
      obtain ⟨⟨a, b⟩, hx⟩ : ∃ p, xs[k] = p := ⟨_, rfl⟩
      rw [hx] at c1 c1' d1 d1'
      have hi0 : (0 : Int) ≤ (k : Int) := by omega
      have hi1 : (k : Int) < (n : Int) := by omega
      have he : true = (a == a && b == b) := by simp
      have HE := Lib.hid he
      clear hx he
      go_wp2_with fail
      go_region_held3 (fun w' => w'.cell? ⟨g, off + k * 2, none⟩ = some (.int .i64 a) ∧ w'.cell? ⟨g, off + k * 2 + 1, none⟩ = some (.int .i64 b) ∧ w'.cell? ⟨g2, off2 + k * 2, none⟩ = some (.int .i64 a) ∧ w'.cell? ⟨g2, off2 + k * 2 + 1, none⟩ = some (.int .i64 b))
        ((go_split_ands; (try dsimp only); (repeat' (with_reducible apply And.intro)) <;> (repeat (first | with_reducible assumption | with_reducible apply keep_alloc | with_reducible apply keep_drew | with_reducible refine keep_below hb1 ?_ | ((with_reducible refine keep_set ?_ ?_); rotate_left; (simp <;> omega)))))) (first | (go_at_call 78; refine (eqCell_l _ _ _ _ _ HE.out _).mono ?_; rintro e w1 ⟨rfl, hb1⟩))
      go_wp2
      exact ⟨⟨k + 1, by omega, by go_num, (by (repeat (first | with_reducible exact Below.refl _ _ | with_reducible assumption | with_reducible apply bel_alloc | with_reducible apply bel_drew | with_reducible apply bel_drewN | ((with_reducible refine bel_set ?_ ?_); rotate_left; (simp <;> omega)) | (with_reducible refine bel_trans ?_ (by with_reducible assumption)))))⟩, by simp [intOf]; omega⟩
    · have hkk : k = n := by omega
      subst hkk
      go_wp2
      go_ret
      exact ⟨rfl, hb⟩
end Go.Proofs.YteelmhmdnljjnaaGreat
