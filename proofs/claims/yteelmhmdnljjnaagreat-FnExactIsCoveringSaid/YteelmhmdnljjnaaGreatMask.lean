/- The mask of a region: both sides. -/
import Derived.Test.YteelmhmdnljjnaaGreatIsReg
import Derived.Outline
import Derived.WalkLawsBesides
import Derived.WalkSpells
import Derived.BigQuiet
import Derived.Deep.QuietTactic
import Derived.Deep.RegionHeld3
import Derived.Deep.RegionWith
import Derived.Deep.DeepCutAuto
import Derived.Deep.CutBlock
import Derived.Deep.DrawnRows
namespace Go.Proofs.YteelmhmdnljjnaaGreat
open Go.RowKit
set_option linter.unusedVariables false
attribute [local go_sem ↓] Go.wp_at_zero Go.wp_at_succ
def maskV (W : Int) (rows : List Int) : Nat := if isReg W rows then mkTo W.toNat rows rows.length else 0
/-- One row more of a mask: the numbers that the walk meets. -/
theorem mask_step {m : Nat} {rows : List Int} (hm : m ≤ 6) (h6 : rows.length ≤ 6) (h : ∀ k (hk : k < rows.length), ∃ q : Nat, rows[k] = (q : Int) ∧ q < 2 ^ m) {k : Nat} (hk : k < rows.length) :
    ∃ q s t v : Nat, rows[k] = (q : Int) ∧ (k : Int) * (m : Int) = (s : Int) ∧ s ≤ 36 ∧ (q : Int) * 2 ^ s = (t : Int) ∧ t < 2 ^ 36 ∧ v = mkTo m rows (k + 1) ∧ v < 2 ^ 36 ∧ mkTo m rows k + t = v ∧ bits .or .i64 (mkTo m rows k : Nat) (t : Int) = (v : Int) := by
  obtain ⟨q, hq, hlt⟩ := h k hk
  have h1 := mkTo_lt h k (by omega)
  have h2 := mkTo_lt h (k + 1) (by omega)
  have h3 : (k + 1) * m ≤ 6 * 6 := Nat.mul_le_mul (by omega) hm
  have h4 : 2 ^ ((k + 1) * m) ≤ 2 ^ 36 := Nat.pow_le_pow_right (by decide) h3
  have e : mkTo m rows (k + 1) = mkTo m rows k + q * 2 ^ (k * m) := by
    show mkTo m rows k + (rows.getD k 0).toNat * 2 ^ (k * m) = _
    rw [List.getD_eq_getElem?_getD, List.getElem?_eq_getElem hk, Option.getD_some, hq]
    rfl
  have h5 : k * m ≤ 36 := by rw [Nat.succ_mul] at h3; omega
  refine ⟨q, k * m, q * 2 ^ (k * m), mkTo m rows (k + 1), hq, by simp, h5, by simp, by omega, rfl, by omega, e.symm, ?_⟩
  rw [i64_or _ _ (by omega) (by omega), or_high h1, e]
theorem wrapN {v : Nat} (h : v < 2 ^ 36) : IntKind.i64.wrap (v : Int) = (v : Int) := Go.IntWalk.i64_in _ (by omega)
set_option maxHeartbeats 800000 in
theorem mask_i (W : Int) (A : Option Addr) (n c : Nat) (rows : List Int) (w : World) (hr : Rd w A (vI rows)) (hl : rows.length = n) (hv : isReg W rows = true) :
    Calls Tryz.prog 48 #[.agg #[.int .i64 W, .slice A n c]] w (Ret w (.int .i64 (maskV W rows : Nat))) := by
  obtain ⟨m, rfl, hm1, hm6, hn1, hn6, hrow⟩ := isReg_yes hv
  have HV : Hid (maskV (m : Int) rows = mkTo m rows rows.length) := by show maskV _ rows = _; unfold maskV; rw [if_pos hv]; rfl
  have HL := Lib.hid hl
  have HROW := Lib.hid hrow
  rw [hl] at hn6 hn1
  clear hv hl hrow
  go_enter Tryz.func48, Tryz.ntmps48
  go_wp2
  go_loopw [9, 3] (fun i t wr => ∃ k v : Nat, k ≤ n ∧ i = .int .i64 k ∧ t = .int .i64 v ∧ v = mkTo m rows k ∧ Below (w.alloc (.cells #[.int .i64 (m : Int), .slice A n c] 29)).heap.size (w.alloc (.cells #[.int .i64 (m : Int), .slice A n c] 29)) wr) (fun i _ _ => n - (intOf i).toNat)
  case atStart => exact ⟨0, 0, Nat.zero_le _, rfl, rfl, rfl, Below.refl _ _⟩
  case round =>
    obtain ⟨k, v, hk, rfl, rfl, hv, hb⟩ := hrel
    by_cases hlt : k < n
    · have hkl : k < rows.length := by rw [HL.out]; exact hlt
      have hk0 : (0 : Int) ≤ (k : Int) := by omega
      have hk1 : (k : Int) < (n : Int) := by omega
      have hB := (Blk.new w 29 #[.int .i64 (m : Int), .slice A n c]).below hb
      have d0 : wr.cell? ⟨w.heap.size, 0, none⟩ = some (.int .i64 (m : Int)) := by simpa using hB.cell 0
      have hgw := hB.lt
      obtain ⟨g, off, rfl, hg, d1⟩ := RdI.at_ ((hr.alloc _).below hb) hkl
      obtain ⟨q, s, t, v', e1, e2, e3, e4, e5, e6, e7, e8, e9⟩ := mask_step hm6 (by rw [HL.out]; exact hn6) HROW.out hkl
      rw [e1] at d1
      rw [← hv] at e8 e9
      have HE := Lib.hid e6
      have s0 : (0 : Int) ≤ (s : Int) := by omega
      have s1 : (s : Int) ≤ 64 := by omega
      have w1 := wrapN e5
      clear e1 e6 hv hB
      go_wp2
      exact ⟨⟨k + 1, v', by omega, by go_num, rfl, HE.out, hb⟩, by simp [intOf]; omega⟩
    · have hkn : k = n := by omega
      subst hkn
      rw [← HL.out] at hv
      have HE := Lib.hid hv
      have hk1 : ¬ (k : Int) < (k : Int) := by omega
      clear hv
      go_wp2
      go_ret
      exact ⟨by rw [HV.out, ← HE.out]; rfl, (by (repeat (first | with_reducible exact Below.refl _ _ | with_reducible assumption | with_reducible apply bel_alloc | with_reducible apply bel_drew | with_reducible apply bel_drewN | ((with_reducible refine bel_set ?_ ?_); rotate_left; (simp <;> omega)) | (with_reducible refine bel_trans ?_ (by with_reducible assumption)))))⟩
set_option maxHeartbeats 1600000 in
theorem MaskOf_s (W : Int) (A : Option Addr) (n c : Nat) (rows : List Int) (w : World) (hr : Rd w A (vI rows)) (hl : rows.length = n) :
    Calls Tryz.prog 43 #[.agg #[.int .i64 W, .slice A n c]] w (Ret w (.int .i64 (maskV W rows : Nat))) := by
  cases hv : isReg W rows with
  | false =>
    have HV : Hid (maskV W rows = 0) := by show maskV _ rows = _; unfold maskV; rw [hv]; rfl
    have HL := Lib.hid hl
    have HF := Lib.hid hv
    clear hv hl
    go_enter Tryz.func43, Tryz.ntmps43
    go_wp2_with fail
    go_loopw [4, 3] (fun i t wr => i = .int .i64 0 ∧ t = .int .i64 0 ∧ Below (w.alloc (.cells #[.int .i64 W, .slice A n c] 29)).heap.size (w.alloc (.cells #[.int .i64 W, .slice A n c] 29)) wr) (fun _ _ _ => 0)
    case atStart => exact ⟨rfl, rfl, Below.refl _ _⟩
    case round =>
      obtain ⟨rfl, rfl, hb⟩ := hrel
      have hB := (Blk.new w 29 #[.int .i64 W, .slice A n c]).below hb
      have d0 : wr.cell? ⟨w.heap.size, 0, none⟩ = some (.int .i64 W) := by simpa using hB.cell 0
      have d1 : wr.cell? ⟨w.heap.size, 1, none⟩ = some (.slice A n c) := by simpa using hB.cell 1
      have hrw := Lib.hid ((hr.alloc _).below hb)
      clear hB
      by_cases hn : n = 0
      · have hn1 : ¬ (0 : Int) < (n : Int) := by omega
        go_wp2_with fail
        go_ret
        exact ⟨by rw [HV.out]; rfl, (by (repeat (first | with_reducible exact Below.refl _ _ | with_reducible assumption | with_reducible apply bel_alloc | with_reducible apply bel_drew | with_reducible apply bel_drewN | ((with_reducible refine bel_set ?_ ?_); rotate_left; (simp <;> omega)) | (with_reducible refine bel_trans ?_ (by with_reducible assumption)))))⟩
      · have hn1 : (0 : Int) < (n : Int) := by omega
        go_wp2_with fail
        refine (IsRegion_s _ _ _ _ rows _ hrw.out HL.out).mono ?_
        rw [HF.out]
        rintro e w1 ⟨rfl, hb1⟩
        go_wp2_with fail
        go_ret
        exact ⟨by rw [HV.out]; rfl, (by (repeat (first | with_reducible exact Below.refl _ _ | with_reducible assumption | with_reducible apply bel_alloc | with_reducible apply bel_drew | with_reducible apply bel_drewN | ((with_reducible refine bel_set ?_ ?_); rotate_left; (simp <;> omega)) | (with_reducible refine bel_trans ?_ (by with_reducible assumption)))))⟩
  | true =>
    have HT := Lib.hid hv
    obtain ⟨m, rfl, hm1, hm6, hn1, hn6, hrow⟩ := isReg_yes hv
    have HV : Hid (maskV (m : Int) rows = mkTo m rows rows.length) := by show maskV _ rows = _; unfold maskV; rw [if_pos hv]; rfl
    have HL := Lib.hid hl
    have HROW := Lib.hid hrow
    rw [hl] at hn6 hn1
    clear hv hl hrow
    go_enter Tryz.func43, Tryz.ntmps43
    go_wp2
    go_loopw [4, 3] (fun i t wr => ∃ k v : Nat, k ≤ n ∧ i = .int .i64 k ∧ t = .int .i64 v ∧ v = mkTo m rows k ∧ Below (w.alloc (.cells #[.int .i64 (m : Int), .slice A n c] 29)).heap.size (w.alloc (.cells #[.int .i64 (m : Int), .slice A n c] 29)) wr) (fun i _ _ => n - (intOf i).toNat)
    case atStart => exact ⟨0, 0, Nat.zero_le _, rfl, rfl, rfl, Below.refl _ _⟩
    case round =>
      obtain ⟨k, v, hk, rfl, rfl, hv, hb⟩ := hrel
      have hB := (Blk.new w 29 #[.int .i64 (m : Int), .slice A n c]).below hb
      have d0 : wr.cell? ⟨w.heap.size, 0, none⟩ = some (.int .i64 (m : Int)) := by simpa using hB.cell 0
      have d1' : wr.cell? ⟨w.heap.size, 1, none⟩ = some (.slice A n c) := by simpa using hB.cell 1
      have hgw := hB.lt
      have hrw := (hr.alloc _).below hb
      clear hB
      by_cases hlt : k < n
      · have hkl : k < rows.length := by rw [HL.out]; exact hlt
        have hk0 : (0 : Int) ≤ (k : Int) := by omega
        have hk1 : (k : Int) < (n : Int) := by omega
        have HRW := Lib.hid hrw
        obtain ⟨g, off, hA, hg, d1⟩ := RdI.at_ hrw hkl
        subst hA
        obtain ⟨q, s, t, v', e1, e2, e3, e4, e5, e6, e7, e8, e9⟩ := mask_step hm6 (by rw [HL.out]; exact hn6) HROW.out hkl
        rw [e1] at d1
        rw [← hv] at e8
        have HE := Lib.hid e6
        have s0 : (0 : Int) ≤ (s : Int) := by omega
        have s1 : (s : Int) ≤ 64 := by omega
        have w1 := wrapN e5
        have w2 := wrapN e7
        have w3 : IntKind.i64.wrap (s : Int) = (s : Int) := Go.IntWalk.i64_in _ (by omega)
        have e10 : (v : Int) + (t : Int) = (v' : Int) := by omega
        clear e1 e6 hv e9 e8 hrw
        go_wp2_with fail
        refine (IsRegion_s _ _ _ _ rows _ HRW.out HL.out).mono ?_
        rw [HT.out]
        rintro e w4 ⟨rfl, hb4⟩
        have y0 := keep_below hb4 d0
        have y1 := keep_below hb4 d1'
        have y2 := keep_below hb4 d1
        have hgw4 : w.heap.size < w4.heap.size := Nat.lt_of_lt_of_le hgw hb4.size
        have hg4 : g < w4.heap.size := Nat.lt_of_lt_of_le hg hb4.size
        go_wp2_with fail
        (refine wp_region_below (by kernel_rfl) (by kernel_rfl) ?_; (repeat (first | go_big_quiet_skip | (refine quietV (v := ?_) (by rfl) rfl (fun w' hbw => ?_) ?_; rotate_left; ((try dsimp only at hbw); have hbc := (bcell hbw).1; have hbf := (bcell hbw).2; go_simp; first | done | with_reducible rfl | fail); simp only [List.setIfInBounds_toArray, List.set_cons_zero, List.set_cons_succ]))); refine wpQuiet_nil ?_; intro wq hbq)
        go_wp2_with fail
        exact ⟨⟨k + 1, v', by omega, by go_num, rfl, HE.out, (by (repeat (first | with_reducible exact Below.refl _ _ | with_reducible assumption | with_reducible apply bel_alloc | with_reducible apply bel_drew | with_reducible apply bel_drewN | ((with_reducible refine bel_set ?_ ?_); rotate_left; (simp <;> omega)) | (with_reducible refine bel_trans ?_ (by with_reducible assumption)))))⟩, by simp [intOf]; omega⟩
      · have hkn : k = n := by omega
        subst hkn
        rw [← HL.out] at hv
        have HE := Lib.hid hv
        have hk1 : ¬ (k : Int) < (k : Int) := by omega
        clear hv hrw
        go_wp2
        go_ret
        exact ⟨by rw [HV.out, ← HE.out]; rfl, (by (repeat (first | with_reducible exact Below.refl _ _ | with_reducible assumption | with_reducible apply bel_alloc | with_reducible apply bel_drew | with_reducible apply bel_drewN | ((with_reducible refine bel_set ?_ ?_); rotate_left; (simp <;> omega)) | (with_reducible refine bel_trans ?_ (by with_reducible assumption)))))⟩
end Go.Proofs.YteelmhmdnljjnaaGreat
