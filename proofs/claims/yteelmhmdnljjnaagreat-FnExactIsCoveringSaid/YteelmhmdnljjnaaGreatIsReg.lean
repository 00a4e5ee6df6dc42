/- Whether a region is right: both sides. -/
import Derived.Test.YteelmhmdnljjnaaGreatRegM
import Derived.Test.YteelmhmdnljjnaaGreatMem
import Derived.Test.YteelmhmdnljjnaaGreatSmall
import Derived.Test.YteelmhmdnljjnaaGreatQreg
import Derived.Outline
import Derived.WalkLawsBesides
import Derived.WalkSpells
import Derived.BigQuiet
import Derived.Deep.QuietTactic
import Derived.Deep.RegionHeld3
import Derived.Deep.RegionWith
import Derived.Deep.DeepCutAuto
import Derived.Deep.CutBlock
import Derived.Deep.DrawnRows
namespace Go.Proofs.YteelmhmdnljjnaaGreat
open Go.RowKit
set_option linter.unusedVariables false
attribute [local go_sem ↓] Go.wp_at_zero Go.wp_at_succ
def vR (W : Int) (A : Option Addr) (n c : Nat) : Value := .agg #[.int .i64 W, .slice A n c]
def sideB (x : Int) : Bool := decide (1 ≤ x) && decide (x ≤ 6)
def okRow (W x : Int) : Bool := decide (0 ≤ x) && decide (x < 2 ^ W.toNat)
theorem isReg_eq (W : Int) (rows : List Int) : isReg W rows = ((sideB W && sideB (rows.length : Int)) && rows.all (okRow W)) := rfl
theorem all_dropI {P : Int → Bool} {F : List Int} {k : Nat} (h : k < F.length) : (F.drop k).all P = (P F[k] && (F.drop (k + 1)).all P) := by
  rw [List.drop_eq_getElem_cons h]
  rfl
theorem isSide_i (x : Int) (w : World) : Calls Tryz.prog 93 #[.int .i64 x] w (Ret w (.bool (sideB x))) := by
  go_enter Tryz.func93, Tryz.ntmps93
  go_wp2_with fail
  refine (between_b _ _ _ _ _ (rfl : sideB x = _)).mono ?_
  rintro e w1 ⟨rfl, hb⟩
  go_wp2_with fail
  go_ret
  exact ⟨rfl, hb⟩
set_option maxHeartbeats 800000 in
theorem IsRegion_i (W : Int) (A : Option Addr) (n c : Nat) (rows : List Int) (w : World) (hr : Rd w A (vI rows)) (hl : rows.length = n) :
    Calls Tryz.prog 72 #[.agg #[.int .i64 W, .slice A n c]] w (Ret w (.bool (isReg W rows))) := by
  have HL := Lib.hid hl
  have hE := isReg_eq W rows
  rw [hl] at hE
  cases h1 : sideB W with
  | false =>
    rw [h1] at hE
    have HV : Hid (isReg W rows = false) := hE
    have H1 := Lib.hid h1
    clear hE h1 hl
    go_enter Tryz.func72, Tryz.ntmps72
    go_wp2_with fail
    refine (isSide_i _ _).mono ?_
    rw [H1.out]
    rintro e w1 ⟨rfl, hb1⟩
    go_wp2_with fail
    go_ret
    exact ⟨by rw [HV.out]; rfl, (by (repeat (first | with_reducible exact Below.refl _ _ | with_reducible assumption | with_reducible apply bel_alloc | with_reducible apply bel_drew | with_reducible apply bel_drewN | ((with_reducible refine bel_set ?_ ?_); rotate_left; (simp <;> omega)) | (with_reducible refine bel_trans ?_ (by with_reducible assumption)))))⟩
  | true =>
    cases h2 : sideB (n : Int) with
    | false =>
      rw [h1, h2] at hE
      have HV : Hid (isReg W rows = false) := hE
      have H1 := Lib.hid h1
      have H2 := Lib.hid h2
      clear hE h1 h2 hl
      go_enter Tryz.func72, Tryz.ntmps72
      go_wp2_with fail
      refine (isSide_i _ _).mono ?_
      rw [H1.out]
      rintro e w1 ⟨rfl, hb1⟩
      have c1 : w1.cell? ⟨w.heap.size, 1, none⟩ = some (.slice A n c) := by simpa using ((Blk.new w 29 #[.int .i64 W, .slice A n c]).below hb1).cell 1
      go_wp2_with fail
      refine (isSide_i _ _).mono ?_
      rw [H2.out]
      rintro e w2 ⟨rfl, hb2⟩
      go_wp2_with fail
      go_ret
      exact ⟨by rw [HV.out]; rfl, (by (repeat (first | with_reducible exact Below.refl _ _ | with_reducible assumption | with_reducible apply bel_alloc | with_reducible apply bel_drew | with_reducible apply bel_drewN | ((with_reducible refine bel_set ?_ ?_); rotate_left; (simp <;> omega)) | (with_reducible refine bel_trans ?_ (by with_reducible assumption)))))⟩
    | true =>
      rw [h1, h2] at hE
      have HV : Hid (isReg W rows = (rows.drop 0).all (okRow W)) := hE
      have H1 := Lib.hid h1
      have H2 := Lib.hid h2
      have hW : 1 ≤ W ∧ W ≤ 6 := by simpa [sideB] using h1
      have hN : 1 ≤ n ∧ n ≤ 6 := by have : 1 ≤ (n : Int) ∧ (n : Int) ≤ 6 := by simpa [sideB] using h2
                                    omega
      obtain ⟨hW1, hW2⟩ := hW
      obtain ⟨hN1, hN2⟩ := hN
      clear hE h1 h2 hl
      go_enter Tryz.func72, Tryz.ntmps72
      go_wp2_with fail
      refine (isSide_i _ _).mono ?_
      rw [H1.out]
      rintro e w1 ⟨rfl, hb1⟩
      have c1 : w1.cell? ⟨w.heap.size, 1, none⟩ = some (.slice A n c) := by simpa using ((Blk.new w 29 #[.int .i64 W, .slice A n c]).below hb1).cell 1
      go_wp2_with fail
      refine (isSide_i _ _).mono ?_
      rw [H2.out]
      rintro e w2 ⟨rfl, hb2⟩
      have hB2 : Blk w2 w.heap.size 29 #[.int .i64 W, .slice A n c] := ((Blk.new w 29 #[.int .i64 W, .slice A n c]).below hb1).below hb2
      have HB2 := Lib.hid hB2
      have hr2 : Rd w2 A (vI rows) := ((hr.alloc _).below hb1).below hb2
      have HR2 := Lib.hid hr2
      have c2 : w2.cell? ⟨w.heap.size, 1, none⟩ = some (.slice A n c) := by simpa using hB2.cell 1
      clear hB2 hr2 c1
      go_wp2_with fail
      go_loopw [19] (fun i wr => ∃ k : Nat, k ≤ n ∧ i = .int .i64 k ∧ (rows.drop 0).all (okRow W) = (rows.drop k).all (okRow W) ∧ Below w2.heap.size w2 wr) (fun i _ => n - (intOf i).toNat)
      case atStart => exact ⟨0, Nat.zero_le _, rfl, rfl, Below.refl _ _⟩
      case round =>
        obtain ⟨k, hk, rfl, hall, hb⟩ := hrel
        clear c2
        by_cases hlt : k < n
        · have hkl : k < rows.length := by rw [HL.out]; exact hlt
          have hk0 : (0 : Int) ≤ (k : Int) := by omega
          have hk1 : (k : Int) < (n : Int) := by omega
          obtain ⟨g, off, rfl, hg, d1⟩ := RdI.at_ (HR2.out.below hb) hkl
          have d2 : wr.cell? ⟨w.heap.size, 0, none⟩ = some (.int .i64 W) := by simpa using (HB2.out.below hb).cell 0
          rw [all_dropI hkl] at hall
          obtain ⟨x, hx⟩ : ∃ x, rows[k] = x := ⟨_, rfl⟩
          rw [hx] at hall d1
          obtain ⟨p, hp⟩ : ∃ p : Int, (2 : Int) ^ W.toNat = p := ⟨_, rfl⟩
          have hp0 : 2 ≤ p ∧ p ≤ 64 := by
            rcases (by omega : W = 1 ∨ W = 2 ∨ W = 3 ∨ W = 4 ∨ W = 5 ∨ W = 6) with rfl | rfl | rfl | rfl | rfl | rfl <;> (simp at hp; omega)
          obtain ⟨hp2, hp64⟩ := hp0
          have hpw : IntKind.i64.wrap p = p := Go.IntWalk.i64_in p (by omega)
          have ho : okRow W x = (decide (0 ≤ x) && decide (x < p)) := by unfold okRow; rw [hp]
          rw [ho] at hall
          clear hx ho
          by_cases hx0 : x < 0
          · rw [show decide (0 ≤ x) = false from by simp; omega, Bool.false_and, Bool.false_and] at hall
            have HF : Hid (isReg W rows = false) := by rw [HV.out, hall]; rfl
            clear hall hp
            go_wp2
            go_ret
            exact ⟨by rw [HF.out]; rfl, (by (repeat (first | with_reducible exact Below.refl _ _ | with_reducible assumption | with_reducible apply bel_alloc | with_reducible apply bel_drew | with_reducible apply bel_drewN | ((with_reducible refine bel_set ?_ ?_); rotate_left; (simp <;> omega)) | (with_reducible refine bel_trans ?_ (by with_reducible assumption)))))⟩
          · by_cases hxp : x < p
            · rw [show decide (0 ≤ x) = true from by simp; omega, show decide (x < p) = true from by simpa using hxp, Bool.true_and, Bool.true_and] at hall
              have HA := Lib.hid hall
              have hge : ¬ (p ≤ x) := by omega
              clear hall
              go_wp2
              exact ⟨⟨k + 1, by omega, by go_num, HA.out, (by (repeat (first | with_reducible exact Below.refl _ _ | with_reducible assumption | with_reducible apply bel_alloc | with_reducible apply bel_drew | with_reducible apply bel_drewN | ((with_reducible refine bel_set ?_ ?_); rotate_left; (simp <;> omega)) | (with_reducible refine bel_trans ?_ (by with_reducible assumption)))))⟩, by simp [intOf]; omega⟩
            · rw [show decide (x < p) = false from by simpa using hxp, Bool.and_false, Bool.false_and] at hall
              have HF : Hid (isReg W rows = false) := by rw [HV.out, hall]; rfl
              have hge : p ≤ x := by omega
              clear hall
              go_wp2
              go_ret
              exact ⟨by rw [HF.out]; rfl, (by (repeat (first | with_reducible exact Below.refl _ _ | with_reducible assumption | with_reducible apply bel_alloc | with_reducible apply bel_drew | with_reducible apply bel_drewN | ((with_reducible refine bel_set ?_ ?_); rotate_left; (simp <;> omega)) | (with_reducible refine bel_trans ?_ (by with_reducible assumption)))))⟩
        · have hkn : k = n := by omega
          subst hkn
          rw [List.drop_of_length_le (l := rows) (i := k) (by rw [HL.out]; omega)] at hall
          have HF : Hid (isReg W rows = true) := by rw [HV.out, hall]; rfl
          have hk1 : ¬ (k : Int) < (k : Int) := by omega
          clear hall
          go_wp2
          go_ret
          exact ⟨by rw [HF.out]; rfl, (by (repeat (first | with_reducible exact Below.refl _ _ | with_reducible assumption | with_reducible apply bel_alloc | with_reducible apply bel_drew | with_reducible apply bel_drewN | ((with_reducible refine bel_set ?_ ?_); rotate_left; (simp <;> omega)) | (with_reducible refine bel_trans ?_ (by with_reducible assumption)))))⟩
set_option maxHeartbeats 800000 in
theorem IsRegion_s (W : Int) (A : Option Addr) (n c : Nat) (rows : List Int) (w : World) (hr : Rd w A (vI rows)) (hl : rows.length = n) :
    Calls Tryz.prog 39 #[.agg #[.int .i64 W, .slice A n c]] w (Ret w (.bool (isReg W rows))) := by
  have HL := Lib.hid hl
  have hE := isReg_eq W rows
  rw [hl] at hE
  cases h1 : sideB W with
  | false =>
    rw [h1] at hE
    have HV : Hid (isReg W rows = false) := hE
    have H1 := Lib.hid h1
    clear hE h1 hl
    go_enter Tryz.func39, Tryz.ntmps39
    go_wp2_with fail
    refine (l1In_b _ _ _ _ _ (rfl : sideB _ = _)).mono ?_
    rw [H1.out]
    rintro e w1 ⟨rfl, hb1⟩
    go_wp2_with fail
    go_ret
    exact ⟨by rw [HV.out]; rfl, (by (repeat (first | with_reducible exact Below.refl _ _ | with_reducible assumption | with_reducible apply bel_alloc | with_reducible apply bel_drew | with_reducible apply bel_drewN | ((with_reducible refine bel_set ?_ ?_); rotate_left; (simp <;> omega)) | (with_reducible refine bel_trans ?_ (by with_reducible assumption)))))⟩
  | true =>
    cases h2 : sideB (n : Int) with
    | false =>
      rw [h1, h2] at hE
      have HV : Hid (isReg W rows = false) := hE
      have H1 := Lib.hid h1
      have H2 := Lib.hid h2
      clear hE h1 h2 hl
      go_enter Tryz.func39, Tryz.ntmps39
      go_wp2_with fail
      refine (l1In_b _ _ _ _ _ (rfl : sideB _ = _)).mono ?_
      rw [H1.out]
      rintro e w1 ⟨rfl, hb1⟩
      have c1 : w1.cell? ⟨w.heap.size, 1, none⟩ = some (.slice A n c) := by simpa using ((Blk.new w 29 #[.int .i64 W, .slice A n c]).below hb1).cell 1
      go_wp2_with fail
      refine (l1In_b _ _ _ _ _ (rfl : sideB _ = _)).mono ?_
      rw [H2.out]
      rintro e w2 ⟨rfl, hb2⟩
      go_wp2_with fail
      go_ret
      exact ⟨by rw [HV.out]; rfl, (by (repeat (first | with_reducible exact Below.refl _ _ | with_reducible assumption | with_reducible apply bel_alloc | with_reducible apply bel_drew | with_reducible apply bel_drewN | ((with_reducible refine bel_set ?_ ?_); rotate_left; (simp <;> omega)) | (with_reducible refine bel_trans ?_ (by with_reducible assumption)))))⟩
    | true =>
      rw [h1, h2] at hE
      have HV : Hid (isReg W rows = (rows.drop 0).all (okRow W)) := hE
      have H1 := Lib.hid h1
      have H2 := Lib.hid h2
      have hW : 1 ≤ W ∧ W ≤ 6 := by simpa [sideB] using h1
      have hN : 1 ≤ n ∧ n ≤ 6 := by have : 1 ≤ (n : Int) ∧ (n : Int) ≤ 6 := by simpa [sideB] using h2
                                    omega
      obtain ⟨hW1, hW2⟩ := hW
      obtain ⟨hN1, hN2⟩ := hN
      clear hE h1 h2 hl
      go_enter Tryz.func39, Tryz.ntmps39
      go_wp2_with fail
      refine (l1In_b _ _ _ _ _ (rfl : sideB _ = _)).mono ?_
      rw [H1.out]
      rintro e w1 ⟨rfl, hb1⟩
      have c1 : w1.cell? ⟨w.heap.size, 1, none⟩ = some (.slice A n c) := by simpa using ((Blk.new w 29 #[.int .i64 W, .slice A n c]).below hb1).cell 1
      go_wp2_with fail
      refine (l1In_b _ _ _ _ _ (rfl : sideB _ = _)).mono ?_
      rw [H2.out]
      rintro e w2 ⟨rfl, hb2⟩
      have hB2 : Blk w2 w.heap.size 29 #[.int .i64 W, .slice A n c] := ((Blk.new w 29 #[.int .i64 W, .slice A n c]).below hb1).below hb2
      have HB2 := Lib.hid hB2
      have hr2 : Rd w2 A (vI rows) := ((hr.alloc _).below hb1).below hb2
      have HR2 := Lib.hid hr2
      have c2 : w2.cell? ⟨w.heap.size, 1, none⟩ = some (.slice A n c) := by simpa using hB2.cell 1
      clear hB2 hr2 c1
      go_wp2_with fail
      go_loopw [3] (fun i wr => ∃ k : Nat, k ≤ n ∧ i = .int .i64 k ∧ (rows.drop 0).all (okRow W) = (rows.drop k).all (okRow W) ∧ Below w2.heap.size w2 wr) (fun i _ => n - (intOf i).toNat)
      case atStart => exact ⟨0, Nat.zero_le _, rfl, rfl, Below.refl _ _⟩
      case round =>
        obtain ⟨k, hk, rfl, hall, hb⟩ := hrel
        clear c2
        have d3 : wr.cell? ⟨w.heap.size, 1, none⟩ = some (.slice A n c) := by simpa using (HB2.out.below hb).cell 1
        have hgw := (HB2.out.below hb).lt
        by_cases hlt : k < n
        · have hkl : k < rows.length := by rw [HL.out]; exact hlt
          have hk0 : (0 : Int) ≤ (k : Int) := by omega
          have hk1 : (k : Int) < (n : Int) := by omega
          obtain ⟨g, off, rfl, hg, d1⟩ := RdI.at_ (HR2.out.below hb) hkl
          have d2 : wr.cell? ⟨w.heap.size, 0, none⟩ = some (.int .i64 W) := by simpa using (HB2.out.below hb).cell 0
          rw [all_dropI hkl] at hall
          obtain ⟨x, hx⟩ : ∃ x, rows[k] = x := ⟨_, rfl⟩
          rw [hx] at hall d1
          obtain ⟨p, hp⟩ : ∃ p : Int, (2 : Int) ^ W.toNat = p := ⟨_, rfl⟩
          have hp0 : 2 ≤ p ∧ p ≤ 64 := by
            rcases (by omega : W = 1 ∨ W = 2 ∨ W = 3 ∨ W = 4 ∨ W = 5 ∨ W = 6) with rfl | rfl | rfl | rfl | rfl | rfl <;> (simp at hp; omega)
          obtain ⟨hp2, hp64⟩ := hp0
          have hpw : IntKind.i64.wrap p = p := Go.IntWalk.i64_in p (by omega)
          have ho : okRow W x = (decide (0 ≤ x) && decide (x < p)) := by unfold okRow; rw [hp]
          rw [ho] at hall
          clear hx ho
          by_cases hx0 : x < 0
          · rw [show decide (0 ≤ x) = false from by simp; omega, Bool.false_and, Bool.false_and] at hall
            have HF : Hid (isReg W rows = false) := by rw [HV.out, hall]; rfl
            have hx0d : decide (x < 0) = true := by simpa using hx0
            clear hall hp hx0
            go_wp2_with fail
            (refine wp_region_below (by kernel_rfl) (by kernel_rfl) ?_; (repeat (first | go_big_quiet_skip | (refine quietV (v := ?_) (by rfl) rfl (fun w' hbw => ?_) ?_; rotate_left; ((try dsimp only at hbw); have hbc := (bcell hbw).1; have hbf := (bcell hbw).2; go_simp; first | done | with_reducible rfl | fail); simp only [List.setIfInBounds_toArray, List.set_cons_zero, List.set_cons_succ]))); refine wpQuiet_nil ?_; intro wq hbq)
            go_wp2_with fail
            go_ret
            exact ⟨by rw [HF.out]; rfl, (by (repeat (first | with_reducible exact Below.refl _ _ | with_reducible assumption | with_reducible apply bel_alloc | with_reducible apply bel_drew | with_reducible apply bel_drewN | ((with_reducible refine bel_set ?_ ?_); rotate_left; (simp <;> omega)) | (with_reducible refine bel_trans ?_ (by with_reducible assumption)))))⟩
          · by_cases hxp : x < p
            · rw [show decide (0 ≤ x) = true from by simp; omega, show decide (x < p) = true from by simpa using hxp, Bool.true_and, Bool.true_and] at hall
              have HA := Lib.hid hall
              have hge : decide (p ≤ x) = false := by simp; omega
              have hx0d : decide (x < 0) = false := by simpa using hx0
              clear hall
              go_wp2_with fail
              (refine wp_region_below (by kernel_rfl) (by kernel_rfl) ?_; (repeat (first | go_big_quiet_skip | (refine quietV (v := ?_) (by rfl) rfl (fun w' hbw => ?_) ?_; rotate_left; ((try dsimp only at hbw); have hbc := (bcell hbw).1; have hbf := (bcell hbw).2; go_simp; first | done | with_reducible rfl | fail); simp only [List.setIfInBounds_toArray, List.set_cons_zero, List.set_cons_succ]))); refine wpQuiet_nil ?_; intro wq hbq)
              go_wp2_with fail
              exact ⟨⟨k + 1, by omega, by go_num, HA.out, (by (repeat (first | with_reducible exact Below.refl _ _ | with_reducible assumption | with_reducible apply bel_alloc | with_reducible apply bel_drew | with_reducible apply bel_drewN | ((with_reducible refine bel_set ?_ ?_); rotate_left; (simp <;> omega)) | (with_reducible refine bel_trans ?_ (by with_reducible assumption)))))⟩, by simp [intOf]; omega⟩
            · rw [show decide (x < p) = false from by simpa using hxp, Bool.and_false, Bool.false_and] at hall
              have HF : Hid (isReg W rows = false) := by rw [HV.out, hall]; rfl
              have hge : decide (p ≤ x) = true := by simp; omega
              have hx0d : decide (x < 0) = false := by simpa using hx0
              clear hall
              go_wp2_with fail
              (refine wp_region_below (by kernel_rfl) (by kernel_rfl) ?_; (repeat (first | go_big_quiet_skip | (refine quietV (v := ?_) (by rfl) rfl (fun w' hbw => ?_) ?_; rotate_left; ((try dsimp only at hbw); have hbc := (bcell hbw).1; have hbf := (bcell hbw).2; go_simp; first | done | with_reducible rfl | fail); simp only [List.setIfInBounds_toArray, List.set_cons_zero, List.set_cons_succ]))); refine wpQuiet_nil ?_; intro wq hbq)
              go_wp2_with fail
              go_ret
              exact ⟨by rw [HF.out]; rfl, (by (repeat (first | with_reducible exact Below.refl _ _ | with_reducible assumption | with_reducible apply bel_alloc | with_reducible apply bel_drew | with_reducible apply bel_drewN | ((with_reducible refine bel_set ?_ ?_); rotate_left; (simp <;> omega)) | (with_reducible refine bel_trans ?_ (by with_reducible assumption)))))⟩
        · have hkn : k = n := by omega
          subst hkn
          rw [List.drop_of_length_le (l := rows) (i := k) (by rw [HL.out]; omega)] at hall
          have HF : Hid (isReg W rows = true) := by rw [HV.out, hall]; rfl
          have hk1 : ¬ (k : Int) < (k : Int) := by omega
          clear hall
          go_wp2
          go_ret
          exact ⟨by rw [HF.out]; rfl, (by (repeat (first | with_reducible exact Below.refl _ _ | with_reducible assumption | with_reducible apply bel_alloc | with_reducible apply bel_drew | with_reducible apply bel_drewN | ((with_reducible refine bel_set ?_ ?_); rotate_left; (simp <;> omega)) | (with_reducible refine bel_trans ?_ (by with_reducible assumption)))))⟩
end Go.Proofs.YteelmhmdnljjnaaGreat
