/- Pieces: whether they are some, their area. -/
import Derived.Test.YteelmhmdnljjnaaGreatLawP
import Derived.Test.YteelmhmdnljjnaaGreatShpS
import Derived.Test.YteelmhmdnljjnaaGreatSmall
import Derived.Test.YteelmhmdnljjnaaGreatConnM
import Derived.Outline
import Derived.WalkLawsBesides
import Derived.WalkSpells
import Derived.BigQuiet
import Derived.Deep.QuietTactic
import Derived.Deep.RegionHeld3
import Derived.Deep.RegionWith
import Derived.Deep.DeepCutAuto
import Derived.Deep.CutBlock
import Derived.Deep.DrawnRows
namespace Go.Proofs.YteelmhmdnljjnaaGreat
open Go.RowKit
set_option linter.unusedVariables false
attribute [local go_sem ↓] Go.wp_at_zero Go.wp_at_succ
def pcs (F : List (List C)) : Bool := F.all isShape && (decide (1 ≤ (F.length : Int)) && decide ((F.length : Int) ≤ 5))
def paV (F : List (List C)) : Int := if pcs F then (totC F : Nat) else 0
theorem all_drop {F : List (List C)} {k : Nat} {f : List C} (h : F[k]? = some f) : (F.drop k).all isShape = (isShape f && (F.drop (k + 1)).all isShape) := by
  obtain ⟨hk, rfl⟩ := List.getElem?_eq_some_iff.1 h
  rw [List.drop_eq_getElem_cons hk]
  rfl
theorem pcs_small {F : List (List C)} (h : pcs F = true) : F.length ≤ 5 ∧ totC F ≤ 40 := by
  unfold pcs at h
  simp only [Bool.and_eq_true, decide_eq_true_eq, List.all_eq_true] at h
  obtain ⟨h1, h2, h3⟩ := h
  have key : ∀ G : List (List C), (∀ f ∈ G, isShape f = true) → totC G ≤ 8 * G.length := by
    intro G
    induction G with
    | nil => intro _; simp [totC]
    | cons f t ih =>
      intro hG
      have a := (shape_len (hG f (by simp))).2
      have b := ih (fun g hg => hG g (by simp [hg]))
      simp only [totC, List.map_cons, List.sum_cons, List.length_cons] at b ⊢
      omega
  have := key F h1
  omega
theorem ArePieces_i (A : Option Addr) (n c : Nat) (hs : List H) (F : List (List C)) (w : World) (h : RdP w A n hs F) (hn : n ≤ 1048576) (hm : totC F ≤ 1048576) :
    Calls Tryz.prog 73 #[.slice A n c] w (Ret w (.bool (pcs F))) := by
  have HP := Lib.hid h
  have HV : Hid (pcs F = ((F.drop 0).all isShape && (decide (1 ≤ (n : Int)) && decide ((n : Int) ≤ 5)))) := by show pcs F = _; unfold pcs; rw [h.flen]; rfl
  clear h
  go_enter Tryz.func73, Tryz.ntmps73
  go_wp2
  go_loopw [7] (fun i wr => ∃ k : Nat, k ≤ n ∧ i = .int .i64 k ∧ (F.drop 0).all isShape = (F.drop k).all isShape ∧ Below w.heap.size w wr) (fun i _ => n - (intOf i).toNat)
  case atStart => exact ⟨0, Nat.zero_le _, rfl, rfl, Below.refl _ _⟩
  case round =>
    obtain ⟨k, hk, rfl, hall, hb⟩ := hrel
    by_cases hlt : k < n
    · have hk0 : (0 : Int) ≤ (k : Int) := by omega
      have hk1 : (k : Int) < (n : Int) := by omega
      obtain ⟨x, f, g, off, _, hfx, rfl, hg, d1, l1, r1⟩ := (HP.out.below hb).at_ hlt
      have hmf := totC_row F hfx
      rw [all_drop hfx] at hall
      obtain ⟨B1, m1, k1⟩ := x
      dsimp only at d1 l1 r1
      have hm1 : m1 ≤ 1099511627776 := by omega
      have L1 := Lib.hid l1
      have R1 := Lib.hid r1
      clear l1 r1 hfx hmf
      cases hsf : isShape f with
      | true =>
        rw [hsf, Bool.true_and] at hall
        have HA := Lib.hid hall
        have HS := Lib.hid hsf
        clear hall hsf
        go_wp2_with fail
        refine (IsShape_i _ _ _ f _ R1.out L1.out hm1).mono ?_
        rw [HS.out]
        rintro e w1 ⟨rfl, hb1⟩
        go_wp2_with fail
        exact ⟨⟨k + 1, by omega, by go_num, HA.out, (by (repeat (first | with_reducible exact Below.refl _ _ | with_reducible assumption | with_reducible apply bel_alloc | with_reducible apply bel_drew | with_reducible apply bel_drewN | ((with_reducible refine bel_set ?_ ?_); rotate_left; (simp <;> omega)) | (with_reducible refine bel_trans ?_ (by with_reducible assumption)))))⟩, by simp [intOf]; omega⟩
      | false =>
        rw [hsf, Bool.false_and] at hall
        have HA : Hid (pcs F = false) := by rw [HV.out, hall]; rfl
        have HS := Lib.hid hsf
        clear hall hsf
        go_wp2_with fail
        refine (IsShape_i _ _ _ f _ R1.out L1.out hm1).mono ?_
        rw [HS.out]
        rintro e w1 ⟨rfl, hb1⟩
        go_wp2_with fail
        go_ret
        exact ⟨by rw [HA.out]; rfl, (by (repeat (first | with_reducible exact Below.refl _ _ | with_reducible assumption | with_reducible apply bel_alloc | with_reducible apply bel_drew | with_reducible apply bel_drewN | ((with_reducible refine bel_set ?_ ?_); rotate_left; (simp <;> omega)) | (with_reducible refine bel_trans ?_ (by with_reducible assumption)))))⟩
    · have hkn : k = n := by omega
      subst hkn
      rw [List.drop_of_length_le (l := F) (i := k) (by rw [HP.out.flen]; omega)] at hall
      have HA : Hid (pcs F = (decide (1 ≤ (k : Int)) && decide ((k : Int) ≤ 5))) := by rw [HV.out, hall]; rfl
      have hk1 : ¬ (k : Int) < (k : Int) := by omega
      clear hall
      go_wp2_with fail
      refine (between_b _ _ _ _ _ HA.out).mono ?_
      rintro e w1 ⟨rfl, hb1⟩
      go_wp2_with fail
      go_ret
      exact ⟨rfl, bel_trans hb hb1⟩
theorem ArePieces_s (A : Option Addr) (n c : Nat) (hs : List H) (F : List (List C)) (w : World) (h : RdP w A n hs F) (hn : n ≤ 1048576) (hm : totC F ≤ 1048576) :
    Calls Tryz.prog 40 #[.slice A n c] w (Ret w (.bool (pcs F))) := by
  have HP := Lib.hid h
  have HV : Hid (pcs F = ((F.drop 0).all isShape && (decide (1 ≤ (n : Int)) && decide ((n : Int) ≤ 5)))) := by show pcs F = _; unfold pcs; rw [h.flen]; rfl
  clear h
  go_enter Tryz.func40, Tryz.ntmps40
  go_wp2
  go_loopw [3] (fun i wr => ∃ k : Nat, k ≤ n ∧ i = .int .i64 k ∧ (F.drop 0).all isShape = (F.drop k).all isShape ∧ Below w.heap.size w wr) (fun i _ => n - (intOf i).toNat)
  case atStart => exact ⟨0, Nat.zero_le _, rfl, rfl, Below.refl _ _⟩
  case round =>
    obtain ⟨k, hk, rfl, hall, hb⟩ := hrel
    by_cases hlt : k < n
    · have hk0 : (0 : Int) ≤ (k : Int) := by omega
      have hk1 : (k : Int) < (n : Int) := by omega
      obtain ⟨x, f, g, off, _, hfx, rfl, hg, d1, l1, r1⟩ := (HP.out.below hb).at_ hlt
      have hmf := totC_row F hfx
      rw [all_drop hfx] at hall
      obtain ⟨B1, m1, k1⟩ := x
      dsimp only at d1 l1 r1
      have hm1 : m1 ≤ 1099511627776 := by omega
      have L1 := Lib.hid l1
      have R1 := Lib.hid r1
      clear l1 r1 hfx hmf
      cases hsf : isShape f with
      | true =>
        rw [hsf, Bool.true_and] at hall
        have HA := Lib.hid hall
        have HS := Lib.hid hsf
        clear hall hsf
        go_wp2_with fail
        refine (IsShape_s _ _ _ f _ R1.out L1.out hm1).mono ?_
        rw [HS.out]
        rintro e w1 ⟨rfl, hb1⟩
        go_wp2_with fail
        exact ⟨⟨k + 1, by omega, by go_num, HA.out, (by (repeat (first | with_reducible exact Below.refl _ _ | with_reducible assumption | with_reducible apply bel_alloc | with_reducible apply bel_drew | with_reducible apply bel_drewN | ((with_reducible refine bel_set ?_ ?_); rotate_left; (simp <;> omega)) | (with_reducible refine bel_trans ?_ (by with_reducible assumption)))))⟩, by simp [intOf]; omega⟩
      | false =>
        rw [hsf, Bool.false_and] at hall
        have HA : Hid (pcs F = false) := by rw [HV.out, hall]; rfl
        have HS := Lib.hid hsf
        clear hall hsf
        go_wp2_with fail
        refine (IsShape_s _ _ _ f _ R1.out L1.out hm1).mono ?_
        rw [HS.out]
        rintro e w1 ⟨rfl, hb1⟩
        go_wp2_with fail
        go_ret
        exact ⟨by rw [HA.out]; rfl, (by (repeat (first | with_reducible exact Below.refl _ _ | with_reducible assumption | with_reducible apply bel_alloc | with_reducible apply bel_drew | with_reducible apply bel_drewN | ((with_reducible refine bel_set ?_ ?_); rotate_left; (simp <;> omega)) | (with_reducible refine bel_trans ?_ (by with_reducible assumption)))))⟩
    · have hkn : k = n := by omega
      subst hkn
      rw [List.drop_of_length_le (l := F) (i := k) (by rw [HP.out.flen]; omega)] at hall
      have HA : Hid (pcs F = (decide (1 ≤ (k : Int)) && decide ((k : Int) ≤ 5))) := by rw [HV.out, hall]; rfl
      have hk1 : ¬ (k : Int) < (k : Int) := by omega
      clear hall
      go_wp2_with fail
      refine (l1In_b _ _ _ _ _ HA.out).mono ?_
      rintro e w1 ⟨rfl, hb1⟩
      go_wp2_with fail
      go_ret
      exact ⟨rfl, bel_trans hb hb1⟩
theorem area_i (A : Option Addr) (n c : Nat) (hs : List H) (F : List (List C)) (w : World) (h : RdP w A n hs F) (hn : n ≤ 5) (hm : totC F ≤ 40) :
    Calls Tryz.prog 86 #[.slice A n c] w (Ret w (.int .i64 (totC F : Nat))) := by
  have HP := Lib.hid h
  clear h
  go_enter Tryz.func86, Tryz.ntmps86
  go_wp2
  go_loopw [8, 3] (fun i t wr => ∃ k q : Nat, k ≤ n ∧ i = .int .i64 k ∧ t = .int .i64 q ∧ q = totC (F.take k) ∧ q ≤ 40 ∧ Below w.heap.size w wr) (fun i _ _ => n - (intOf i).toNat)
  case atStart => exact ⟨0, 0, Nat.zero_le _, rfl, rfl, rfl, Nat.zero_le _, Below.refl _ _⟩
  case round =>
    obtain ⟨k, q, hk, rfl, rfl, hq, hq40, hb⟩ := hrel
    by_cases hlt : k < n
    · have hk0 : (0 : Int) ≤ (k : Int) := by omega
      have hk1 : (k : Int) < (n : Int) := by omega
      obtain ⟨x, f, g, off, _, hfx, rfl, hg, d1, l1, r1⟩ := (HP.out.below hb).at_ hlt
      have ht : totC (F.take (k + 1)) = totC (F.take k) + f.length := by
        obtain ⟨hk2, rfl⟩ := List.getElem?_eq_some_iff.1 hfx
        exact totC_take F k hk2
      have hle := totC_le F (k + 1)
      obtain ⟨B1, m1, k1⟩ := x
      dsimp only at d1 l1 r1
      have hN : q + m1 = totC (F.take (k + 1)) := by rw [ht, ← hq, l1]
      have hq2 : q + m1 ≤ 40 := by omega
      have HN := Lib.hid hN
      clear hN ht hle hq l1 r1 hfx
      go_wp2
      exact ⟨⟨k + 1, q + m1, by omega, by go_num, by go_num, HN.out, hq2, hb⟩, by simp [intOf]; omega⟩
    · have hkn : k = n := by omega
      subst hkn
      rw [List.take_of_length_le (by rw [HP.out.flen]; omega)] at hq
      have HQ := Lib.hid hq
      have hk1 : ¬ (k : Int) < (k : Int) := by omega
      clear hq
      go_wp2
      go_ret
      exact ⟨by rw [← HQ.out]; rfl, hb⟩
end Go.Proofs.YteelmhmdnljjnaaGreat
