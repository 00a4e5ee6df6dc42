/- The laws' own functions on slices of slices of integers: comparing, marking. -/
import Derived.Test.YtemmbpmgfjodnaaRowsO
import Derived.Test.YtemmbpmgfjodnaaQreg
import Derived.Test.YtemmbpmgfjodnaaLawI
import Derived.Outline
import Derived.WalkLawsBesides
import Derived.WalkSpells
import Derived.BigQuiet
import Derived.Deep.QuietTactic
import Derived.Deep.RegionHeld3
import Derived.Deep.RegionWith
import Derived.Deep.DeepCutAuto
import Derived.Deep.CutBlock
import Derived.Deep.DrawnRows
namespace Go.Proofs.Ytemmbpmgfjodnaa
open Go.RowKit
set_option linter.unusedVariables false
attribute [local go_sem ↓] Go.wp_at_zero Go.wp_at_succ

theorem eqIntSS_t (b1 b2 : Nat) (A A2 : Option Addr) (n c n2 c2 : Nat) (hs hs2 : List H) (F : List (List Int)) (w : World) (h : Own2 b1 w A n c hs F) (h2 : Own2 b2 w A2 n2 c2 hs2 F) (hn : n ≤ 1099511627776) (hm : total F ≤ 1099511627776) :
    Calls Try.prog 50 #[.slice A n c, .slice A2 n2 c2] w (Ret w (.bool true)) := by
  obtain rfl : n2 = n := by rw [← h2.flen, h.flen]
  have H1 := Lib.hid h
  have H2 := Lib.hid h2
  clear h h2
  go_enter Try.func50, Try.ntmps50
  go_wp2
  go_loopw [5] (fun i wr => ∃ j : Nat, j ≤ n2 ∧ i = .int .i64 j ∧ Below w.heap.size w wr) (fun i _ => n2 - (intOf i).toNat)
  case atStart => exact ⟨0, Nat.zero_le _, rfl, Below.refl _ _⟩
  case round =>
    obtain ⟨j, hj, rfl, hb⟩ := hrel
    by_cases hlt : j < n2
    · have hj0 : (0 : Int) ≤ (j : Int) := by omega
      have hj1 : (j : Int) < (n2 : Int) := by omega
      have a1 : j < hs.length := by rw [H1.out.hlen]; exact hlt
      have a2 : j < hs2.length := by rw [H2.out.hlen]; exact hlt
      have a3 : j < F.length := by rw [H1.out.flen]; exact hlt
      obtain ⟨g, off, rfl, hg, d1⟩ := (H1.out.below hb).at_ a1
      obtain ⟨g2, off2, rfl, hg2, d2⟩ := (H2.out.below hb).at_ a2
      have r1 := (H1.out.below hb).rd a1 a3
      have r2 := (H2.out.below hb).rd a2 a3
      have l1 := H1.out.rlen a1 a3
      have l2 := H2.out.rlen a2 a3
      have l3 := total_take F j a3
      have l4 := total_le F (j + 1)
      obtain ⟨⟨B1, m1, k1⟩, e1⟩ : ∃ x, hs[j] = x := ⟨_, rfl⟩
      obtain ⟨⟨B2, m2, k2⟩, e2⟩ : ∃ x, hs2[j] = x := ⟨_, rfl⟩
      obtain ⟨f, e3⟩ : ∃ x, F[j] = x := ⟨_, rfl⟩
      rw [e1] at d1 r1 l1
      rw [e2] at d2 r2 l2
      rw [e3] at r1 r2 l1 l2 l3
      have hmf : m1 ≤ 1099511627776 := by dsimp only at l1; omega
      have L1 := Lib.hid l1
      have L2 := Lib.hid l2
      have R1 := Lib.hid r1
      have R2 := Lib.hid r2
      dsimp only at d1 d2
      clear e1 e2 e3 l1 l2 l3 l4 r1 r2
      go_wp2_with fail
      (refine wp_region_below (by kernel_rfl) (by kernel_rfl) ?_; (repeat (first | go_big_quiet_skip | (refine quietV (v := ?_) (by rfl) rfl (fun w' hbw => ?_) ?_; rotate_left; ((try dsimp only at hbw); have hbc := (bcell hbw).1; have hbf := (bcell hbw).2; go_simp; first | done | with_reducible rfl | exact callsBB (eqIntS_t _ _ _ _ _ _ f _ (R1.out.below hbw) (R2.out.below hbw) L1.out L2.out hmf) rfl hbw); simp only [List.setIfInBounds_toArray, List.set_cons_zero, List.set_cons_succ]))); refine wpQuiet_nil ?_; intro wq hbq)
      go_wp2_with fail
      exact ⟨⟨j + 1, by omega, by go_num, (by (repeat (first | with_reducible exact Below.refl _ _ | with_reducible assumption | with_reducible apply bel_alloc | with_reducible apply bel_drew | with_reducible apply bel_drewN | ((with_reducible refine bel_set ?_ ?_); rotate_left; (simp <;> omega)) | (with_reducible refine bel_trans ?_ (by with_reducible assumption)))))⟩, by simp [intOf]; omega⟩
    · have hj1 : ¬ (j : Int) < (n2 : Int) := by omega
      go_wp2
      go_ret
      exact ⟨rfl, hb⟩

/-- What marking does: the numbers from k on, row by row. -/
def MarkSS (base : Nat) (w : World) (B : Option Addr) (n c : Nat) (hs : List H) (F : List (List Int)) (r : Int) (e : Ending) (w' : World) : Prop :=
  e = .returned (.int .i64 r) ∧ Own2 base w' B n c hs F ∧ Below base w w'
theorem markIntSS_l (base : Nat) (A : Option Addr) (n c : Nat) (k : Int) (hs : List H) (F : List (List Int)) (w : World) (h : Own2 base w A n c hs F) (hbs : base ≤ w.heap.size) (hn : n ≤ 1099511627776) (hm : total F ≤ 1048576) (hk0 : 0 ≤ k) (hk1 : k ≤ 1048576) :
    Calls Try.prog 51 #[.slice A n c, .int .i64 k] w (MarkSS base w A n c hs (markF k F) (k + total F)) := by
  have hfl := h.flen
  have hhl := h.hlen
  have HF := Lib.hid hfl
  have HH := Lib.hid hhl
  have H1 := Lib.hid h
  clear h hfl hhl
  go_enter Try.func51, Try.ntmps51
  go_wp2
  go_loopw [1, 5] (fun t i wr => ∃ (j : Nat) (t' : Int), j ≤ n ∧ i = .int .i64 j ∧ t = .int .i64 t' ∧ t' = k + total (F.take j) ∧ Own2 base wr A n c hs (markF k (F.take j) ++ F.drop j) ∧ Below base w wr) (fun _ i _ => n - (intOf i).toNat)
  case atStart => exact ⟨0, k, Nat.zero_le _, rfl, rfl, by simp [total], by simpa [markF] using H1.out, Below.refl _ _⟩
  case round =>
    clear H1
    obtain ⟨j, t', hj, rfl, rfl, ht, hO, hb⟩ := hrel
    by_cases hlt : j < n
    · have hj0 : (0 : Int) ≤ (j : Int) := by omega
      have hj1 : (j : Int) < (n : Int) := by omega
      have a1 : j < hs.length := by rw [HH.out]; exact hlt
      have a3 : j < F.length := by rw [HF.out]; exact hlt
      have a4 : j < (markF k (F.take j) ++ F.drop j).length := by rw [List.length_append, markF_len, List.length_take, List.length_drop]; omega
      obtain ⟨g, off, rfl, hg, d1⟩ := hO.at_ a1
      have r1 := hO.row j a1 a4
      have l1 := hO.rlen a1 a4
      have l3 := total_take F j a3
      have l4 := total_le F (j + 1)
      have l5 := markF_step k F j a3
      have e4 : (markF k (F.take j) ++ F.drop j)[j]'a4 = F[j] := by
        have hl : (markF k (F.take j)).length = j := by rw [markF_len, List.length_take]; omega
        rw [List.getElem_append_right (by omega)]
        simp [hl]
      rw [e4] at r1 l1
      rw [l1, ← ht] at l5
      rw [l1] at l3
      have P1 : ∀ (w' : World) f, w'.ownsRow base 3 1 (.slice hs[j].1 hs[j].2.1 hs[j].2.2) hs[j].2.1 (vI f) → wr.grownBy w' (ob hs[j].1) → Own2 base w' (some ⟨g, off, none⟩) n c hs ((markF k (F.take j) ++ F.drop j).set j f) := fun w' f => hO.put a1 f
      have P2 : ∀ g, ob hs[j].1 = some g → base ≤ g := fun g e => (own_lt r1 g e).1
      obtain ⟨⟨B1, m1, k1⟩, e1⟩ : ∃ x, hs[j] = x := ⟨_, rfl⟩
      rw [e1] at d1 r1 l3 l5 P1 P2
      dsimp only at d1 r1 l3 l5 P1 P2
      have ht0 : (0 : Int) ≤ t' := by omega
      have ht1 : t' ≤ 1099511627776 := by omega
      have hm1 : m1 ≤ 1099511627776 := by omega
      have ht2 : t' + (m1 : Int) = k + total (F.take (j + 1)) := by rw [ht, l3]; omega
      have HP1 := Lib.hid P1
      have HP2 := Lib.hid P2
      have R1 := Lib.hid r1
      have L5 := Lib.hid l5
      have T2 := Lib.hid ht2
      have HO := Lib.hid hO
      clear e1 e4 l1 l3 l4 l5 r1 hO ht P1 P2 ht2
      go_wp2_with fail
      refine (markIntS_l _ _ _ base t' _ _ R1.out hm1 ht0 ht1).mono ?_
      rintro e w1 ⟨rfl, o1, g1⟩
      have ht3 : (0 : Int) ≤ t' + (m1 : Int) := by omega
      have HO2 := Lib.hid (HP1.out _ _ o1 g1)
      have hb2 : Below base w w1 := hb.grown g1 (Nat.le_trans hbs hb.size) HP2.out
      clear o1 g1
      go_wp2_with fail
      exact ⟨⟨j + 1, t' + (m1 : Int), by omega, by go_num, rfl, T2.out, by rw [← L5.out]; exact HO2.out, hb2⟩, by simp [intOf]; omega⟩
    · have hj1 : ¬ (j : Int) < (n : Int) := by omega
      have hjn : j = n := by omega
      subst hjn
      rw [List.take_of_length_le (by rw [HF.out]; omega)] at hO ht
      rw [List.drop_of_length_le (by rw [HF.out]; omega), List.append_nil] at hO
      have HO := Lib.hid hO
      have HT := Lib.hid ht
      clear hO ht
      go_wp2
      go_ret
      exact ⟨by rw [HT.out]; rfl, HO.out, hb⟩

theorem heldIntSS_l (base : Nat) (A : Option Addr) (n c : Nat) (k : Int) (hs : List H) (F : List (List Int)) (w : World) (h : Own2 base w A n c hs (markF k F)) (hn : n ≤ 1099511627776) (hm : total F ≤ 1048576) (hk0 : 0 ≤ k) (hk1 : k ≤ 1048576) :
    Calls Try.prog 52 #[.slice A n c, .int .i64 k] w (Ret w (.int .i64 (k + total F))) := by
  have hfl : F.length = n := by rw [← markF_len k F]; exact h.flen
  have hhl := h.hlen
  have HF := Lib.hid hfl
  have HH := Lib.hid hhl
  have H1 := Lib.hid h
  clear h hfl hhl
  go_enter Try.func52, Try.ntmps52
  go_wp2
  go_loopw [1, 5] (fun t i wr => ∃ (j : Nat) (t' : Int), j ≤ n ∧ i = .int .i64 j ∧ t = .int .i64 t' ∧ t' = k + total (F.take j) ∧ Below w.heap.size w wr) (fun _ i _ => n - (intOf i).toNat)
  case atStart => exact ⟨0, k, Nat.zero_le _, rfl, rfl, by simp [total], Below.refl _ _⟩
  case round =>
    obtain ⟨j, t', hj, rfl, rfl, ht, hb⟩ := hrel
    by_cases hlt : j < n
    · have hj0 : (0 : Int) ≤ (j : Int) := by omega
      have hj1 : (j : Int) < (n : Int) := by omega
      have a1 : j < hs.length := by rw [HH.out]; exact hlt
      have a3 : j < F.length := by rw [HF.out]; exact hlt
      have a4 : j < (markF k F).length := by rw [markF_len]; exact a3
      have hO := H1.out.below hb
      obtain ⟨g, off, rfl, hg, d1⟩ := hO.at_ a1
      have r1 := hO.rd a1 a4
      have l1 := hO.rlen a1 a4
      have l3 := total_take F j a3
      have l4 := total_le F (j + 1)
      rw [markF_get k F j a3] at r1 l1
      rw [io_length] at l1
      rw [l1] at l3 r1
      rw [← ht] at r1
      obtain ⟨⟨B1, m1, k1⟩, e1⟩ : ∃ x, hs[j] = x := ⟨_, rfl⟩
      rw [e1] at d1 r1 l3
      dsimp only at d1 r1 l3
      have ht0 : (0 : Int) ≤ t' := by omega
      have ht1 : t' ≤ 1099511627776 := by omega
      have hm1 : m1 ≤ 1099511627776 := by omega
      have ht2 : t' + (m1 : Int) = k + total (F.take (j + 1)) := by rw [ht, l3]; omega
      have R1 := Lib.hid r1
      have T2 := Lib.hid ht2
      clear e1 l1 l3 l4 r1 hO ht ht2
      go_wp2_with fail
      refine (heldIntS_l _ _ _ t' _ R1.out hm1 ht0 ht1).mono ?_
      rintro e w1 ⟨rfl, hb1⟩
      have ht3 : ¬ t' + (m1 : Int) < 0 := by omega
      go_wp2_with fail
      exact ⟨⟨j + 1, t' + (m1 : Int), by omega, by go_num, rfl, T2.out, bel_trans hb hb1⟩, by simp [intOf]; omega⟩
    · have hj1 : ¬ (j : Int) < (n : Int) := by omega
      have hjn : j = n := by omega
      subst hjn
      rw [List.take_of_length_le (by rw [HF.out]; omega)] at ht
      have HT := Lib.hid ht
      clear ht
      go_wp2
      go_ret
      exact ⟨by rw [HT.out]; rfl, hb⟩
end Go.Proofs.Ytemmbpmgfjodnaa
