/- Cells moved to their corner: the reference. -/
import Derived.Test.YteelmhmdnljjnaaGreatCellG
import Derived.Test.YteelmhmdnljjnaaGreatMem
import Derived.Test.YteelmhmdnljjnaaGreatQtail
import Derived.Test.YteelmhmdnljjnaaGreatWpC
import Derived.Test.YteelmhmdnljjnaaGreatInsM
import Derived.Outline
import Derived.WalkLawsBesides
import Derived.WalkSpells
import Derived.BigQuiet
import Derived.Deep.QuietTactic
import Derived.Deep.RegionHeld3
import Derived.Deep.RegionWith
import Derived.Deep.DeepCutAuto
import Derived.Deep.CutBlock
import Derived.Deep.DrawnRows
namespace Go.Proofs.YteelmhmdnljjnaaGreat
open Go.RowKit
set_option linter.unusedVariables false
attribute [local go_sem ↓] Go.wp_at_zero Go.wp_at_succ

set_option maxHeartbeats 3200000 in
theorem l2Corner_s (A : Option Addr) (n c : Nat) (xs : List C) (w : World) (hr : Rd w A (vC xs)) (hl : xs.length = n) (hn : n ≤ 1048576) (hs : ∀ d ∈ xs, small d) :
    Calls Tryz.prog 104 #[.slice A n c] w (RetS w 71 2 (vC (cornS xs))) := by
  have hms : 0 < n → (-1000 ≤ minTo (·.1) xs n ∧ minTo (·.1) xs n ≤ 1000) ∧ (-1000 ≤ minTo (·.2) xs n ∧ minTo (·.2) xs n ≤ 1000) := by
    intro h0
    have := minC_small (by omega) hs
    unfold minC at this
    rwa [hl] at this
  have hV : ∀ px py, (n = 0 ∧ px = 0 ∧ py = 0 ∨ 0 < n ∧ px = minTo (·.1) xs n ∧ py = minTo (·.2) xs n) → mv xs (-px) (-py) = cornS xs := by
    intro px py h
    rcases h with ⟨h1, _, _⟩ | ⟨h1, h2, h3⟩
    · rw [List.eq_nil_of_length_eq_zero (hl.trans h1)]; rfl
    · unfold cornS minC; rw [hl, h2, h3]
  have HV := Lib.hid hV
  have HL := Lib.hid hl
  have HS := Lib.hid hs
  have HMS := Lib.hid hms
  have HR := Lib.hid hr
  have hini := own_new w 71 2 0 #[] rfl (by simp [maxLen]) (base := w.heap.size) (Nat.le_refl _)
  have HI0 := Lib.hid hini
  clear hini hl hs hms hr hV
  go_enter Tryz.func104, Tryz.ntmps104
  go_wp2
  go_loopw [4, 5, 6] (fun e4 e5 e6 wr => ∃ (k : Nat) (px py : Int), k ≤ n ∧ e4 = .int .i64 px ∧ e5 = .int .i64 py ∧ e6 = .int .i64 k ∧ (k = 0 ∧ px = 0 ∧ py = 0 ∨ 0 < k ∧ px = minTo (·.1) xs k ∧ py = minTo (·.2) xs k) ∧ Below (w.alloc (.cells #[] 71)).heap.size (w.alloc (.cells #[] 71)) wr) (fun _ _ e6 _ => n - (intOf e6).toNat)
  case atStart => exact ⟨0, 0, 0, Nat.zero_le _, rfl, rfl, rfl, .inl ⟨rfl, rfl, rfl⟩, Below.refl _ _⟩
  case round =>
    obtain ⟨k, px, py, hk, rfl, rfl, rfl, hp, hb⟩ := hrel
    have HP := Lib.hid hp
    clear hp
    have hbw : Below w.heap.size w wr := (by (repeat (first | with_reducible exact Below.refl _ _ | with_reducible assumption | with_reducible apply bel_alloc | with_reducible apply bel_drew | with_reducible apply bel_drewN | ((with_reducible refine bel_set ?_ ?_); rotate_left; (simp <;> omega)) | (with_reducible refine bel_trans ?_ (by with_reducible assumption)))))
    by_cases hlt : k < n
    · have hkl : k < xs.length := by rw [HL.out]; exact hlt
      have hk0 : (0 : Int) ≤ (k : Int) := by omega
      have hk1 : (k : Int) < (n : Int) := by omega
      obtain ⟨g, off, hA, hg, d1, d2⟩ := RdC.at_ (HR.out.below hbw) hkl
      subst hA
      obtain ⟨p, hp⟩ : ∃ p, xs[k].1 = p := ⟨_, rfl⟩
      obtain ⟨q, hq⟩ : ∃ q, xs[k].2 = q := ⟨_, rfl⟩
      rw [hp] at d1
      rw [hq] at d2
      have S1 : Hid (minTo (·.1) xs (k + 1) = if p < minTo (·.1) xs k then p else minTo (·.1) xs k) := by show minTo (·.1) xs (k + 1) = _; rw [minTo, getD_in xs hkl, hp]
      have S2 : Hid (minTo (·.2) xs (k + 1) = if q < minTo (·.2) xs k then q else minTo (·.2) xs k) := by show minTo (·.2) xs (k + 1) = _; rw [minTo, getD_in xs hkl, hq]
      by_cases hz : k = 0
      · have M0 : Hid (minTo (·.1) xs k = p ∧ minTo (·.2) xs k = q) := by
          show _ ∧ _
          subst hz
          exact ⟨by show (xs.getD 0 default).1 = p; rw [getD_in xs hkl, hp], by show (xs.getD 0 default).2 = q; rw [getD_in xs hkl, hq]⟩
        have e0 : ((k : Int) == 0) = true := by simp [hz]
        clear hz hp hq
        have T1 : Hid (minTo (·.1) xs (k + 1) = p) := by show _ = _; rw [S1.out]; rw [show minTo (·.1) xs k = p from M0.out.1]; exact ite_self _
        have T2 : Hid (minTo (·.2) xs (k + 1) = q) := by show _ = _; rw [S2.out]; rw [show minTo (·.2) xs k = q from M0.out.2]; exact ite_self _
        go_wp2_with fail
        exact ⟨⟨k + 1, p, q, by omega, rfl, rfl, by go_num, .inr ⟨by omega, T1.out.symm, T2.out.symm⟩, hb⟩, by simp [intOf]; omega⟩
      · have e0 : ((k : Int) == 0) = false := by simp; omega
        have hkz : ¬ k = 0 := hz
        have hpp : px = minTo (·.1) xs k ∧ py = minTo (·.2) xs k := by
          rcases HP.out with ⟨h1, _, _⟩ | ⟨_, h2, h3⟩
          · exact absurd h1 hz
          · exact ⟨h2, h3⟩
        have HPX := Lib.hid hpp.1
        have HPY := Lib.hid hpp.2
        clear hz hp hq hpp
        by_cases h1 : p < px
        · by_cases h2 : q < py
          · have T1 : Hid (minTo (·.1) xs (k + 1) = p) := by show _ = _; rw [S1.out, ← HPX.out]; exact if_pos h1
            have T2 : Hid (minTo (·.2) xs (k + 1) = q) := by show _ = _; rw [S2.out, ← HPY.out]; exact if_pos h2
            go_wp2_with fail
            exact ⟨⟨k + 1, p, q, by omega, rfl, rfl, by go_num, .inr ⟨by omega, T1.out.symm, T2.out.symm⟩, hb⟩, by simp [intOf]; omega⟩
          · have h2d : decide (q < py) = false := by simp; omega
            have T1 : Hid (minTo (·.1) xs (k + 1) = p) := by show _ = _; rw [S1.out, ← HPX.out]; exact if_pos h1
            have T2 : Hid (minTo (·.2) xs (k + 1) = py) := by show _ = _; rw [S2.out, ← HPY.out]; exact if_neg h2
            go_wp2_with fail
            exact ⟨⟨k + 1, p, py, by omega, rfl, rfl, by go_num, .inr ⟨by omega, T1.out.symm, T2.out.symm⟩, hb⟩, by simp [intOf]; omega⟩
        · have h1d : decide (p < px) = false := by simp; omega
          by_cases h2 : q < py
          · have T1 : Hid (minTo (·.1) xs (k + 1) = px) := by show _ = _; rw [S1.out, ← HPX.out]; exact if_neg h1
            have T2 : Hid (minTo (·.2) xs (k + 1) = q) := by show _ = _; rw [S2.out, ← HPY.out]; exact if_pos h2
            go_wp2_with fail
            exact ⟨⟨k + 1, px, q, by omega, rfl, rfl, by go_num, .inr ⟨by omega, T1.out.symm, T2.out.symm⟩, hb⟩, by simp [intOf]; omega⟩
          · have h2d : decide (q < py) = false := by simp; omega
            have T1 : Hid (minTo (·.1) xs (k + 1) = px) := by show _ = _; rw [S1.out, ← HPX.out]; exact if_neg h1
            have T2 : Hid (minTo (·.2) xs (k + 1) = py) := by show _ = _; rw [S2.out, ← HPY.out]; exact if_neg h2
            go_wp2_with fail
            exact ⟨⟨k + 1, px, py, by omega, rfl, rfl, by go_num, .inr ⟨by omega, T1.out.symm, T2.out.symm⟩, hb⟩, by simp [intOf]; omega⟩
    · obtain rfl : k = n := by omega
      have hk1 : ¬ (k : Int) < (k : Int) := by omega
      have hbnd : -1000 ≤ px ∧ px ≤ 1000 ∧ -1000 ≤ py ∧ py ≤ 1000 := by
        rcases HP.out with ⟨_, h1, h2⟩ | ⟨h0, h1, h2⟩
        · omega
        · have := HMS.out h0
          rw [← h1, ← h2] at this
          omega
      obtain ⟨q1, q2, q3, q4⟩ := hbnd
      have HVV := Lib.hid (HV.out px py HP.out)
      have HO0 := Lib.hid (own_keep HI0.out hb)
      clear hb
      go_wp2_with fail
      go_loopw [7, 3] (fun e7 e3 wr2 => ∃ (j cq : Nat) (D : Option Addr), j ≤ k ∧ e7 = .int .i64 j ∧ e3 = .slice D j cq ∧ wr2.ownsRow w.heap.size 71 2 (.slice D j cq) j (vC (mv (xs.take j) (-px) (-py))) ∧ Below w.heap.size w wr2) (fun e7 _ _ => k - (intOf e7).toNat)
      case atStart => exact ⟨0, 0, _, Nat.zero_le _, rfl, rfl, HO0.out, hbw⟩
      case round =>
        clear hbw
        obtain ⟨j, cq, D, hj, rfl, rfl, hown, hb⟩ := hrel
        by_cases hlt : j < k
        · have hkl : j < xs.length := by rw [HL.out]; exact hlt
          have hj0 : (0 : Int) ≤ (j : Int) := by omega
          have hj1 : (j : Int) < (k : Int) := by omega
          obtain ⟨g, off, hA, hg0, d1, d2⟩ := RdC.at_ HR.out hkl
          subst hA
          have hg : g < wr.heap.size := Nat.lt_of_lt_of_le hg0 hb.size
          replace d1 := (hb.cell (p := ⟨g, off + j * 2, none⟩) hg0).trans d1
          replace d2 := (hb.cell (p := ⟨g, off + j * 2 + 1, none⟩) hg0).trans d2
          have hgD : ¬ (some g = ob D) := fun e => by have := (own_lt hown g e.symm).1; omega
          have hst := mv_take xs (-px) (-py) j hkl
          have hsm := HS.out _ (List.getElem_mem hkl)
          obtain ⟨p, hp⟩ : ∃ p, xs[j].1 = p := ⟨_, rfl⟩
          obtain ⟨q, hq⟩ : ∃ q, xs[j].2 = q := ⟨_, rfl⟩
          unfold small at hsm
          rw [hp, hq] at hsm hst
          rw [hp] at d1
          rw [hq] at d2
          have e1 : IntKind.i64.wrap (p - px) = p - px := Go.IntWalk.i64_in _ (by omega)
          have e2 : IntKind.i64.wrap (q - py) = q - py := Go.IntWalk.i64_in _ (by omega)
          rw [← Int.sub_eq_add_neg, ← Int.sub_eq_add_neg] at hst
          have HST := Lib.hid hst
          have HO := Lib.hid hown
          have hbs := hb.size
          clear hst hown hp hq hsm
          go_wp2_with fail
          (refine wp_region_tailN (C := Gr wr D) 16 (by kernel_rfl) (by kernel_rfl) (Gr.drawn _ _) (fun _ _ h k => h.ext k) ?_; simp only [List.take_succ_cons, List.take_zero, List.drop_succ_cons, List.drop_zero]; (repeat (first | (refine headSkip (by rfl) rfl ?_; simp only [List.setIfInBounds_toArray, List.set_cons_zero, List.set_cons_succ]) | (refine headV (v := ?_) (by rfl) rfl (fun w' hcw => ?_) ?_; rotate_left; ((try dsimp only at hcw); have hbc := hcw.cells; go_simp; first | done | with_reducible rfl | fail); simp only [List.setIfInBounds_toArray, List.set_cons_zero, List.set_cons_succ]))); unfold wpHead)
          (refine tailK (by rfl) (fun w3 hc3 he3 K hK => ?_); go_simp; refine hK _ _ (hc3.ext (by (repeat (first | with_reducible exact Below.refl _ _ | with_reducible assumption | with_reducible apply bel_alloc | with_reducible apply bel_drew | with_reducible apply bel_drewN | ((with_reducible refine bel_set ?_ ?_); rotate_left; (simp <;> omega)) | (with_reducible refine bel_trans ?_ (by with_reducible assumption)))))) ?_; clear hK K)
          (refine tailK (by rfl) (fun w4 hc4 he4 K hK => ?_); refine wpC _ _ _ rfl w.heap.size D j cq (mv (xs.take j) (-px) (-py)) rfl (own_keep ((own_keep HO.out he3).alloc _) he4) _ 1 1 [(p - px, q - py)] rfl (Rd.below (rd_newC _ _ _ _) he4) rfl (by omega) (by have h2 := he3.size; have h3 := he4.size; simp at h3; omega) ?_; intro A2 c2 w5 hown5 hg5 _; refine hK _ _ (Gr.trans hc4 hg5) ?_; clear hK K; simp only [Act.put, List.setIfInBounds_toArray, List.set_cons_zero, List.set_cons_succ])
          (refine tailK (by rfl) (fun w6 hc6 he6 K hK => ?_); go_simp; refine hK _ _ (hc6) ?_; clear hK K)
          (refine fun w7 hc7 he7 => NoPanic.normal ?_)
          have hb5 : Below w.heap.size w w5 := bel_app (bel_trans (bel_alloc (bel_trans hb he3) _) he4) hg5 (fun g' hg' => ((own_lt HO.out) g' hg').1)
          have HO3 := Lib.hid (own_keep (own_keep hown5 he6) he7)
          clear hown5
          go_wp2
          exact ⟨⟨j + 1, c2, A2, by omega, by go_num, rfl, by rw [HST.out]; exact HO3.out, bel_trans (bel_trans hb5 he6) he7⟩, by simp [intOf]; omega⟩
        · obtain rfl : j = k := by omega
          rw [List.take_of_length_le (by rw [HL.out]; omega), HVV.out] at hown
          have HO := Lib.hid hown
          have hj1 : ¬ (j : Int) < (j : Int) := by omega
          clear hown
          go_wp2
          go_ret
          exact ⟨_, _, _, rfl, HO.out, hb⟩
end Go.Proofs.YteelmhmdnljjnaaGreat
