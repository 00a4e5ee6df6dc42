/- Texts of this claim, one behind the other: part 5. -/
import Derived.Test.YtoedmmhiinhljaaGreatDoorU4CountOrbits
import Derived.Outline
import Derived.WalkLawsBesides
import Derived.WalkSpells
import Derived.BigQuiet
import Derived.Deep.QuietTactic
import Derived.Deep.RegionHeld3
import Derived.Deep.RegionWith
import Derived.Deep.DeepCutAuto
import Derived.Deep.CutBlock
import Derived.Deep.DrawnRows
/- Cells put in order: the reference. -/
namespace Go.Proofs.YtoedmmhiinhljaaGreatDoor
open Go.RowKit
set_option linter.unusedVariables false
attribute [local go_sem ↓] Go.wp_at_zero Go.wp_at_succ

def offC (c k : Nat) : Nat := if c = k then 0 else k * 2
theorem run_uptoC (w : World) (g m c k : Nat) (hk : k ≤ c) : (Instr.slice 51 (.slice (some ⟨g, 0, none⟩) m c) none (some (.int .i64 (k : Int))) none).run Tryz.prog w = .ok (.slice (some ⟨g, 0, none⟩) k c) w := by
  have h2 : (k : Int) ≤ (c : Int) := by omega
  simp [go_sem, h2]
theorem run_fromC (w : World) (g m c k : Nat) (hk : k ≤ m) : (Instr.slice 51 (.slice (some ⟨g, 0, none⟩) m c) (some (.int .i64 (k : Int))) none none).run Tryz.prog w = .ok (.slice (some ⟨g, offC c k, none⟩) (m - k) (c - k)) w := by
  have h1 : (0 : Int) ≤ (k : Int) := by omega
  have h2 : (k : Int) ≤ (m : Int) := by omega
  unfold offC
  by_cases hc : c = k
  · subst hc
    simp [go_sem, h2]
  · simp [go_sem, h2, hc]
theorem Rd.fromC {w : World} {g c k m : Nat} {l : List C} (h : Rd w (some ⟨g, 0, none⟩) (vC l)) (hl : l.length = m) (hmc : m ≤ c) : Rd w (some ⟨g, offC c k, none⟩) (vC (l.drop k)) := by
  rcases h with h | ⟨g', off, he, h⟩
  · have : l = [] := by
      have := congrArg List.length h
      rw [vC_length] at this
      exact List.eq_nil_of_length_eq_zero (by simp at this; omega)
    subst this
    simp [Rd, vC]
  · injection he with he
    injection he with h1 h2 h3
    subst h1 h2
    unfold offC
    split
    · next e =>
      have : l.drop k = [] := List.drop_of_length_le (by omega)
      rw [this]
      exact .inl rfl
    · refine .inr ⟨g, k * 2, rfl, fun j u hu => ?_⟩
      rw [vC_drop, List.getElem?_drop] at hu
      have := h _ _ hu
      simpa using this
theorem take_fold {α β : Type} (f : β → α → β) (b : β) (xs : List α) (k : Nat) (hk : k < xs.length) : (xs.take (k + 1)).foldl f b = f ((xs.take k).foldl f b) xs[k] := by
  rw [List.take_succ_eq_append_getElem hk, List.foldl_append]
  rfl
set_option maxRecDepth 100000 in
set_option maxHeartbeats 3200000 in
theorem SortCells_s (A : Option Addr) (n c : Nat) (xs : List C) (w : World) (hr : Rd w A (vC xs)) (hl : xs.length = n) (hn : n ≤ 1048576) :
    Calls Tryz.prog 115 #[.slice A n c] w (RetS w 66 2 (vC (sortC xs))) := by
  have HL := Lib.hid hl
  have HR := Lib.hid hr
  have hini := own_new w 66 2 0 #[] rfl (by simp [maxLen]) (base := w.heap.size) (Nat.le_refl _)
  have HI0 := Lib.hid hini
  clear hl hr hini
  go_enter Tryz.func115, Tryz.ntmps115
  go_wp2
  go_loopw [4, 3] (fun e4 e3 wr => ∃ (i g m cp : Nat), i ≤ n ∧ m ≤ i ∧ e4 = .int .i64 i ∧ e3 = .slice (some ⟨g, 0, none⟩) m cp ∧ wr.ownsRow w.heap.size 66 2 (.slice (some ⟨g, 0, none⟩) m cp) m (vC ((xs.take i).foldl (putG befC) [])) ∧ Below w.heap.size w wr) (fun e4 _ _ => n - (intOf e4).toNat)
  case atStart => exact ⟨0, _, 0, 0, Nat.zero_le _, Nat.zero_le _, rfl, by simp, HI0.out, (by (repeat (first | with_reducible exact Below.refl _ _ | with_reducible assumption | with_reducible apply bel_alloc | with_reducible apply bel_drew | with_reducible apply bel_drewN | ((with_reducible refine bel_set ?_ ?_); rotate_left; (simp <;> omega)) | (with_reducible refine bel_trans ?_ (by with_reducible assumption)))))⟩
  case round =>
    obtain ⟨i, g, m, cp, hi, hmn, rfl, rfl, hown, hb⟩ := hrel
    by_cases hlt : i < n
    · have hil : i < xs.length := by rw [HL.out]; exact hlt
      have hi0 : (0 : Int) ≤ (i : Int) := by omega
      have hi1 : (i : Int) < (n : Int) := by omega
      have hst := take_fold (putG befC) [] xs i hil
      obtain ⟨l, hle⟩ : ∃ l, (xs.take i).foldl (putG befC) [] = l := ⟨_, rfl⟩
      rw [hle] at hst hown
      obtain ⟨gx, ox, rfl, hgx, a1, a2⟩ := RdC.at_ (HR.out.below hb) hil
      obtain ⟨x, hx⟩ : ∃ x, xs[i].1 = x := ⟨_, rfl⟩
      obtain ⟨y, hy⟩ : ∃ y, xs[i].2 = y := ⟨_, rfl⟩
      have hxy : xs[i] = (x, y) := Prod.ext hx hy
      rw [hx] at a1
      rw [hy] at a2
      rw [hxy] at hst
      have hlm : l.length = m := by have := own_len hown; rw [vC_length] at this; omega
      have hmc : m ≤ cp ∧ cp ≤ 9223372036854775807 := by
        rcases hown.2 with ⟨h, _⟩ | ⟨g', cap, cur, hv, _, _, h1, h2, _⟩
        · cases h
        · injection hv with _ _ h3
          unfold maxLen at h2
          omega
      obtain ⟨hmc1, hmc2⟩ := hmc
      have hlr := Rd.of_own hown
      have hgl := (own_lt hown g rfl).2
      have HLM := Lib.hid hlm
      have HO := Lib.hid hown
      have HLR0 := Lib.hid hlr
      have hcm : cutG befC l (x, y) l.length = cutG befC l (x, y) m := by rw [hlm]
      have HIN : Hid (∀ k', cutG befC l (x, y) m = k' → ¬ (0 < k' ∧ l.getD (k' - 1) default = (x, y)) → putG befC l (x, y) = l.take k' ++ [(x, y)] ++ l.drop k') := fun k' h1 h2 => putG_new (hcm.trans h1) h2
      have HSM : Hid (∀ k', cutG befC l (x, y) m = k' → 0 < k' → l.getD (k' - 1) default = (x, y) → putG befC l (x, y) = l) := fun k' h1 h2 h3 => putG_same (hcm.trans h1) h2 h3
      have HST := Lib.hid hst
      have HBW := Lib.hid hb
      have HBZ := Lib.hid hb.size
      clear hlm hown hlr hcm hst hle hx hy hxy hb
      go_wp2
      go_loopw [5] (fun e5 wr2 => ∃ k : Nat, k ≤ m ∧ e5 = .int .i64 k ∧ cutG befC l (x, y) m = cutG befC l (x, y) k ∧ Below wr.heap.size wr wr2) (fun e5 _ => (intOf e5).toNat)
      case atStart => exact ⟨m, Nat.le_refl _, rfl, rfl, Below.refl _ _⟩
      case round =>
        obtain ⟨k, hk, rfl, hcut, hb2⟩ := hrel
        have HLR := Lib.hid (HLR0.out.below hb2)
        have f1 : wr.cell? ⟨gx, ox + i * 2, none⟩ = some (.int .i64 x) := (hb2.cell hgx).trans a1
        have f2 : wr.cell? ⟨gx, ox + i * 2 + 1, none⟩ = some (.int .i64 y) := (hb2.cell hgx).trans a2
        have HCUT := Lib.hid hcut
        have hgx2 : gx < wr.heap.size := Nat.lt_of_lt_of_le hgx hb2.size
        have hgl2 : g < wr.heap.size := Nat.lt_of_lt_of_le hgl hb2.size
        have HB := Lib.hid (bel_trans HBW.out hb2)
        have HBS : Hid (w.heap.size ≤ wr.heap.size) := (HB.out).size
        have hbs2 := HBS.out
        clear a1 a2 hcut
        by_cases hk0 : 0 < k
        · obtain ⟨j, hjk⟩ : ∃ j, k = j + 1 := ⟨k - 1, by omega⟩
          have hjl : j < l.length := by rw [HLM.out]; omega
          obtain ⟨g', off, he, _, b1, b2⟩ := RdC.at_ HLR.out hjl
          simp only [Option.some.injEq, Addr.mk.injEq, and_true] at he
          obtain ⟨rfl, rfl⟩ := he
          rw [Nat.zero_add] at b1 b2
          have hgd : l.getD j default = l[j] := by rw [List.getD_eq_getElem?_getD, List.getElem?_eq_getElem hjl]; rfl
          obtain ⟨p, hp⟩ : ∃ p, l[j].1 = p := ⟨_, rfl⟩
          obtain ⟨q, hq⟩ : ∃ q, l[j].2 = q := ⟨_, rfl⟩
          have hpq : l[j] = (p, q) := Prod.ext hp hq
          rw [hp] at b1
          rw [hq] at b2
          rw [hpq] at hgd
          have HG := Lib.hid hgd
          have hj1 : (k : Int) - 1 = (j : Int) := by omega
          have hj0 : (0 : Int) ≤ (j : Int) := by omega
          have hjw : IntKind.i64.wrap (j : Int) = (j : Int) := Go.IntWalk.i64_in _ (by omega)
          have hjm : (j : Int) < (m : Int) := by omega
          have hkp : (k : Int) > 0 := by omega
          have HJ := Lib.hid hjk
          have HK0 := Lib.hid hk0
          clear hgd hp hq hpq hjk
          cases hbf : befC (x, y) (p, q) with
          | true =>
            have HN : Hid (cutG befC l (x, y) m = cutG befC l (x, y) j) := by show _ = _; rw [HCUT.out, HJ.out]; show (if befC (x, y) (l.getD j default) = true then _ else _) = _; rw [HG.out, if_pos hbf]
            have HBF := Lib.hid hbf
            clear hbf
            go_wp2_with fail
            (refine wp_region_below (by kernel_rfl) (by kernel_rfl) ?_; (repeat (first | go_big_quiet_skip | (refine quietV (v := ?_) (by rfl) rfl (fun w' hbw => ?_) ?_; rotate_left; ((try dsimp only at hbw); have hbc := (bcell hbw).1; have hbf := (bcell hbw).2; go_simp; first | done | with_reducible rfl | exact callsBB (l2Before_s x y p q _) HBF.out hbw); simp only [List.setIfInBounds_toArray, List.set_cons_zero, List.set_cons_succ]))); refine wpQuiet_nil ?_; intro wq hbq)
            go_wp2_with fail
            exact ⟨⟨j, by omega, rfl, HN.out, bel_trans hb2 hbq⟩, by simp [intOf]; have := HJ.out; omega⟩
          | false =>
            have HN : Hid (cutG befC l (x, y) m = k) := by show _ = _; rw [HCUT.out, HJ.out]; show (if befC (x, y) (l.getD j default) = true then _ else _) = _; rw [HG.out, if_neg (by rw [hbf]; simp)]
            have HBF := Lib.hid hbf
            clear hbf
            by_cases hsame : p = x ∧ q = y
            · obtain ⟨rfl, rfl⟩ := hsame
              have HV := Lib.hid (HSM.out k HN.out HK0.out (by rw [show k - 1 = j from by have := HJ.out; omega]; exact HG.out))
              go_wp2_with fail
              (refine wp_region_below (by kernel_rfl) (by kernel_rfl) ?_; (repeat (first | go_big_quiet_skip | (refine quietV (v := ?_) (by rfl) rfl (fun w' hbw => ?_) ?_; rotate_left; ((try dsimp only at hbw); have hbc := (bcell hbw).1; have hbf := (bcell hbw).2; go_simp; first | done | with_reducible rfl | exact callsBB (l2Before_s p q p q _) HBF.out hbw); simp only [List.setIfInBounds_toArray, List.set_cons_zero, List.set_cons_succ]))); refine wpQuiet_nil ?_; intro wq hbq)
              have c1 : wq.cell? ⟨gx, ox + i * 2, none⟩ = some (.int .i64 p) := (hbq.cell hgx2).trans f1
              have c2 : wq.cell? ⟨gx, ox + i * 2 + 1, none⟩ = some (.int .i64 q) := (hbq.cell hgx2).trans f2
              have c3 : wq.cell? ⟨g, j * 2, none⟩ = some (.int .i64 p) := (hbq.cell hgl2).trans b1
              have c4 : wq.cell? ⟨g, j * 2 + 1, none⟩ = some (.int .i64 q) := (hbq.cell hgl2).trans b2
              have hgxq : gx < wq.heap.size := Nat.lt_of_lt_of_le hgx2 hbq.size
              have hglq : g < wq.heap.size := Nat.lt_of_lt_of_le hgl2 hbq.size
              clear f1 f2 b1 b2
              go_wp2_with fail
              (refine wp_region_below (by kernel_rfl) (by kernel_rfl) ?_; (repeat (first | go_big_quiet_skip | (refine quietV (v := ?_) (by rfl) rfl (fun w' hbw => ?_) ?_; rotate_left; ((try dsimp only at hbw); have hbc := (bcell hbw).1; have hbf := (bcell hbw).2; go_simp; first | done | with_reducible rfl | fail); simp only [List.setIfInBounds_toArray, List.set_cons_zero, List.set_cons_succ]))); refine wpQuiet_nil ?_; intro wz hbz)
              go_wp2_with fail
              exact ⟨⟨i + 1, g, m, cp, by omega, by omega, by go_num, rfl, by rw [HST.out, HV.out]; exact own_keep (own_keep (own_keep HO.out hb2) hbq) hbz, bel_trans (bel_trans HB.out hbq) hbz⟩, by simp [intOf]; omega⟩
            · have HV := Lib.hid (HIN.out k HN.out (fun h => hsame (by have := h.2; rw [show k - 1 = j from by have := HJ.out; omega, HG.out] at this; injection this with h1 h2; exact ⟨h1, h2⟩)))
              have hne : (p == x && q == y) = false := by
                rw [Bool.and_eq_false_iff, beq_eq_false_iff_ne, beq_eq_false_iff_ne]
                by_cases h1 : p = x
                · exact .inr fun h2 => hsame ⟨h1, h2⟩
                · exact .inl h1
              clear hsame
              go_wp2_with fail
              (refine wp_region_below (by kernel_rfl) (by kernel_rfl) ?_; (repeat (first | go_big_quiet_skip | (refine quietV (v := ?_) (by rfl) rfl (fun w' hbw => ?_) ?_; rotate_left; ((try dsimp only at hbw); have hbc := (bcell hbw).1; have hbf := (bcell hbw).2; go_simp; first | done | with_reducible rfl | exact callsBB (l2Before_s x y p q _) HBF.out hbw); simp only [List.setIfInBounds_toArray, List.set_cons_zero, List.set_cons_succ]))); refine wpQuiet_nil ?_; intro wq hbq)
              have c1 : wq.cell? ⟨gx, ox + i * 2, none⟩ = some (.int .i64 x) := (hbq.cell hgx2).trans f1
              have c2 : wq.cell? ⟨gx, ox + i * 2 + 1, none⟩ = some (.int .i64 y) := (hbq.cell hgx2).trans f2
              have c3 : wq.cell? ⟨g, j * 2, none⟩ = some (.int .i64 p) := (hbq.cell hgl2).trans b1
              have c4 : wq.cell? ⟨g, j * 2 + 1, none⟩ = some (.int .i64 q) := (hbq.cell hgl2).trans b2
              have hgxq : gx < wq.heap.size := Nat.lt_of_lt_of_le hgx2 hbq.size
              have hglq : g < wq.heap.size := Nat.lt_of_lt_of_le hgl2 hbq.size
              clear f1 f2 b1 b2
              go_wp2_with fail
              (refine wp_region_below (by kernel_rfl) (by kernel_rfl) ?_; (repeat (first | go_big_quiet_skip | (refine quietV (v := ?_) (by rfl) rfl (fun w' hbw => ?_) ?_; rotate_left; ((try dsimp only at hbw); have hbc := (bcell hbw).1; have hbf := (bcell hbw).2; go_simp; first | done | with_reducible rfl | fail); simp only [List.setIfInBounds_toArray, List.set_cons_zero, List.set_cons_succ]))); refine wpQuiet_nil ?_; intro wz hbz)
              have f1 : wz.cell? ⟨gx, ox + i * 2, none⟩ = some (.int .i64 x) := (hbz.cell hgxq).trans c1
              have f2 : wz.cell? ⟨gx, ox + i * 2 + 1, none⟩ = some (.int .i64 y) := (hbz.cell hgxq).trans c2
              have hgxz : gx < wz.heap.size := Nat.lt_of_lt_of_le hgxq hbz.size
              replace HLR := Lib.hid ((HLR.out.below hbq).below hbz)
              replace HB := Lib.hid (bel_trans (bel_trans HB.out hbq) hbz)
              replace HBS : Hid (w.heap.size ≤ wz.heap.size) := (HB.out).size
              clear c1 c2 c3 c4
              go_wp2_with fail
              obtain ⟨i0, hi, hz0, hz1, hz2⟩ := info_parts infoC
              have hs1 : ∀ w', (Instr.slice 51 (.slice (some ⟨g, 0, none⟩) m cp) none (some (.int .i64 (k : Int))) none).run Tryz.prog w' = .ok (.slice (some ⟨g, 0, none⟩) k cp) w' := fun w' => run_uptoC w' g m cp k (by omega)
              have hs2 : ∀ w', (Instr.slice 51 (.slice (some ⟨g, 0, none⟩) m cp) (some (.int .i64 (k : Int))) none none).run Tryz.prog w' = .ok (.slice (some ⟨g, offC cp k, none⟩) (m - k) (cp - k)) w' := fun w' => run_fromC w' g m cp k (by omega)
              have R2 : Hid (Rd wz (some ⟨g, offC cp k, none⟩) (vC (l.drop k))) := Rd.fromC HLR.out HLM.out (by omega)
              have R1 : Hid (Rd wz (some ⟨g, 0, none⟩) (vC (l.take k))) := by show Rd _ _ _; rw [vC_take]; exact Rd.take HLR.out _
              have L1 : Hid ((l.take k).length = k) := by show (l.take k).length = k; rw [List.length_take, HLM.out]; omega
              have L2 : Hid ((l.drop k).length = m - k) := by show (l.drop k).length = m - k; rw [List.length_drop, HLM.out]
              have HI := Lib.hid hi
              have HZ0 := Lib.hid hz0
              have HZ1 := Lib.hid hz1
              have HZ2 := Lib.hid hz2
              clear hi hz0 hz1 hz2
              refine wp_region_rg 16 rfl (by kernel_rfl) ?_
              (refine rgT (i := 1) (v := ?_) rfl rfl (by kernel_rfl) (by kernel_rfl) (by kernel_rfl) (by rfl) (fun w' hcw => ?_) ?_; rotate_left; ((try dsimp only at hcw); have hbc := hcw.cells; go_simp; first | done | with_reducible rfl); simp only [List.setIfInBounds_toArray, List.set_cons_zero, List.set_cons_succ])
              (refine rgT (i := 2) (v := ?_) rfl rfl (by kernel_rfl) (by kernel_rfl) (by kernel_rfl) (by rfl) (fun w' hcw => ?_) ?_; rotate_left; ((try dsimp only at hcw); have hbc := hcw.cells; go_simp; first | done | with_reducible rfl); simp only [List.setIfInBounds_toArray, List.set_cons_zero, List.set_cons_succ])
              (refine rgT (i := 3) (v := ?_) rfl rfl (by kernel_rfl) (by kernel_rfl) (by kernel_rfl) (by rfl) (fun w' hcw => ?_) ?_; rotate_left; ((try dsimp only at hcw); have hbc := hcw.cells; go_simp; first | done | with_reducible rfl); simp only [List.setIfInBounds_toArray, List.set_cons_zero, List.set_cons_succ])
              (refine rgT (i := 5) (v := ?_) rfl rfl (by kernel_rfl) (by kernel_rfl) (by kernel_rfl) (by rfl) (fun w' hcw => ?_) ?_; rotate_left; ((try dsimp only at hcw); have hbc := hcw.cells; go_simp; first | done | with_reducible rfl); simp only [List.setIfInBounds_toArray, List.set_cons_zero, List.set_cons_succ])
              (refine rgT (i := 6) (v := ?_) rfl rfl (by kernel_rfl) (by kernel_rfl) (by kernel_rfl) (by rfl) (fun w' hcw => ?_) ?_; rotate_left; ((try dsimp only at hcw); have hbc := hcw.cells; go_simp; first | done | with_reducible rfl); simp only [List.setIfInBounds_toArray, List.set_cons_zero, List.set_cons_succ])
              (refine rgT (i := 7) (v := ?_) rfl rfl (by kernel_rfl) (by kernel_rfl) (by kernel_rfl) (by rfl) (fun w' hcw => ?_) ?_; rotate_left; ((try dsimp only at hcw); have hbc := hcw.cells; go_simp; first | done | with_reducible rfl); simp only [List.setIfInBounds_toArray, List.set_cons_zero, List.set_cons_succ])
              (refine rgT (i := 8) (v := ?_) rfl rfl (by kernel_rfl) (by kernel_rfl) (by kernel_rfl) (by rfl) (fun w' hcw => ?_) ?_; rotate_left; ((try dsimp only at hcw); have hbc := hcw.cells; go_simp; first | done | with_reducible rfl); simp only [List.setIfInBounds_toArray, List.set_cons_zero, List.set_cons_succ])
              (refine rgT (i := 11) (v := ?_) rfl rfl (by kernel_rfl) (by kernel_rfl) (by kernel_rfl) (by rfl) (fun w' hcw => ?_) ?_; rotate_left; ((try dsimp only at hcw); have hbc := hcw.cells; go_simp; first | done | with_reducible rfl); simp only [List.setIfInBounds_toArray, List.set_cons_zero, List.set_cons_succ])
              (refine rgT (i := 12) (v := ?_) rfl rfl (by kernel_rfl) (by kernel_rfl) (by kernel_rfl) (by rfl) (fun w' hcw => ?_) ?_; rotate_left; ((try dsimp only at hcw); have hbc := hcw.cells; go_simp; first | done | with_reducible rfl); simp only [List.setIfInBounds_toArray, List.set_cons_zero, List.set_cons_succ])
              (refine rgT (i := 13) (v := ?_) rfl rfl (by kernel_rfl) (by kernel_rfl) (by kernel_rfl) (by rfl) (fun w' hcw => ?_) ?_; rotate_left; ((try dsimp only at hcw); have hbc := hcw.cells; go_simp; first | done | with_reducible rfl); simp only [List.setIfInBounds_toArray, List.set_cons_zero, List.set_cons_succ])
              refine ins_tail (T := 51) (e := 66) (i := i0) (z := .agg #[.int .i64 0, .int .i64 0]) (size := 2) (bytes := 16) (i0 := 0) (iA := 4) (iN := 9) (iB := 10) (iD := 14) (iE := 15) (s0 := 45) (sA := 49) (sN := 54) (sB := 55) (sD := 59) (dE := 3) (t1 := 48) (t2 := 58) (xn := .tmp 53) (vn := .agg #[.int .i64 x, .int .i64 y]) (news := vC [(x, y)]) (vs1 := vC (l.take k)) (vs2 := vC (l.drop k)) (A1 := some ⟨g, 0, none⟩) (m1 := k) (c1 := cp) (A2 := some ⟨g, offC cp k, none⟩) (m2 := m - k) (c2 := cp - k) _ ?ht ?hi ?hz ?h1 ?h2 rfl (by omega) ⟨⟨_, rfl, rfl, rfl, fun a w => ?p0⟩, ⟨_, rfl, rfl, rfl, rfl⟩, ⟨_, rfl, rfl, rfl, fun a w h => ?pN⟩, ⟨_, rfl, rfl, rfl, rfl⟩, ⟨_, rfl, rfl, rfl, rfl⟩, ⟨_, rfl, rfl, rfl, rfl⟩⟩ ⟨by simp, by decide, by decide, by decide⟩ (fun a h => (h.eval (by decide)).trans rfl) (by kernel_rfl) (by kernel_rfl) (by kernel_rfl) (by kernel_rfl) (by kernel_rfl) (by decide) (by decide) (by kernel_rfl) (by kernel_rfl) (by kernel_rfl) (by kernel_rfl) rfl ?q1 ?l1 ?o1 rfl ?q2 ?l2 ?o2 ?ln ?on ?hm ?hb ?hQ
              case ht => exact Tryz.underlying51
              case hi => exact HI.out
              case hz => exact HZ0.out
              case h1 => exact HZ1.out
              case h2 => exact HZ2.out
              case p0 => simp [go_sem, execOp]
              case pN => (generalize Act.eval a = ρ at h ⊢; simp [go_sem, execOp, h, vC])
              case q1 => exact R1.out
              case l1 => rw [vC_length, L1.out] <;> omega
              case o1 => exact vC_one _
              case q2 => exact R2.out
              case l2 => rw [vC_length, L2.out] <;> omega
              case o2 => exact vC_one _
              case ln => rfl
              case on => exact vC_one _
              case hm => omega
              case hb => omega
              case hQ =>
                intro a' w' A' c' hfr hev how hex
                obtain ⟨v0, vA, vN, vB, vD, rfl⟩ := hfr.form hev
                rw [← vC_append, ← vC_append, ← HV.out, ← HST.out] at how
                obtain ⟨g', rfl, _, _⟩ := own_at how (by omega)
                have HOW := Lib.hid (own_base how HBS.out)
                clear how hev hfr
                refine NoPanic.normal ?_
                simp only [List.setIfInBounds_toArray, List.set_cons_zero, List.set_cons_succ]
                go_wp2
                exact ⟨⟨i + 1, g', k + 1 + (m - k), c', by omega, by omega, by go_num, by rfl, HOW.out, bel_trans HB.out hex⟩, by simp [intOf]; omega⟩
        · obtain rfl : k = 0 := by omega
          have HN : Hid (cutG befC l (x, y) m = 0) := HCUT.out
          have HV := Lib.hid (HIN.out 0 HN.out (fun h => absurd h.1 (by omega)))
          obtain ⟨k, hkz⟩ : ∃ k : Nat, 0 = k := ⟨0, rfl⟩
          have hkp : ¬ 0 < k := by omega
          have hkp2 : decide (0 < k) = false := by simp; omega
          have HKZ := Lib.hid hkz
          rw [hkz] at HV hk
          rw [show ((0 : Nat) : Int) = (k : Int) from by rw [hkz]]
          clear hkz
          go_wp2_with fail
          (refine wp_region_below (by kernel_rfl) (by kernel_rfl) ?_; (repeat (first | go_big_quiet_skip | (refine quietV (v := ?_) (by rfl) rfl (fun w' hbw => ?_) ?_; rotate_left; ((try dsimp only at hbw); have hbc := (bcell hbw).1; have hbf := (bcell hbw).2; go_simp; first | done | with_reducible rfl | fail); simp only [List.setIfInBounds_toArray, List.set_cons_zero, List.set_cons_succ]))); refine wpQuiet_nil ?_; intro wq hbq)
          go_wp2_with fail
          (refine wp_region_below (by kernel_rfl) (by kernel_rfl) ?_; (repeat (first | go_big_quiet_skip | (refine quietV (v := ?_) (by rfl) rfl (fun w' hbw => ?_) ?_; rotate_left; ((try dsimp only at hbw); have hbc := (bcell hbw).1; have hbf := (bcell hbw).2; go_simp; first | done | with_reducible rfl | fail); simp only [List.setIfInBounds_toArray, List.set_cons_zero, List.set_cons_succ]))); refine wpQuiet_nil ?_; intro wz hbz)
          have c1 : wz.cell? ⟨gx, ox + i * 2, none⟩ = some (.int .i64 x) := (hbz.cell (Nat.lt_of_lt_of_le hgx2 hbq.size)).trans ((hbq.cell hgx2).trans f1)
          have c2 : wz.cell? ⟨gx, ox + i * 2 + 1, none⟩ = some (.int .i64 y) := (hbz.cell (Nat.lt_of_lt_of_le hgx2 hbq.size)).trans ((hbq.cell hgx2).trans f2)
          have hgxz : gx < wz.heap.size := Nat.lt_of_lt_of_le hgx2 (Nat.le_trans hbq.size hbz.size)
          replace HLR := Lib.hid ((HLR.out.below hbq).below hbz)
          replace HB := Lib.hid (bel_trans (bel_trans HB.out hbq) hbz)
          replace HBS : Hid (w.heap.size ≤ wz.heap.size) := (HB.out).size
          clear f1 f2
          go_wp2_with fail
          obtain ⟨i0, hi, hz0, hz1, hz2⟩ := info_parts infoC
          have hs1 : ∀ w', (Instr.slice 51 (.slice (some ⟨g, 0, none⟩) m cp) none (some (.int .i64 (k : Int))) none).run Tryz.prog w' = .ok (.slice (some ⟨g, 0, none⟩) k cp) w' := fun w' => run_uptoC w' g m cp k (by omega)
          have hs2 : ∀ w', (Instr.slice 51 (.slice (some ⟨g, 0, none⟩) m cp) (some (.int .i64 (k : Int))) none none).run Tryz.prog w' = .ok (.slice (some ⟨g, offC cp k, none⟩) (m - k) (cp - k)) w' := fun w' => run_fromC w' g m cp k (by omega)
          have R2 : Hid (Rd wz (some ⟨g, offC cp k, none⟩) (vC (l.drop k))) := Rd.fromC HLR.out HLM.out (by omega)
          have R1 : Hid (Rd wz (some ⟨g, 0, none⟩) (vC (l.take k))) := by show Rd _ _ _; rw [vC_take]; exact Rd.take HLR.out _
          have L1 : Hid ((l.take k).length = k) := by show (l.take k).length = k; rw [List.length_take, HLM.out]; omega
          have L2 : Hid ((l.drop k).length = m - k) := by show (l.drop k).length = m - k; rw [List.length_drop, HLM.out]
          have HI := Lib.hid hi
          have HZ0 := Lib.hid hz0
          have HZ1 := Lib.hid hz1
          have HZ2 := Lib.hid hz2
          clear hi hz0 hz1 hz2
          refine wp_region_rg 16 rfl (by kernel_rfl) ?_
          (refine rgT (i := 1) (v := ?_) rfl rfl (by kernel_rfl) (by kernel_rfl) (by kernel_rfl) (by rfl) (fun w' hcw => ?_) ?_; rotate_left; ((try dsimp only at hcw); have hbc := hcw.cells; go_simp; first | done | with_reducible rfl); simp only [List.setIfInBounds_toArray, List.set_cons_zero, List.set_cons_succ])
          (refine rgT (i := 2) (v := ?_) rfl rfl (by kernel_rfl) (by kernel_rfl) (by kernel_rfl) (by rfl) (fun w' hcw => ?_) ?_; rotate_left; ((try dsimp only at hcw); have hbc := hcw.cells; go_simp; first | done | with_reducible rfl); simp only [List.setIfInBounds_toArray, List.set_cons_zero, List.set_cons_succ])
          (refine rgT (i := 3) (v := ?_) rfl rfl (by kernel_rfl) (by kernel_rfl) (by kernel_rfl) (by rfl) (fun w' hcw => ?_) ?_; rotate_left; ((try dsimp only at hcw); have hbc := hcw.cells; go_simp; first | done | with_reducible rfl); simp only [List.setIfInBounds_toArray, List.set_cons_zero, List.set_cons_succ])
          (refine rgT (i := 5) (v := ?_) rfl rfl (by kernel_rfl) (by kernel_rfl) (by kernel_rfl) (by rfl) (fun w' hcw => ?_) ?_; rotate_left; ((try dsimp only at hcw); have hbc := hcw.cells; go_simp; first | done | with_reducible rfl); simp only [List.setIfInBounds_toArray, List.set_cons_zero, List.set_cons_succ])
          (refine rgT (i := 6) (v := ?_) rfl rfl (by kernel_rfl) (by kernel_rfl) (by kernel_rfl) (by rfl) (fun w' hcw => ?_) ?_; rotate_left; ((try dsimp only at hcw); have hbc := hcw.cells; go_simp; first | done | with_reducible rfl); simp only [List.setIfInBounds_toArray, List.set_cons_zero, List.set_cons_succ])
          (refine rgT (i := 7) (v := ?_) rfl rfl (by kernel_rfl) (by kernel_rfl) (by kernel_rfl) (by rfl) (fun w' hcw => ?_) ?_; rotate_left; ((try dsimp only at hcw); have hbc := hcw.cells; go_simp; first | done | with_reducible rfl); simp only [List.setIfInBounds_toArray, List.set_cons_zero, List.set_cons_succ])
          (refine rgT (i := 8) (v := ?_) rfl rfl (by kernel_rfl) (by kernel_rfl) (by kernel_rfl) (by rfl) (fun w' hcw => ?_) ?_; rotate_left; ((try dsimp only at hcw); have hbc := hcw.cells; go_simp; first | done | with_reducible rfl); simp only [List.setIfInBounds_toArray, List.set_cons_zero, List.set_cons_succ])
          (refine rgT (i := 11) (v := ?_) rfl rfl (by kernel_rfl) (by kernel_rfl) (by kernel_rfl) (by rfl) (fun w' hcw => ?_) ?_; rotate_left; ((try dsimp only at hcw); have hbc := hcw.cells; go_simp; first | done | with_reducible rfl); simp only [List.setIfInBounds_toArray, List.set_cons_zero, List.set_cons_succ])
          (refine rgT (i := 12) (v := ?_) rfl rfl (by kernel_rfl) (by kernel_rfl) (by kernel_rfl) (by rfl) (fun w' hcw => ?_) ?_; rotate_left; ((try dsimp only at hcw); have hbc := hcw.cells; go_simp; first | done | with_reducible rfl); simp only [List.setIfInBounds_toArray, List.set_cons_zero, List.set_cons_succ])
          (refine rgT (i := 13) (v := ?_) rfl rfl (by kernel_rfl) (by kernel_rfl) (by kernel_rfl) (by rfl) (fun w' hcw => ?_) ?_; rotate_left; ((try dsimp only at hcw); have hbc := hcw.cells; go_simp; first | done | with_reducible rfl); simp only [List.setIfInBounds_toArray, List.set_cons_zero, List.set_cons_succ])
          refine ins_tail (T := 51) (e := 66) (i := i0) (z := .agg #[.int .i64 0, .int .i64 0]) (size := 2) (bytes := 16) (i0 := 0) (iA := 4) (iN := 9) (iB := 10) (iD := 14) (iE := 15) (s0 := 45) (sA := 49) (sN := 54) (sB := 55) (sD := 59) (dE := 3) (t1 := 48) (t2 := 58) (xn := .tmp 53) (vn := .agg #[.int .i64 x, .int .i64 y]) (news := vC [(x, y)]) (vs1 := vC (l.take k)) (vs2 := vC (l.drop k)) (A1 := some ⟨g, 0, none⟩) (m1 := k) (c1 := cp) (A2 := some ⟨g, offC cp k, none⟩) (m2 := m - k) (c2 := cp - k) _ ?ht ?hi ?hz ?h1 ?h2 rfl (by omega) ⟨⟨_, rfl, rfl, rfl, fun a w => ?p0⟩, ⟨_, rfl, rfl, rfl, rfl⟩, ⟨_, rfl, rfl, rfl, fun a w h => ?pN⟩, ⟨_, rfl, rfl, rfl, rfl⟩, ⟨_, rfl, rfl, rfl, rfl⟩, ⟨_, rfl, rfl, rfl, rfl⟩⟩ ⟨by simp, by decide, by decide, by decide⟩ (fun a h => (h.eval (by decide)).trans rfl) (by kernel_rfl) (by kernel_rfl) (by kernel_rfl) (by kernel_rfl) (by kernel_rfl) (by decide) (by decide) (by kernel_rfl) (by kernel_rfl) (by kernel_rfl) (by kernel_rfl) rfl ?q1 ?l1 ?o1 rfl ?q2 ?l2 ?o2 ?ln ?on ?hm ?hb ?hQ
          case ht => exact Tryz.underlying51
          case hi => exact HI.out
          case hz => exact HZ0.out
          case h1 => exact HZ1.out
          case h2 => exact HZ2.out
          case p0 => simp [go_sem, execOp]
          case pN => (generalize Act.eval a = ρ at h ⊢; simp [go_sem, execOp, h, vC])
          case q1 => exact R1.out
          case l1 => rw [vC_length, L1.out] <;> omega
          case o1 => exact vC_one _
          case q2 => exact R2.out
          case l2 => rw [vC_length, L2.out] <;> omega
          case o2 => exact vC_one _
          case ln => rfl
          case on => exact vC_one _
          case hm => omega
          case hb => omega
          case hQ =>
            intro a' w' A' c' hfr hev how hex
            obtain ⟨v0, vA, vN, vB, vD, rfl⟩ := hfr.form hev
            rw [← vC_append, ← vC_append, ← HV.out, ← HST.out] at how
            obtain ⟨g', rfl, _, _⟩ := own_at how (by omega)
            have HOW := Lib.hid (own_base how HBS.out)
            clear how hev hfr
            refine NoPanic.normal ?_
            simp only [List.setIfInBounds_toArray, List.set_cons_zero, List.set_cons_succ]
            go_wp2
            exact ⟨⟨i + 1, g', k + 1 + (m - k), c', by omega, by omega, by go_num, by rfl, HOW.out, bel_trans HB.out hex⟩, by simp [intOf]; omega⟩
    · have hin : i = n := by omega
      have hv : (xs.take i).foldl (putG befC) [] = sortC xs := by rw [List.take_of_length_le (by rw [HL.out]; omega)]; rfl
      rw [hv] at hown
      have HO := Lib.hid hown
      subst hin
      have hi1 : ¬ (i : Int) < (i : Int) := by omega
      clear hown hv
      go_wp2
      go_ret
      exact ⟨_, _, _, rfl, HO.out, hb⟩
end Go.Proofs.YtoedmmhiinhljaaGreatDoor

/- Slices of shapes: read, owned. -/
namespace Go.Proofs.YtoedmmhiinhljaaGreatDoor
open Go.RowKit
set_option linter.unusedVariables false
/-- A slice header whose memory is a block of cells that reads as f. -/
def CRow (w : World) (x : H) (f : List C) : Prop := f.length = x.2.1 ∧ Rd w x.1 (vC f) ∧ ∀ g, ob x.1 = some g → ∃ cur z, w.heap[g]? = some (.cells cur 66 z)
/-- A slice of shapes that reads as F. -/
structure RdF (w : World) (A : Option Addr) (n : Nat) (hs : List H) (F : List (List C)) : Prop where
  top : Rd w A (vS hs)
  hlen : hs.length = n
  flen : F.length = n
  row : ∀ (i : Nat) x f, hs[i]? = some x → F[i]? = some f → CRow w x f
/-- .. and whose own block is the call's own. -/
structure OwnF (base : Nat) (w : World) (A : Option Addr) (n c : Nat) (hs : List H) (F : List (List C)) : Prop where
  own : w.ownsRow base 51 1 (.slice A n c) n (vS hs)
  flen : F.length = n
  row : ∀ (i : Nat) x f, hs[i]? = some x → F[i]? = some f → CRow w x f
section
variable {w w' : World} {x : H} {f : List C} {A : Option Addr} {n c base : Nat} {hs : List H} {F : List (List C)}
theorem CRow.lt (h : CRow w x f) : ∀ g, ob x.1 = some g → g < w.heap.size := fun g e => by
  obtain ⟨cur, z, h1⟩ := h.2.2 g e
  exact (Array.getElem?_eq_some_iff.1 h1).1
theorem CRow.below (h : CRow w x f) (hb : Below w.heap.size w w') : CRow w' x f :=
  ⟨h.1, h.2.1.below hb, fun g e => by obtain ⟨cur, z, h1⟩ := h.2.2 g e; exact ⟨cur, z, (hb.block g (Array.getElem?_eq_some_iff.1 h1).1).trans h1⟩⟩
theorem CRow.of_own (h : w.ownsRow base 66 2 (.slice A n c) n (vC f)) : CRow w (A, n, c) f := by
  refine ⟨by have := own_len h; rw [vC_length] at this; show f.length = n; omega, Rd.of_own h, fun g e => ?_⟩
  rcases h.2 with ⟨hv, _⟩ | ⟨g', cap, cur, hv, _, hg, _⟩
  · injection hv with hA
    subst hA
    simp [ob] at e
  · injection hv with hA
    subst hA
    simp only [ob, Option.map_some, Option.some.injEq] at e
    subst e
    exact ⟨cur, _, hg⟩
/-- A row of cells lies apart from a block of headers. -/
theorem CRow.apart (h : CRow w x f) {A : Option Addr} {n c base : Nat} {vs : List Value} {sz : Nat} (ho : w.ownsRow base 51 sz (.slice A n c) n vs) : ∀ g, ob x.1 = some g → ob A ≠ some g := by
  intro g e ea
  obtain ⟨cur, z, h1⟩ := h.2.2 g e
  rcases ho.2 with ⟨hv, _⟩ | ⟨g', cap, cur', hv, _, hg, _⟩
  · injection hv with hA
    subst hA
    simp [ob] at ea
  · injection hv with hA
    subst hA
    simp only [ob, Option.map_some, Option.some.injEq] at ea
    subst ea
    rw [h1] at hg
    injection hg with hg
    injection hg with _ h3
    exact absurd h3 (by decide)
theorem CRow.grown {row : Option Nat} (h : CRow w x f) (hg : w.grownBy w' row) (hn : ∀ g, ob x.1 = some g → row ≠ some g) : CRow w' x f :=
  ⟨h.1, h.2.1.grown hg (fun g e r => hn g (by simpa using e) r.symm), fun g e => by
    obtain ⟨cur, z, h1⟩ := h.2.2 g e
    exact ⟨cur, z, (hg.block g (Array.getElem?_eq_some_iff.1 h1).1 (fun r => hn g e r.symm)).trans h1⟩⟩
theorem OwnF.hlen (h : OwnF base w A n c hs F) : hs.length = n := by have := own_len h.own; rw [vS_length] at this; omega
theorem OwnF.rd (h : OwnF base w A n c hs F) : RdF w A n hs F := ⟨Rd.of_own h.own, h.hlen, h.flen, h.row⟩
theorem RdF.below (h : RdF w A n hs F) (hb : Below w.heap.size w w') : RdF w' A n hs F := ⟨h.top.below hb, h.hlen, h.flen, fun i x f a b => (h.row i x f a b).below hb⟩
theorem OwnF.below (h : OwnF base w A n c hs F) (hb : Below w.heap.size w w') : OwnF base w' A n c hs F := ⟨own_keep h.own hb, h.flen, fun i x f a b => (h.row i x f a b).below hb⟩
theorem OwnF.mono {base' : Nat} (h : OwnF base w A n c hs F) (hb : base' ≤ base) : OwnF base' w A n c hs F := ⟨own_base h.own hb, h.flen, h.row⟩
theorem OwnF.nil (base : Nat) (w : World) : OwnF base w none 0 0 [] [] := ⟨own_nil _ _ _ _, rfl, fun i x f a => by simp at a⟩
theorem OwnF.none_ (h : w.ownsRow base 51 1 (.slice A 0 c) 0 []) : OwnF base w A 0 c [] [] := ⟨h, rfl, fun i x f a => by simp at a⟩
theorem RdF.at_ (h : RdF w A n hs F) {k : Nat} (hk : k < n) : ∃ (x : H) (f : List C) (g off : Nat), hs[k]? = some x ∧ F[k]? = some f ∧ A = some ⟨g, off, none⟩ ∧ g < w.heap.size ∧ w.cell? ⟨g, off + k, none⟩ = some (.slice x.1 x.2.1 x.2.2) ∧ CRow w x f := by
  have a : k < hs.length := by rw [h.hlen]; exact hk
  have b : k < F.length := by rw [h.flen]; exact hk
  obtain ⟨g, off, e, hg, c1⟩ := RdS.at_ h.top a
  exact ⟨hs[k], F[k], g, off, List.getElem?_eq_getElem a, List.getElem?_eq_getElem b, e, hg, c1, h.row k _ _ (List.getElem?_eq_getElem a) (List.getElem?_eq_getElem b)⟩
end
/-- A result that is a slice of shapes of the call's own. -/
def RetF (w : World) (F : List (List C)) (e : Ending) (w' : World) : Prop :=
  ∃ A n c hs, e = .returned (.slice A n c) ∧ OwnF w.heap.size w' A n c hs F ∧ Below w.heap.size w w'
/-- The place in an ordered list. -/
theorem countP_cut {α : Type} {p : α → Bool} {F : List α} {k : Nat} (hk : k ≤ F.length) (h1 : ∀ (t : Nat) x, t < k → F[t]? = some x → p x = true) (h2 : ∀ (t : Nat) x, k ≤ t → F[t]? = some x → p x = false) : F.countP p = k := by
  have e : F.countP p = (F.take k).countP p + (F.drop k).countP p := by rw [← List.countP_append, List.take_append_drop]
  have e1 : (F.take k).countP p = k := by
    have : (F.take k).countP p = (F.take k).length := by
      rw [List.countP_eq_length]
      intro x hx
      obtain ⟨i, hi, rfl⟩ := List.mem_iff_getElem.1 hx
      rw [List.length_take] at hi
      exact h1 i _ (by omega) (by rw [List.getElem_take]; exact List.getElem?_eq_getElem (by omega))
    rw [this, List.length_take]
    omega
  have e2 : (F.drop k).countP p = 0 := by
    rw [List.countP_eq_zero]
    intro x hx
    obtain ⟨i, hi, rfl⟩ := List.mem_iff_getElem.1 hx
    rw [List.length_drop] at hi
    rw [List.getElem_drop]
    simpa using h2 (k + i) _ (by omega) (List.getElem?_eq_getElem (by omega))
  omega
end Go.Proofs.YtoedmmhiinhljaaGreatDoor

/- Shapes compared: both sides. -/
namespace Go.Proofs.YtoedmmhiinhljaaGreatDoor
open Go.RowKit
set_option linter.unusedVariables false
attribute [local go_sem ↓] Go.wp_at_zero Go.wp_at_succ
set_option maxHeartbeats 1600000 in
theorem CompareShapes_i (A B : Option Addr) (n c m d : Nat) (xs ys : List C) (w : World) (hr : Rd w A (vC xs)) (hr2 : Rd w B (vC ys)) (hl : xs.length = n) (hl2 : ys.length = m) (hn : n ≤ 1099511627776) (hm : m ≤ 1099511627776) :
    Calls Tryz.prog 105 #[.slice A n c, .slice B m d] w (Ret w (.int .i64 (cmpS xs ys))) := by
  rcases Nat.lt_trichotomy n m with hlt | heq | hgt
  · have HV : Hid (cmpS xs ys = -1) := cmpS_len (by omega)
    have h1 : (n : Int) < (m : Int) := by omega
    have h2 : ((n : Int) != (m : Int)) = true := by rw [bne_iff_ne]; omega
    clear hl hl2
    go_enter Tryz.func105, Tryz.ntmps105
    go_wp2
    go_ret
    exact ⟨by rw [HV.out]; rfl, (by (repeat (first | with_reducible exact Below.refl _ _ | with_reducible assumption | with_reducible apply bel_alloc | with_reducible apply bel_drew | with_reducible apply bel_drewN | ((with_reducible refine bel_set ?_ ?_); rotate_left; (simp <;> omega)) | (with_reducible refine bel_trans ?_ (by with_reducible assumption)))))⟩
  · subst heq
    have HLL : Hid (xs.length = ys.length) := hl.trans hl2.symm
    have HL := Lib.hid hl
    have HL2 := Lib.hid hl2
    have h1 : decide ((n : Int) < (n : Int)) = false := by simp
    clear hl hl2
    go_enter Tryz.func105, Tryz.ntmps105
    go_wp2
    go_loopw [20] (fun e5 wr => ∃ k : Nat, k ≤ n ∧ e5 = .int .i64 k ∧ xs.take k = ys.take k ∧ Below w.heap.size w wr) (fun e5 _ => n - (intOf e5).toNat)
    case atStart => exact ⟨0, Nat.zero_le _, rfl, rfl, Below.refl _ _⟩
    case round =>
      obtain ⟨k, hk, rfl, htk, hb⟩ := hrel
      have HT := Lib.hid htk
      clear htk
      by_cases hkn : k < n
      · have hk1 : k < xs.length := by rw [HL.out]; exact hkn
        have hk2 : k < ys.length := by rw [HL2.out]; exact hkn
        have hk0 : (0 : Int) ≤ (k : Int) := by omega
        have hkI : (k : Int) < (n : Int) := by omega
        obtain ⟨g1, o1, rfl, hg1, a1, a2⟩ := RdC.at_ (hr.below hb) hk1
        obtain ⟨g2, o2, rfl, hg2, b1, b2⟩ := RdC.at_ (hr2.below hb) hk2
        obtain ⟨x, hx⟩ : ∃ x, xs[k].1 = x := ⟨_, rfl⟩
        obtain ⟨y, hy⟩ : ∃ y, xs[k].2 = y := ⟨_, rfl⟩
        obtain ⟨p, hp⟩ : ∃ p, ys[k].1 = p := ⟨_, rfl⟩
        obtain ⟨q, hq⟩ : ∃ q, ys[k].2 = q := ⟨_, rfl⟩
        have hxy : xs[k] = (x, y) := Prod.ext hx hy
        have hpq : ys[k] = (p, q) := Prod.ext hp hq
        rw [hx] at a1
        rw [hy] at a2
        rw [hp] at b1
        rw [hq] at b2
        have HAT := Lib.hid (cmpS_at HLL.out hk1 HT.out (x, y) (p, q) hxy hpq)
        have HST : Hid ((x, y) = (p, q) → xs.take (k + 1) = ys.take (k + 1)) := fun e => take_eq_step hk1 hk2 HT.out (by rw [hxy, hpq, e])
        clear hx hy hp hq hxy hpq
        cases h3 : befC (x, y) (p, q) with
        | true =>
          have HV := Lib.hid (HAT.out.1 h3)
          have H3 := Lib.hid h3
          clear h3
          go_wp2_with fail
          (refine wp_region_below (by kernel_rfl) (by kernel_rfl) ?_; (repeat (first | go_big_quiet_skip | (refine quietV (v := ?_) (by rfl) rfl (fun w' hbw => ?_) ?_; rotate_left; ((try dsimp only at hbw); have hbc := (bcell hbw).1; have hbf := (bcell hbw).2; go_simp; first | done | with_reducible rfl | exact callsBB (before_i x y p q _) H3.out hbw); simp only [List.setIfInBounds_toArray, List.set_cons_zero, List.set_cons_succ]))); refine wpQuiet_nil ?_; intro wq hbq)
          go_wp2_with fail
          go_ret
          exact ⟨by rw [HV.out]; rfl, (by (repeat (first | with_reducible exact Below.refl _ _ | with_reducible assumption | with_reducible apply bel_alloc | with_reducible apply bel_drew | with_reducible apply bel_drewN | ((with_reducible refine bel_set ?_ ?_); rotate_left; (simp <;> omega)) | (with_reducible refine bel_trans ?_ (by with_reducible assumption)))))⟩
        | false =>
          have H3 := Lib.hid h3
          cases h4 : befC (p, q) (x, y) with
          | true =>
            have HV := Lib.hid (HAT.out.2 h4)
            have H4 := Lib.hid h4
            clear h3 h4
            go_wp2_with fail
            (refine wp_region_below (by kernel_rfl) (by kernel_rfl) ?_; (repeat (first | go_big_quiet_skip | (refine quietV (v := ?_) (by rfl) rfl (fun w' hbw => ?_) ?_; rotate_left; ((try dsimp only at hbw); have hbc := (bcell hbw).1; have hbf := (bcell hbw).2; go_simp; first | done | with_reducible rfl | exact callsBB (before_i x y p q _) H3.out hbw); simp only [List.setIfInBounds_toArray, List.set_cons_zero, List.set_cons_succ]))); refine wpQuiet_nil ?_; intro wq hbq)
            have c1 := (hbq.cell hg1).trans a1
            have c2 := (hbq.cell hg1).trans a2
            have c3 := (hbq.cell hg2).trans b1
            have c4 := (hbq.cell hg2).trans b2
            have hg3 : g1 < wq.heap.size := Nat.lt_of_lt_of_le hg1 hbq.size
            have hg4 : g2 < wq.heap.size := Nat.lt_of_lt_of_le hg2 hbq.size
            clear a1 a2 b1 b2 hg1 hg2
            go_wp2_with fail
            (refine wp_region_below (by kernel_rfl) (by kernel_rfl) ?_; (repeat (first | go_big_quiet_skip | (refine quietV (v := ?_) (by rfl) rfl (fun w' hbw => ?_) ?_; rotate_left; ((try dsimp only at hbw); have hbc := (bcell hbw).1; have hbf := (bcell hbw).2; go_simp; first | done | with_reducible rfl | exact callsBB (before_i p q x y _) H4.out hbw); simp only [List.setIfInBounds_toArray, List.set_cons_zero, List.set_cons_succ]))); refine wpQuiet_nil ?_; intro wz hbz)
            go_wp2_with fail
            go_ret
            exact ⟨by rw [HV.out]; rfl, bel_trans (bel_trans hb hbq) hbz⟩
          | false =>
            have HE := Lib.hid (befC_sto.tot h3 h4)
            have H4 := Lib.hid h4
            clear h3 h4
            go_wp2_with fail
            (refine wp_region_below (by kernel_rfl) (by kernel_rfl) ?_; (repeat (first | go_big_quiet_skip | (refine quietV (v := ?_) (by rfl) rfl (fun w' hbw => ?_) ?_; rotate_left; ((try dsimp only at hbw); have hbc := (bcell hbw).1; have hbf := (bcell hbw).2; go_simp; first | done | with_reducible rfl | exact callsBB (before_i x y p q _) H3.out hbw); simp only [List.setIfInBounds_toArray, List.set_cons_zero, List.set_cons_succ]))); refine wpQuiet_nil ?_; intro wq hbq)
            have c1 := (hbq.cell hg1).trans a1
            have c2 := (hbq.cell hg1).trans a2
            have c3 := (hbq.cell hg2).trans b1
            have c4 := (hbq.cell hg2).trans b2
            have hg3 : g1 < wq.heap.size := Nat.lt_of_lt_of_le hg1 hbq.size
            have hg4 : g2 < wq.heap.size := Nat.lt_of_lt_of_le hg2 hbq.size
            clear a1 a2 b1 b2 hg1 hg2
            go_wp2_with fail
            (refine wp_region_below (by kernel_rfl) (by kernel_rfl) ?_; (repeat (first | go_big_quiet_skip | (refine quietV (v := ?_) (by rfl) rfl (fun w' hbw => ?_) ?_; rotate_left; ((try dsimp only at hbw); have hbc := (bcell hbw).1; have hbf := (bcell hbw).2; go_simp; first | done | with_reducible rfl | exact callsBB (before_i p q x y _) H4.out hbw); simp only [List.setIfInBounds_toArray, List.set_cons_zero, List.set_cons_succ]))); refine wpQuiet_nil ?_; intro wz hbz)
            go_wp2_with fail
            exact ⟨⟨k + 1, by omega, by go_num, HST.out HE.out, bel_trans (bel_trans hb hbq) hbz⟩, by simp [intOf]; omega⟩
      · have hkn2 : k = n := by omega
        have HV : Hid (cmpS xs ys = 0) := by
          show cmpS xs ys = 0
          rw [take_eq_all HLL.out (by rw [HL.out]; omega) HT.out]
          exact cmpS_eq _
        subst hkn2
        have hk1 : ¬ (k : Int) < (k : Int) := by omega
        go_wp2
        go_ret
        exact ⟨by rw [HV.out]; rfl, hb⟩
  · have HV : Hid (cmpS xs ys = 1) := cmpS_len2 (by omega)
    have h1 : decide ((n : Int) < (m : Int)) = false := by simp; omega
    have h2 : ((n : Int) != (m : Int)) = true := by rw [bne_iff_ne]; omega
    have h3 : (n : Int) > (m : Int) := by omega
    clear hl hl2
    go_enter Tryz.func105, Tryz.ntmps105
    go_wp2
    go_ret
    exact ⟨by rw [HV.out]; rfl, (by (repeat (first | with_reducible exact Below.refl _ _ | with_reducible assumption | with_reducible apply bel_alloc | with_reducible apply bel_drew | with_reducible apply bel_drewN | ((with_reducible refine bel_set ?_ ?_); rotate_left; (simp <;> omega)) | (with_reducible refine bel_trans ?_ (by with_reducible assumption)))))⟩
set_option maxHeartbeats 1600000 in
theorem CompareShapes_s (A B : Option Addr) (n c m d : Nat) (xs ys : List C) (w : World) (hr : Rd w A (vC xs)) (hr2 : Rd w B (vC ys)) (hl : xs.length = n) (hl2 : ys.length = m) (hn : n ≤ 1099511627776) (hm : m ≤ 1099511627776) :
    Calls Tryz.prog 111 #[.slice A n c, .slice B m d] w (Ret w (.int .i64 (cmpS xs ys))) := by
  rcases Nat.lt_trichotomy n m with hlt | heq | hgt
  · have HV : Hid (cmpS xs ys = -1) := cmpS_len (by omega)
    have h1 : (n : Int) < (m : Int) := by omega
    have h2 : ((n : Int) != (m : Int)) = true := by rw [bne_iff_ne]; omega
    clear hl hl2
    go_enter Tryz.func111, Tryz.ntmps111
    go_wp2
    go_ret
    exact ⟨by rw [HV.out]; rfl, (by (repeat (first | with_reducible exact Below.refl _ _ | with_reducible assumption | with_reducible apply bel_alloc | with_reducible apply bel_drew | with_reducible apply bel_drewN | ((with_reducible refine bel_set ?_ ?_); rotate_left; (simp <;> omega)) | (with_reducible refine bel_trans ?_ (by with_reducible assumption)))))⟩
  · subst heq
    have HLL : Hid (xs.length = ys.length) := hl.trans hl2.symm
    have HL := Lib.hid hl
    have HL2 := Lib.hid hl2
    have h1 : decide ((n : Int) < (n : Int)) = false := by simp
    clear hl hl2
    go_enter Tryz.func111, Tryz.ntmps111
    go_wp2
    go_loopw [5] (fun e5 wr => ∃ k : Nat, k ≤ n ∧ e5 = .int .i64 k ∧ xs.take k = ys.take k ∧ Below w.heap.size w wr) (fun e5 _ => n - (intOf e5).toNat)
    case atStart => exact ⟨0, Nat.zero_le _, rfl, rfl, Below.refl _ _⟩
    case round =>
      obtain ⟨k, hk, rfl, htk, hb⟩ := hrel
      have HT := Lib.hid htk
      clear htk
      by_cases hkn : k < n
      · have hk1 : k < xs.length := by rw [HL.out]; exact hkn
        have hk2 : k < ys.length := by rw [HL2.out]; exact hkn
        have hk0 : (0 : Int) ≤ (k : Int) := by omega
        have hkI : (k : Int) < (n : Int) := by omega
        obtain ⟨g1, o1, rfl, hg1, a1, a2⟩ := RdC.at_ (hr.below hb) hk1
        obtain ⟨g2, o2, rfl, hg2, b1, b2⟩ := RdC.at_ (hr2.below hb) hk2
        obtain ⟨x, hx⟩ : ∃ x, xs[k].1 = x := ⟨_, rfl⟩
        obtain ⟨y, hy⟩ : ∃ y, xs[k].2 = y := ⟨_, rfl⟩
        obtain ⟨p, hp⟩ : ∃ p, ys[k].1 = p := ⟨_, rfl⟩
        obtain ⟨q, hq⟩ : ∃ q, ys[k].2 = q := ⟨_, rfl⟩
        have hxy : xs[k] = (x, y) := Prod.ext hx hy
        have hpq : ys[k] = (p, q) := Prod.ext hp hq
        rw [hx] at a1
        rw [hy] at a2
        rw [hp] at b1
        rw [hq] at b2
        have HAT := Lib.hid (cmpS_at HLL.out hk1 HT.out (x, y) (p, q) hxy hpq)
        have HST : Hid ((x, y) = (p, q) → xs.take (k + 1) = ys.take (k + 1)) := fun e => take_eq_step hk1 hk2 HT.out (by rw [hxy, hpq, e])
        clear hx hy hp hq hxy hpq
        by_cases hsame : x = p ∧ y = q
        · obtain ⟨rfl, rfl⟩ := hsame
          go_wp2_with fail
          (refine wp_region_below (by kernel_rfl) (by kernel_rfl) ?_; (repeat (first | go_big_quiet_skip | (refine quietV (v := ?_) (by rfl) rfl (fun w' hbw => ?_) ?_; rotate_left; ((try dsimp only at hbw); have hbc := (bcell hbw).1; have hbf := (bcell hbw).2; go_simp; first | done | with_reducible rfl | fail); simp only [List.setIfInBounds_toArray, List.set_cons_zero, List.set_cons_succ]))); refine wpQuiet_nil ?_; intro wq hbq)
          go_wp2_with fail
          exact ⟨⟨k + 1, by omega, by go_num, HST.out (by simp), bel_trans hb hbq⟩, by simp [intOf]; omega⟩
        · have hne : (x == p && y == q) = false := by
            rw [Bool.and_eq_false_iff, beq_eq_false_iff_ne, beq_eq_false_iff_ne]
            by_cases h1 : x = p
            · exact .inr fun h2 => hsame ⟨h1, h2⟩
            · exact .inl h1
          cases h3 : befC (x, y) (p, q) with
          | true =>
            have HV := Lib.hid (HAT.out.1 h3)
            have H3 := Lib.hid h3
            clear h3 hsame
            go_wp2_with fail
            (refine wp_region_below (by kernel_rfl) (by kernel_rfl) ?_; (repeat (first | go_big_quiet_skip | (refine quietV (v := ?_) (by rfl) rfl (fun w' hbw => ?_) ?_; rotate_left; ((try dsimp only at hbw); have hbc := (bcell hbw).1; have hbf := (bcell hbw).2; go_simp; first | done | with_reducible rfl | fail); simp only [List.setIfInBounds_toArray, List.set_cons_zero, List.set_cons_succ]))); refine wpQuiet_nil ?_; intro wq hbq)
            have c1 := (hbq.cell hg1).trans a1
            have c2 := (hbq.cell hg1).trans a2
            have c3 := (hbq.cell hg2).trans b1
            have c4 := (hbq.cell hg2).trans b2
            have hg3 : g1 < wq.heap.size := Nat.lt_of_lt_of_le hg1 hbq.size
            have hg4 : g2 < wq.heap.size := Nat.lt_of_lt_of_le hg2 hbq.size
            clear a1 a2 b1 b2 hg1 hg2
            go_wp2_with fail
            (refine wp_region_below (by kernel_rfl) (by kernel_rfl) ?_; (repeat (first | go_big_quiet_skip | (refine quietV (v := ?_) (by rfl) rfl (fun w' hbw => ?_) ?_; rotate_left; ((try dsimp only at hbw); have hbc := (bcell hbw).1; have hbf := (bcell hbw).2; go_simp; first | done | with_reducible rfl | exact callsBB (l2Before_s x y p q _) H3.out hbw); simp only [List.setIfInBounds_toArray, List.set_cons_zero, List.set_cons_succ]))); refine wpQuiet_nil ?_; intro wz hbz)
            go_wp2_with fail
            go_ret
            exact ⟨by rw [HV.out]; rfl, bel_trans (bel_trans hb hbq) hbz⟩
          | false =>
            have HV : Hid (cmpS xs ys = 1) := HAT.out.2 (by
              cases h4 : befC (p, q) (x, y) with
              | true => rfl
              | false => exact absurd (befC_sto.tot h3 h4) (fun e => hsame (by injection e with e1 e2; exact ⟨e1, e2⟩)))
            have H3 := Lib.hid h3
            clear h3 hsame
            go_wp2_with fail
            (refine wp_region_below (by kernel_rfl) (by kernel_rfl) ?_; (repeat (first | go_big_quiet_skip | (refine quietV (v := ?_) (by rfl) rfl (fun w' hbw => ?_) ?_; rotate_left; ((try dsimp only at hbw); have hbc := (bcell hbw).1; have hbf := (bcell hbw).2; go_simp; first | done | with_reducible rfl | fail); simp only [List.setIfInBounds_toArray, List.set_cons_zero, List.set_cons_succ]))); refine wpQuiet_nil ?_; intro wq hbq)
            have c1 := (hbq.cell hg1).trans a1
            have c2 := (hbq.cell hg1).trans a2
            have c3 := (hbq.cell hg2).trans b1
            have c4 := (hbq.cell hg2).trans b2
            have hg3 : g1 < wq.heap.size := Nat.lt_of_lt_of_le hg1 hbq.size
            have hg4 : g2 < wq.heap.size := Nat.lt_of_lt_of_le hg2 hbq.size
            clear a1 a2 b1 b2 hg1 hg2
            go_wp2_with fail
            (refine wp_region_below (by kernel_rfl) (by kernel_rfl) ?_; (repeat (first | go_big_quiet_skip | (refine quietV (v := ?_) (by rfl) rfl (fun w' hbw => ?_) ?_; rotate_left; ((try dsimp only at hbw); have hbc := (bcell hbw).1; have hbf := (bcell hbw).2; go_simp; first | done | with_reducible rfl | exact callsBB (l2Before_s x y p q _) H3.out hbw); simp only [List.setIfInBounds_toArray, List.set_cons_zero, List.set_cons_succ]))); refine wpQuiet_nil ?_; intro wz hbz)
            go_wp2_with fail
            go_ret
            exact ⟨by rw [HV.out]; rfl, bel_trans (bel_trans hb hbq) hbz⟩
      · have hkn2 : k = n := by omega
        have HV : Hid (cmpS xs ys = 0) := by
          show cmpS xs ys = 0
          rw [take_eq_all HLL.out (by rw [HL.out]; omega) HT.out]
          exact cmpS_eq _
        subst hkn2
        have hk1 : ¬ (k : Int) < (k : Int) := by omega
        go_wp2
        go_ret
        exact ⟨by rw [HV.out]; rfl, hb⟩
  · have HV : Hid (cmpS xs ys = 1) := cmpS_len2 (by omega)
    have h1 : decide ((n : Int) < (m : Int)) = false := by simp; omega
    have h2 : ((n : Int) != (m : Int)) = true := by rw [bne_iff_ne]; omega
    have h3 : (n : Int) > (m : Int) := by omega
    clear hl hl2
    go_enter Tryz.func111, Tryz.ntmps111
    go_wp2
    go_ret
    exact ⟨by rw [HV.out]; rfl, (by (repeat (first | with_reducible exact Below.refl _ _ | with_reducible assumption | with_reducible apply bel_alloc | with_reducible apply bel_drew | with_reducible apply bel_drewN | ((with_reducible refine bel_set ?_ ?_); rotate_left; (simp <;> omega)) | (with_reducible refine bel_trans ?_ (by with_reducible assumption)))))⟩
set_option maxHeartbeats 800000 in
theorem EqualShapes_i (A B : Option Addr) (n c m d : Nat) (xs ys : List C) (w : World) (hr : Rd w A (vC xs)) (hr2 : Rd w B (vC ys)) (hl : xs.length = n) (hl2 : ys.length = m) (hn : n ≤ 1099511627776) (hm : m ≤ 1099511627776) :
    Calls Tryz.prog 106 #[.slice A n c, .slice B m d] w (Ret w (.bool (decide (xs = ys)))) := by
  by_cases heq : n = m
  · subst heq
    have HLL : Hid (xs.length = ys.length) := hl.trans hl2.symm
    have HL := Lib.hid hl
    have HL2 := Lib.hid hl2
    have h1 : ((n : Int) != (n : Int)) = false := by simp
    clear hl hl2
    go_enter Tryz.func106, Tryz.ntmps106
    go_wp2
    go_loopw [13] (fun e5 wr => ∃ k : Nat, k ≤ n ∧ e5 = .int .i64 k ∧ xs.take k = ys.take k ∧ Below w.heap.size w wr) (fun e5 _ => n - (intOf e5).toNat)
    case atStart => exact ⟨0, Nat.zero_le _, rfl, rfl, Below.refl _ _⟩
    case round =>
      obtain ⟨k, hk, rfl, htk, hb⟩ := hrel
      have HT := Lib.hid htk
      clear htk
      by_cases hkn : k < n
      · have hk1 : k < xs.length := by rw [HL.out]; exact hkn
        have hk2 : k < ys.length := by rw [HL2.out]; exact hkn
        have hk0 : (0 : Int) ≤ (k : Int) := by omega
        have hkI : (k : Int) < (n : Int) := by omega
        obtain ⟨g1, o1, rfl, hg1, a1, a2⟩ := RdC.at_ (hr.below hb) hk1
        obtain ⟨g2, o2, rfl, hg2, b1, b2⟩ := RdC.at_ (hr2.below hb) hk2
        obtain ⟨x, hx⟩ : ∃ x, xs[k].1 = x := ⟨_, rfl⟩
        obtain ⟨y, hy⟩ : ∃ y, xs[k].2 = y := ⟨_, rfl⟩
        obtain ⟨p, hp⟩ : ∃ p, ys[k].1 = p := ⟨_, rfl⟩
        obtain ⟨q, hq⟩ : ∃ q, ys[k].2 = q := ⟨_, rfl⟩
        have hxy : xs[k] = (x, y) := Prod.ext hx hy
        have hpq : ys[k] = (p, q) := Prod.ext hp hq
        rw [hx] at a1
        rw [hy] at a2
        rw [hp] at b1
        rw [hq] at b2
        have HST : Hid ((x, y) = (p, q) → xs.take (k + 1) = ys.take (k + 1)) := fun e => take_eq_step hk1 hk2 HT.out (by rw [hxy, hpq, e])
        have HNE : Hid ((x, y) ≠ (p, q) → xs ≠ ys) := fun e h => e (by subst h; rw [← hxy, ← hpq])
        clear hx hy hp hq hxy hpq
        by_cases hsame : x = p ∧ y = q
        · obtain ⟨rfl, rfl⟩ := hsame
          go_wp2_with fail
          (refine wp_region_below (by kernel_rfl) (by kernel_rfl) ?_; (repeat (first | go_big_quiet_skip | (refine quietV (v := ?_) (by rfl) rfl (fun w' hbw => ?_) ?_; rotate_left; ((try dsimp only at hbw); have hbc := (bcell hbw).1; have hbf := (bcell hbw).2; go_simp; first | done | with_reducible rfl | fail); simp only [List.setIfInBounds_toArray, List.set_cons_zero, List.set_cons_succ]))); refine wpQuiet_nil ?_; intro wq hbq)
          go_wp2_with fail
          exact ⟨⟨k + 1, by omega, by go_num, HST.out (by simp), bel_trans hb hbq⟩, by simp [intOf]; omega⟩
        · have hne : (x == p && y == q) = false := by
            rw [Bool.and_eq_false_iff, beq_eq_false_iff_ne, beq_eq_false_iff_ne]
            by_cases h1 : x = p
            · exact .inr fun h2 => hsame ⟨h1, h2⟩
            · exact .inl h1
          have HV : Hid (decide (xs = ys) = false) := decide_eq_false (HNE.out (fun e => hsame (by injection e with e1 e2; exact ⟨e1, e2⟩)))
          clear hsame
          go_wp2_with fail
          (refine wp_region_below (by kernel_rfl) (by kernel_rfl) ?_; (repeat (first | go_big_quiet_skip | (refine quietV (v := ?_) (by rfl) rfl (fun w' hbw => ?_) ?_; rotate_left; ((try dsimp only at hbw); have hbc := (bcell hbw).1; have hbf := (bcell hbw).2; go_simp; first | done | with_reducible rfl | fail); simp only [List.setIfInBounds_toArray, List.set_cons_zero, List.set_cons_succ]))); refine wpQuiet_nil ?_; intro wq hbq)
          go_wp2_with fail
          go_ret
          exact ⟨by rw [HV.out]; rfl, bel_trans hb hbq⟩
      · have hkn2 : k = n := by omega
        have HV : Hid (decide (xs = ys) = true) := decide_eq_true (take_eq_all HLL.out (by rw [HL.out]; omega) HT.out)
        subst hkn2
        have hk1 : ¬ (k : Int) < (k : Int) := by omega
        go_wp2
        go_ret
        exact ⟨by rw [HV.out]; rfl, hb⟩
  · have HV : Hid (decide (xs = ys) = false) := decide_eq_false (fun e => heq (by rw [← hl, ← hl2, e]))
    have h2 : ((n : Int) != (m : Int)) = true := by rw [bne_iff_ne]; omega
    clear hl hl2
    go_enter Tryz.func106, Tryz.ntmps106
    go_wp2
    go_ret
    exact ⟨by rw [HV.out]; rfl, (by (repeat (first | with_reducible exact Below.refl _ _ | with_reducible assumption | with_reducible apply bel_alloc | with_reducible apply bel_drew | with_reducible apply bel_drewN | ((with_reducible refine bel_set ?_ ?_); rotate_left; (simp <;> omega)) | (with_reducible refine bel_trans ?_ (by with_reducible assumption)))))⟩
set_option maxHeartbeats 800000 in
theorem EqualShapes_s (A B : Option Addr) (n c m d : Nat) (xs ys : List C) (w : World) (hr : Rd w A (vC xs)) (hr2 : Rd w B (vC ys)) (hl : xs.length = n) (hl2 : ys.length = m) (hn : n ≤ 1099511627776) (hm : m ≤ 1099511627776) :
    Calls Tryz.prog 112 #[.slice A n c, .slice B m d] w (Ret w (.bool (decide (xs = ys)))) := by
  by_cases heq : n = m
  · subst heq
    have HLL : Hid (xs.length = ys.length) := hl.trans hl2.symm
    have HL := Lib.hid hl
    have HL2 := Lib.hid hl2
    have h1 : ((n : Int) != (n : Int)) = false := by simp
    clear hl hl2
    go_enter Tryz.func112, Tryz.ntmps112
    go_wp2
    go_loopw [5] (fun e5 wr => ∃ k : Nat, k ≤ n ∧ e5 = .int .i64 k ∧ xs.take k = ys.take k ∧ Below w.heap.size w wr) (fun e5 _ => n - (intOf e5).toNat)
    case atStart => exact ⟨0, Nat.zero_le _, rfl, rfl, Below.refl _ _⟩
    case round =>
      obtain ⟨k, hk, rfl, htk, hb⟩ := hrel
      have HT := Lib.hid htk
      clear htk
      by_cases hkn : k < n
      · have hk1 : k < xs.length := by rw [HL.out]; exact hkn
        have hk2 : k < ys.length := by rw [HL2.out]; exact hkn
        have hk0 : (0 : Int) ≤ (k : Int) := by omega
        have hkI : (k : Int) < (n : Int) := by omega
        obtain ⟨g1, o1, rfl, hg1, a1, a2⟩ := RdC.at_ (hr.below hb) hk1
        obtain ⟨g2, o2, rfl, hg2, b1, b2⟩ := RdC.at_ (hr2.below hb) hk2
        obtain ⟨x, hx⟩ : ∃ x, xs[k].1 = x := ⟨_, rfl⟩
        obtain ⟨y, hy⟩ : ∃ y, xs[k].2 = y := ⟨_, rfl⟩
        obtain ⟨p, hp⟩ : ∃ p, ys[k].1 = p := ⟨_, rfl⟩
        obtain ⟨q, hq⟩ : ∃ q, ys[k].2 = q := ⟨_, rfl⟩
        have hxy : xs[k] = (x, y) := Prod.ext hx hy
        have hpq : ys[k] = (p, q) := Prod.ext hp hq
        rw [hx] at a1
        rw [hy] at a2
        rw [hp] at b1
        rw [hq] at b2
        have HST : Hid ((x, y) = (p, q) → xs.take (k + 1) = ys.take (k + 1)) := fun e => take_eq_step hk1 hk2 HT.out (by rw [hxy, hpq, e])
        have HNE : Hid ((x, y) ≠ (p, q) → xs ≠ ys) := fun e h => e (by subst h; rw [← hxy, ← hpq])
        clear hx hy hp hq hxy hpq
        by_cases hsame : x = p ∧ y = q
        · obtain ⟨rfl, rfl⟩ := hsame
          go_wp2_with fail
          (refine wp_region_below (by kernel_rfl) (by kernel_rfl) ?_; (repeat (first | go_big_quiet_skip | (refine quietV (v := ?_) (by rfl) rfl (fun w' hbw => ?_) ?_; rotate_left; ((try dsimp only at hbw); have hbc := (bcell hbw).1; have hbf := (bcell hbw).2; go_simp; first | done | with_reducible rfl | fail); simp only [List.setIfInBounds_toArray, List.set_cons_zero, List.set_cons_succ]))); refine wpQuiet_nil ?_; intro wq hbq)
          go_wp2_with fail
          exact ⟨⟨k + 1, by omega, by go_num, HST.out (by simp), bel_trans hb hbq⟩, by simp [intOf]; omega⟩
        · have hne : (x == p && y == q) = false := by
            rw [Bool.and_eq_false_iff, beq_eq_false_iff_ne, beq_eq_false_iff_ne]
            by_cases h1 : x = p
            · exact .inr fun h2 => hsame ⟨h1, h2⟩
            · exact .inl h1
          have HV : Hid (decide (xs = ys) = false) := decide_eq_false (HNE.out (fun e => hsame (by injection e with e1 e2; exact ⟨e1, e2⟩)))
          clear hsame
          go_wp2_with fail
          (refine wp_region_below (by kernel_rfl) (by kernel_rfl) ?_; (repeat (first | go_big_quiet_skip | (refine quietV (v := ?_) (by rfl) rfl (fun w' hbw => ?_) ?_; rotate_left; ((try dsimp only at hbw); have hbc := (bcell hbw).1; have hbf := (bcell hbw).2; go_simp; first | done | with_reducible rfl | fail); simp only [List.setIfInBounds_toArray, List.set_cons_zero, List.set_cons_succ]))); refine wpQuiet_nil ?_; intro wq hbq)
          go_wp2_with fail
          go_ret
          exact ⟨by rw [HV.out]; rfl, bel_trans hb hbq⟩
      · have hkn2 : k = n := by omega
        have HV : Hid (decide (xs = ys) = true) := decide_eq_true (take_eq_all HLL.out (by rw [HL.out]; omega) HT.out)
        subst hkn2
        have hk1 : ¬ (k : Int) < (k : Int) := by omega
        go_wp2
        go_ret
        exact ⟨by rw [HV.out]; rfl, hb⟩
  · have HV : Hid (decide (xs = ys) = false) := decide_eq_false (fun e => heq (by rw [← hl, ← hl2, e]))
    have h2 : ((n : Int) != (m : Int)) = true := by rw [bne_iff_ne]; omega
    clear hl hl2
    go_enter Tryz.func112, Tryz.ntmps112
    go_wp2
    go_ret
    exact ⟨by rw [HV.out]; rfl, (by (repeat (first | with_reducible exact Below.refl _ _ | with_reducible assumption | with_reducible apply bel_alloc | with_reducible apply bel_drew | with_reducible apply bel_drewN | ((with_reducible refine bel_set ?_ ?_); rotate_left; (simp <;> omega)) | (with_reducible refine bel_trans ?_ (by with_reducible assumption)))))⟩
end Go.Proofs.YtoedmmhiinhljaaGreatDoor

/- A shape put into an ordered list, once: the reference. -/
namespace Go.Proofs.YtoedmmhiinhljaaGreatDoor
open Go.RowKit
set_option linter.unusedVariables false
attribute [local go_sem ↓] Go.wp_at_zero Go.wp_at_succ

theorem infoF2 : (Tryz.prog.info? 51).map (fun i => (i.zero, i.size, i.bytes)) = some (some (.slice none 0 0), 1, 24) := by kernel_rfl
def offF2 (c k : Nat) : Nat := if c = k then 0 else k
theorem run_uptoF (w : World) (g m c k : Nat) (hk : k ≤ c) : (Instr.slice 31 (.slice (some ⟨g, 0, none⟩) m c) none (some (.int .i64 (k : Int))) none).run Tryz.prog w = .ok (.slice (some ⟨g, 0, none⟩) k c) w := by
  have h2 : (k : Int) ≤ (c : Int) := by omega
  simp [go_sem, h2]
theorem run_fromF2 (w : World) (g m c k : Nat) (hk : k ≤ m) : (Instr.slice 31 (.slice (some ⟨g, 0, none⟩) m c) (some (.int .i64 (k : Int))) none none).run Tryz.prog w = .ok (.slice (some ⟨g, offF2 c k, none⟩) (m - k) (c - k)) w := by
  have h1 : (0 : Int) ≤ (k : Int) := by omega
  have h2 : (k : Int) ≤ (m : Int) := by omega
  unfold offF2
  by_cases hc : c = k
  · subst hc
    simp [go_sem, h2]
  · simp [go_sem, h2, hc]
theorem Rd.fromF {w : World} {g c k m : Nat} {l : List H} (h : Rd w (some ⟨g, 0, none⟩) (vS l)) (hl : l.length = m) (hmc : m ≤ c) : Rd w (some ⟨g, offF2 c k, none⟩) (vS (l.drop k)) := by
  have h2 := Rd.drop h k c (by rw [vS_length]; omega)
  rw [show vS (l.drop k) = (vS l).drop k from by simp [vS]]
  unfold offF2
  split
  · next e => rw [if_pos e] at h2; exact h2
  · next e =>
    rw [if_neg e] at h2
    have e2 : (some ⟨g, 0, none⟩ : Option Addr).map (·.add k) = some ⟨g, k, none⟩ := by simp only [Option.map_some]; unfold Addr.add; split <;> simp_all
    rw [e2] at h2
    exact h2
theorem ins_rows2 {α β : Type} {hs : List α} {F : List β} {k : Nat} (hl : hs.length = F.length) (hk : k ≤ F.length) {x0 : α} {f : β} (i : Nat) (x : α) (y : β) (h1 : (hs.take k ++ [x0] ++ hs.drop k)[i]? = some x) (h2 : (F.take k ++ [f] ++ F.drop k)[i]? = some y) :
    (∃ j : Nat, hs[j]? = some x ∧ F[j]? = some y) ∨ (x = x0 ∧ y = f) := by
  have e1 : (hs.take k).length = k := by rw [List.length_take]; omega
  have e2 : (F.take k).length = k := by rw [List.length_take]; omega
  rw [List.append_assoc] at h1 h2
  rcases Nat.lt_trichotomy i k with h | h | h
  · rw [List.getElem?_append_left (by omega), List.getElem?_take_of_lt h] at h1 h2
    exact .inl ⟨i, h1, h2⟩
  · subst h
    rw [List.getElem?_append_right (by omega), e1, Nat.sub_self] at h1
    rw [List.getElem?_append_right (by omega), e2, Nat.sub_self] at h2
    simp at h1 h2
    exact .inr ⟨h1.symm, h2.symm⟩
  · obtain ⟨j, rfl⟩ : ∃ j, i = k + 1 + j := ⟨i - (k + 1), by omega⟩
    rw [List.getElem?_append_right (by omega), e1, show k + 1 + j - k = j + 1 from by omega] at h1
    rw [List.getElem?_append_right (by omega), e2, show k + 1 + j - k = j + 1 from by omega] at h2
    simp only [List.singleton_append, List.getElem?_cons_succ, List.getElem?_drop] at h1 h2
    exact .inl ⟨_, h1, h2⟩
theorem cmpS_lt (s t : List C) : decide (cmpS s t < 0) = ltS s t := by
  have := cmpS_neg s t
  cases h : ltS s t with
  | true =>
    unfold cmpS
    rw [h]
    rfl
  | false =>
    unfold cmpS
    rw [h]
    simp only [Bool.false_eq_true, if_false]
    split <;> rfl
/-- The list with the shape put in: nothing that was there has turned. -/
def PutS (base : Nat) (w : World) (F : List (List C)) (e : Ending) (w' : World) : Prop :=
  ∃ g n c hs, e = .returned (.slice (some ⟨g, 0, none⟩) n c) ∧ OwnF base w' (some ⟨g, 0, none⟩) n c hs F ∧ Below w.heap.size w w'
set_option maxRecDepth 100000 in
set_option maxHeartbeats 3200000 in
theorem l3Put_s (g m cp : Nat) (hs : List H) (F : List (List C)) (B : Option Addr) (mb d : Nat) (f : List C) (base : Nat) (w : World) (ho : OwnF base w (some ⟨g, 0, none⟩) m cp hs F) (hf : CRow w (B, mb, d) f)
    (hl : ∀ x ∈ F, x.length ≤ 1048576) (hmb : mb ≤ 1048576) (hm : m ≤ 1073741824) (hb0 : base ≤ w.heap.size) :
    Calls Tryz.prog 89 #[.slice (some ⟨g, 0, none⟩) m cp, .slice B mb d] w (PutS base w (putG ltS F f)) := by
  have hmc : m ≤ cp ∧ cp ≤ 9223372036854775807 := by
    rcases ho.own.2 with ⟨h, _⟩ | ⟨g', cap, cur, hv, _, _, h1, h2, _⟩
    · cases h
    · injection hv with _ _ h3
      unfold maxLen at h2
      omega
  obtain ⟨hmc1, hmc2⟩ := hmc
  have hcm : cutG ltS F f F.length = cutG ltS F f m := by rw [ho.flen]
  have HIN : Hid (∀ k', cutG ltS F f m = k' → ¬ (0 < k' ∧ F.getD (k' - 1) default = f) → putG ltS F f = F.take k' ++ [f] ++ F.drop k') := fun k' h1 h2 => putG_new (hcm.trans h1) h2
  have HSM : Hid (∀ k', cutG ltS F f m = k' → 0 < k' → F.getD (k' - 1) default = f → putG ltS F f = F) := fun k' h1 h2 h3 => putG_same (hcm.trans h1) h2 h3
  have HO := Lib.hid ho
  have HF := Lib.hid hf
  have HL := Lib.hid hl
  have HFL := Lib.hid ho.flen
  clear ho hf hl hcm
  go_enter Tryz.func89, Tryz.ntmps89
  go_wp2
  go_loopw [5] (fun e5 wr => ∃ k : Nat, k ≤ m ∧ e5 = .int .i64 k ∧ cutG ltS F f m = cutG ltS F f k ∧ Below w.heap.size w wr) (fun e5 _ => (intOf e5).toNat)
  case atStart => exact ⟨m, Nat.le_refl _, rfl, rfl, Below.refl _ _⟩
  case round =>
    obtain ⟨k, hk, rfl, hcut, hb⟩ := hrel
    have HCUT := Lib.hid hcut
    clear hcut
    by_cases hk0 : 0 < k
    · obtain ⟨j, hjk⟩ : ∃ j, k = j + 1 := ⟨k - 1, by omega⟩
      obtain ⟨x, t, g', off, hsx, hfx, he, hg, c1, hrow⟩ := (HO.out.below hb).rd.at_ (show j < m by omega)
      simp only [Option.some.injEq, Addr.mk.injEq, and_true] at he
      obtain ⟨rfl, rfl⟩ := he
      rw [Nat.zero_add] at c1
      have hgd : F.getD j default = t := by rw [List.getD_eq_getElem?_getD, hfx]; rfl
      have htl := HL.out t (List.mem_of_getElem? hfx)
      obtain ⟨C1, m1, k1⟩ := x
      have h1 : t.length = m1 := hrow.1
      have H1 := Lib.hid h1
      have HR := Lib.hid hrow
      have hm1 : m1 ≤ 1048576 := by omega
      have HG := Lib.hid hgd
      have hj1 : (k : Int) - 1 = (j : Int) := by omega
      have hj0 : (0 : Int) ≤ (j : Int) := by omega
      have hjw : IntKind.i64.wrap (j : Int) = (j : Int) := Go.IntWalk.i64_in _ (by omega)
      have hjm : (j : Int) < (m : Int) := by omega
      have hkp : (k : Int) > 0 := by omega
      have HJ := Lib.hid hjk
      dsimp only at c1
      clear hgd hsx hfx hrow h1 htl hjk
      cases hlt : ltS f t with
      | true =>
        have HN : Hid (cutG ltS F f m = cutG ltS F f j) := by show _ = _; rw [HCUT.out, HJ.out]; show (if ltS f (F.getD j default) = true then _ else _) = _; rw [HG.out, if_pos hlt]
        have hcl := cmpS_lt f t
        obtain ⟨v, hv⟩ : ∃ v, cmpS f t = v := ⟨_, rfl⟩
        rw [hv, hlt] at hcl
        have hvl : v < 0 := by simpa using hcl
        have HV := Lib.hid hv
        clear hv hlt hcl
        go_wp2_with fail
        refine (CompareShapes_s B C1 mb d m1 k1 f t _ (HF.out.below hb).2.1 HR.out.2.1 HF.out.1 H1.out (by omega) (by omega)).mono ?_
        rw [HV.out]
        rintro e w1 ⟨rfl, hb1⟩
        go_wp2_with fail
        exact ⟨⟨j, by omega, rfl, HN.out, bel_trans hb hb1⟩, by simp [intOf]; have := HJ.out; omega⟩
      | false =>
        have HN : Hid (cutG ltS F f m = k) := by show _ = _; rw [HCUT.out, HJ.out]; show (if ltS f (F.getD j default) = true then _ else _) = _; rw [HG.out, if_neg (by rw [hlt]; simp)]
        have hcl := cmpS_lt f t
        obtain ⟨v, hv⟩ : ∃ v, cmpS f t = v := ⟨_, rfl⟩
        rw [hv, hlt] at hcl
        have hvl : ¬ v < 0 := by simpa using hcl
        have HVV := Lib.hid hv
        clear hv hlt
        by_cases htf : t = f
        · have HV := Lib.hid (HSM.out k HN.out hk0 (by rw [show k - 1 = j from by have := HJ.out; omega, HG.out, htf]))
          have HD : Hid (decide (t = f) = true) := decide_eq_true htf
          clear htf
          go_wp2_with fail
          refine (CompareShapes_s B C1 mb d m1 k1 f t _ (HF.out.below hb).2.1 HR.out.2.1 HF.out.1 H1.out (by omega) (by omega)).mono ?_
          rw [HVV.out]
          rintro e w1 ⟨rfl, hb1⟩
          have c2 := (hb1.cell hg).trans c1
          have hg2 : g < w1.heap.size := Nat.lt_of_lt_of_le hg hb1.size
          clear c1
          go_wp2_with fail
          refine (EqualShapes_s C1 B m1 k1 mb d t f _ (HR.out.below hb1).2.1 ((HF.out.below hb).below hb1).2.1 H1.out HF.out.1 (by omega) (by omega)).mono ?_
          rw [HD.out]
          rintro e w2 ⟨rfl, hb2⟩
          go_wp2_with fail
          go_ret
          exact ⟨g, m, cp, hs, rfl, by rw [HV.out]; exact HO.out.below (bel_trans hb (bel_trans hb1 hb2)), bel_trans hb (bel_trans hb1 hb2)⟩
        · have HV := Lib.hid (HIN.out k HN.out (fun h => htf (by have := h.2; rw [show k - 1 = j from by have := HJ.out; omega, HG.out] at this; exact this)))
          have HD : Hid (decide (t = f) = false) := decide_eq_false htf
          clear htf
          go_wp2_with fail
          refine (CompareShapes_s B C1 mb d m1 k1 f t _ (HF.out.below hb).2.1 HR.out.2.1 HF.out.1 H1.out (by omega) (by omega)).mono ?_
          rw [HVV.out]
          rintro e w1 ⟨rfl, hb1⟩
          have c2 := (hb1.cell hg).trans c1
          have hg2 : g < w1.heap.size := Nat.lt_of_lt_of_le hg hb1.size
          clear c1
          go_wp2_with fail
          refine (EqualShapes_s C1 B m1 k1 mb d t f _ (HR.out.below hb1).2.1 ((HF.out.below hb).below hb1).2.1 H1.out HF.out.1 (by omega) (by omega)).mono ?_
          rw [HD.out]
          rintro e w2 ⟨rfl, hb2⟩
          have hbb : Below w.heap.size w w2 := bel_trans hb (bel_trans hb1 hb2)
          clear c2
          obtain ⟨i0, hi, hz0, hz1, hz2⟩ := info_parts infoF2
          have hs1 : ∀ w', (Instr.slice 31 (.slice (some ⟨g, 0, none⟩) m cp) none (some (.int .i64 (k : Int))) none).run Tryz.prog w' = .ok (.slice (some ⟨g, 0, none⟩) k cp) w' := fun w' => run_uptoF w' g m cp k (by omega)
          have hs2 : ∀ w', (Instr.slice 31 (.slice (some ⟨g, 0, none⟩) m cp) (some (.int .i64 (k : Int))) none none).run Tryz.prog w' = .ok (.slice (some ⟨g, offF2 cp k, none⟩) (m - k) (cp - k)) w' := fun w' => run_fromF2 w' g m cp k (by omega)
          have R2 : Hid (Rd w2 (some ⟨g, offF2 cp k, none⟩) (vS (hs.drop k))) := Rd.fromF (Rd.of_own (HO.out.below hbb).own) (HO.out.hlen) (by omega)
          have R1 : Hid (Rd w2 (some ⟨g, 0, none⟩) (vS (hs.take k))) := by
            show Rd _ _ _
            rw [show vS (hs.take k) = (vS hs).take k from by simp [vS]]
            exact Rd.take (Rd.of_own (HO.out.below hbb).own) _
          have L1 : Hid ((hs.take k).length = k) := by show (hs.take k).length = k; rw [List.length_take, HO.out.hlen]; omega
          have L2 : Hid ((hs.drop k).length = m - k) := by show (hs.drop k).length = m - k; rw [List.length_drop, HO.out.hlen]
          have HB := Lib.hid hbb
          have HI := Lib.hid hi
          have HZ0 := Lib.hid hz0
          have HZ1 := Lib.hid hz1
          have HZ2 := Lib.hid hz2
          clear hi hz0 hz1 hz2
          go_wp2_with fail
          refine wp_region_rg 13 rfl (by kernel_rfl) ?_
          (refine rgT (i := 1) (v := ?_) rfl rfl (by kernel_rfl) (by kernel_rfl) (by kernel_rfl) (by rfl) (fun w' hcw => ?_) ?_; rotate_left; ((try dsimp only at hcw); have hbc := hcw.cells; go_simp; first | done | with_reducible rfl); simp only [List.setIfInBounds_toArray, List.set_cons_zero, List.set_cons_succ])
          (refine rgT (i := 2) (v := ?_) rfl rfl (by kernel_rfl) (by kernel_rfl) (by kernel_rfl) (by rfl) (fun w' hcw => ?_) ?_; rotate_left; ((try dsimp only at hcw); have hbc := hcw.cells; go_simp; first | done | with_reducible rfl); simp only [List.setIfInBounds_toArray, List.set_cons_zero, List.set_cons_succ])
          (refine rgT (i := 3) (v := ?_) rfl rfl (by kernel_rfl) (by kernel_rfl) (by kernel_rfl) (by rfl) (fun w' hcw => ?_) ?_; rotate_left; ((try dsimp only at hcw); have hbc := hcw.cells; go_simp; first | done | with_reducible rfl); simp only [List.setIfInBounds_toArray, List.set_cons_zero, List.set_cons_succ])
          (refine rgT (i := 5) (v := ?_) rfl rfl (by kernel_rfl) (by kernel_rfl) (by kernel_rfl) (by rfl) (fun w' hcw => ?_) ?_; rotate_left; ((try dsimp only at hcw); have hbc := hcw.cells; go_simp; first | done | with_reducible rfl); simp only [List.setIfInBounds_toArray, List.set_cons_zero, List.set_cons_succ])
          (refine rgT (i := 8) (v := ?_) rfl rfl (by kernel_rfl) (by kernel_rfl) (by kernel_rfl) (by rfl) (fun w' hcw => ?_) ?_; rotate_left; ((try dsimp only at hcw); have hbc := hcw.cells; go_simp; first | done | with_reducible rfl); simp only [List.setIfInBounds_toArray, List.set_cons_zero, List.set_cons_succ])
          (refine rgT (i := 9) (v := ?_) rfl rfl (by kernel_rfl) (by kernel_rfl) (by kernel_rfl) (by rfl) (fun w' hcw => ?_) ?_; rotate_left; ((try dsimp only at hcw); have hbc := hcw.cells; go_simp; first | done | with_reducible rfl); simp only [List.setIfInBounds_toArray, List.set_cons_zero, List.set_cons_succ])
          (refine rgT (i := 10) (v := ?_) rfl rfl (by kernel_rfl) (by kernel_rfl) (by kernel_rfl) (by rfl) (fun w' hcw => ?_) ?_; rotate_left; ((try dsimp only at hcw); have hbc := hcw.cells; go_simp; first | done | with_reducible rfl); simp only [List.setIfInBounds_toArray, List.set_cons_zero, List.set_cons_succ])
          refine ins_tail (T := 31) (e := 51) (i := i0) (z := .slice none 0 0) (size := 1) (bytes := 24) (i0 := 0) (iA := 4) (iN := 6) (iB := 7) (iD := 11) (iE := 12) (s0 := 34) (sA := 38) (sN := 40) (sB := 41) (sD := 45) (dE := 4) (t1 := 37) (t2 := 44) (xn := .tmp 39) (vn := .slice B mb d) (news := vS [(B, mb, d)]) (vs1 := vS (hs.take k)) (vs2 := vS (hs.drop k)) (A1 := some ⟨g, 0, none⟩) (m1 := k) (c1 := cp) (A2 := some ⟨g, offF2 cp k, none⟩) (m2 := m - k) (c2 := cp - k) _ ?ht ?hi ?hz ?h1 ?h2 rfl (by omega) ⟨⟨_, rfl, rfl, rfl, fun a w => ?p0⟩, ⟨_, rfl, rfl, rfl, rfl⟩, ⟨_, rfl, rfl, rfl, fun a w h => ?pN⟩, ⟨_, rfl, rfl, rfl, rfl⟩, ⟨_, rfl, rfl, rfl, rfl⟩, ⟨_, rfl, rfl, rfl, rfl⟩⟩ ⟨by simp, by decide, by decide, by decide⟩ (fun a h => (h.eval (by decide)).trans rfl) (by kernel_rfl) (by kernel_rfl) (by kernel_rfl) (by kernel_rfl) (by kernel_rfl) (by decide) (by decide) (by kernel_rfl) (by kernel_rfl) (by kernel_rfl) (by kernel_rfl) rfl ?q1 ?l1 ?o1 rfl ?q2 ?l2 ?o2 ?ln ?on ?hm ?hb ?hQ
          case ht => exact Tryz.underlying31
          case hi => exact HI.out
          case hz => exact HZ0.out
          case h1 => exact HZ1.out
          case h2 => exact HZ2.out
          case p0 => simp [go_sem, execOp]
          case pN => (generalize Act.eval a = ρ at h ⊢; simp [go_sem, execOp, h, vS, hd])
          case q1 => exact R1.out
          case l1 => rw [vS_length, L1.out] <;> omega
          case o1 => exact vS_one _
          case q2 => exact R2.out
          case l2 => rw [vS_length, L2.out] <;> omega
          case o2 => exact vS_one _
          case ln => rfl
          case on => exact vS_one _
          case hm => omega
          case hb => omega
          case hQ =>
            intro a' w' A' c' hfr hev how hex
            obtain ⟨v0, vA, vN, vB, vD, rfl⟩ := hfr.form hev
            rw [← vS_append, ← vS_append] at how
            obtain ⟨g', rfl, _, _⟩ := own_at how (by omega)
            have HOW := Lib.hid (own_base (base' := base) how (Nat.le_trans hb0 HB.out.size))
            clear how hev hfr
            refine NoPanic.normal ?_
            simp only [List.setIfInBounds_toArray, List.set_cons_zero, List.set_cons_succ]
            go_wp2
            go_ret
            refine ⟨g', k + 1 + (m - k), c', hs.take k ++ [(B, mb, d)] ++ hs.drop k, rfl, ⟨HOW.out, ?_, ?_⟩, bel_trans HB.out hex⟩
            · rw [HV.out]; simp only [List.length_append, List.length_take, List.length_drop, List.length_cons, List.length_nil, HFL.out]; omega
            · intro i x t h1 h2
              rw [HV.out] at h2
              rcases ins_rows2 (by rw [HO.out.hlen, HFL.out]) (by rw [HFL.out]; exact hk) i x t h1 h2 with ⟨j, h3, h4⟩ | ⟨h3, h4⟩
              · exact ((HO.out.row j x t h3 h4).below HB.out).below hex
              · subst h3 h4
                exact (HF.out.below HB.out).below hex
    · obtain rfl : k = 0 := by omega
      have HN : Hid (cutG ltS F f m = 0) := HCUT.out
      have HV := Lib.hid (HIN.out 0 HN.out (fun h => absurd h.1 (by omega)))
      obtain ⟨k, hkz⟩ : ∃ k : Nat, 0 = k := ⟨0, rfl⟩
      have hkp : ¬ 0 < k := by omega
      have hkp2 : decide (0 < k) = false := by simp; omega
      have HKZ := Lib.hid hkz
      rw [hkz] at HV hk
      rw [show ((0 : Nat) : Int) = (k : Int) from by rw [hkz]]
      clear hkz hk0
      obtain ⟨i0, hi, hz0, hz1, hz2⟩ := info_parts infoF2
      have hs1 : ∀ w', (Instr.slice 31 (.slice (some ⟨g, 0, none⟩) m cp) none (some (.int .i64 (k : Int))) none).run Tryz.prog w' = .ok (.slice (some ⟨g, 0, none⟩) k cp) w' := fun w' => run_uptoF w' g m cp k (by omega)
      have hs2 : ∀ w', (Instr.slice 31 (.slice (some ⟨g, 0, none⟩) m cp) (some (.int .i64 (k : Int))) none none).run Tryz.prog w' = .ok (.slice (some ⟨g, offF2 cp k, none⟩) (m - k) (cp - k)) w' := fun w' => run_fromF2 w' g m cp k (by omega)
      have R2 : Hid (Rd wr (some ⟨g, offF2 cp k, none⟩) (vS (hs.drop k))) := Rd.fromF (Rd.of_own (HO.out.below hb).own) (HO.out.hlen) (by omega)
      have R1 : Hid (Rd wr (some ⟨g, 0, none⟩) (vS (hs.take k))) := by
        show Rd _ _ _
        rw [show vS (hs.take k) = (vS hs).take k from by simp [vS]]
        exact Rd.take (Rd.of_own (HO.out.below hb).own) _
      have L1 : Hid ((hs.take k).length = k) := by show (hs.take k).length = k; rw [List.length_take, HO.out.hlen]; omega
      have L2 : Hid ((hs.drop k).length = m - k) := by show (hs.drop k).length = m - k; rw [List.length_drop, HO.out.hlen]
      have HB := Lib.hid hb
      have HI := Lib.hid hi
      have HZ0 := Lib.hid hz0
      have HZ1 := Lib.hid hz1
      have HZ2 := Lib.hid hz2
      clear hi hz0 hz1 hz2
      go_wp2_with fail
      refine wp_region_rg 13 rfl (by kernel_rfl) ?_
      (refine rgT (i := 1) (v := ?_) rfl rfl (by kernel_rfl) (by kernel_rfl) (by kernel_rfl) (by rfl) (fun w' hcw => ?_) ?_; rotate_left; ((try dsimp only at hcw); have hbc := hcw.cells; go_simp; first | done | with_reducible rfl); simp only [List.setIfInBounds_toArray, List.set_cons_zero, List.set_cons_succ])
      (refine rgT (i := 2) (v := ?_) rfl rfl (by kernel_rfl) (by kernel_rfl) (by kernel_rfl) (by rfl) (fun w' hcw => ?_) ?_; rotate_left; ((try dsimp only at hcw); have hbc := hcw.cells; go_simp; first | done | with_reducible rfl); simp only [List.setIfInBounds_toArray, List.set_cons_zero, List.set_cons_succ])
      (refine rgT (i := 3) (v := ?_) rfl rfl (by kernel_rfl) (by kernel_rfl) (by kernel_rfl) (by rfl) (fun w' hcw => ?_) ?_; rotate_left; ((try dsimp only at hcw); have hbc := hcw.cells; go_simp; first | done | with_reducible rfl); simp only [List.setIfInBounds_toArray, List.set_cons_zero, List.set_cons_succ])
      (refine rgT (i := 5) (v := ?_) rfl rfl (by kernel_rfl) (by kernel_rfl) (by kernel_rfl) (by rfl) (fun w' hcw => ?_) ?_; rotate_left; ((try dsimp only at hcw); have hbc := hcw.cells; go_simp; first | done | with_reducible rfl); simp only [List.setIfInBounds_toArray, List.set_cons_zero, List.set_cons_succ])
      (refine rgT (i := 8) (v := ?_) rfl rfl (by kernel_rfl) (by kernel_rfl) (by kernel_rfl) (by rfl) (fun w' hcw => ?_) ?_; rotate_left; ((try dsimp only at hcw); have hbc := hcw.cells; go_simp; first | done | with_reducible rfl); simp only [List.setIfInBounds_toArray, List.set_cons_zero, List.set_cons_succ])
      (refine rgT (i := 9) (v := ?_) rfl rfl (by kernel_rfl) (by kernel_rfl) (by kernel_rfl) (by rfl) (fun w' hcw => ?_) ?_; rotate_left; ((try dsimp only at hcw); have hbc := hcw.cells; go_simp; first | done | with_reducible rfl); simp only [List.setIfInBounds_toArray, List.set_cons_zero, List.set_cons_succ])
      (refine rgT (i := 10) (v := ?_) rfl rfl (by kernel_rfl) (by kernel_rfl) (by kernel_rfl) (by rfl) (fun w' hcw => ?_) ?_; rotate_left; ((try dsimp only at hcw); have hbc := hcw.cells; go_simp; first | done | with_reducible rfl); simp only [List.setIfInBounds_toArray, List.set_cons_zero, List.set_cons_succ])
      refine ins_tail (T := 31) (e := 51) (i := i0) (z := .slice none 0 0) (size := 1) (bytes := 24) (i0 := 0) (iA := 4) (iN := 6) (iB := 7) (iD := 11) (iE := 12) (s0 := 34) (sA := 38) (sN := 40) (sB := 41) (sD := 45) (dE := 4) (t1 := 37) (t2 := 44) (xn := .tmp 39) (vn := .slice B mb d) (news := vS [(B, mb, d)]) (vs1 := vS (hs.take k)) (vs2 := vS (hs.drop k)) (A1 := some ⟨g, 0, none⟩) (m1 := k) (c1 := cp) (A2 := some ⟨g, offF2 cp k, none⟩) (m2 := m - k) (c2 := cp - k) _ ?ht ?hi ?hz ?h1 ?h2 rfl (by omega) ⟨⟨_, rfl, rfl, rfl, fun a w => ?p0⟩, ⟨_, rfl, rfl, rfl, rfl⟩, ⟨_, rfl, rfl, rfl, fun a w h => ?pN⟩, ⟨_, rfl, rfl, rfl, rfl⟩, ⟨_, rfl, rfl, rfl, rfl⟩, ⟨_, rfl, rfl, rfl, rfl⟩⟩ ⟨by simp, by decide, by decide, by decide⟩ (fun a h => (h.eval (by decide)).trans rfl) (by kernel_rfl) (by kernel_rfl) (by kernel_rfl) (by kernel_rfl) (by kernel_rfl) (by decide) (by decide) (by kernel_rfl) (by kernel_rfl) (by kernel_rfl) (by kernel_rfl) rfl ?q1 ?l1 ?o1 rfl ?q2 ?l2 ?o2 ?ln ?on ?hm ?hb ?hQ
      case ht => exact Tryz.underlying31
      case hi => exact HI.out
      case hz => exact HZ0.out
      case h1 => exact HZ1.out
      case h2 => exact HZ2.out
      case p0 => simp [go_sem, execOp]
      case pN => (generalize Act.eval a = ρ at h ⊢; simp [go_sem, execOp, h, vS, hd])
      case q1 => exact R1.out
      case l1 => rw [vS_length, L1.out] <;> omega
      case o1 => exact vS_one _
      case q2 => exact R2.out
      case l2 => rw [vS_length, L2.out] <;> omega
      case o2 => exact vS_one _
      case ln => rfl
      case on => exact vS_one _
      case hm => omega
      case hb => omega
      case hQ =>
        intro a' w' A' c' hfr hev how hex
        obtain ⟨v0, vA, vN, vB, vD, rfl⟩ := hfr.form hev
        rw [← vS_append, ← vS_append] at how
        obtain ⟨g', rfl, _, _⟩ := own_at how (by omega)
        have HOW := Lib.hid (own_base (base' := base) how (Nat.le_trans hb0 HB.out.size))
        clear how hev hfr
        refine NoPanic.normal ?_
        simp only [List.setIfInBounds_toArray, List.set_cons_zero, List.set_cons_succ]
        go_wp2
        go_ret
        refine ⟨g', k + 1 + (m - k), c', hs.take k ++ [(B, mb, d)] ++ hs.drop k, rfl, ⟨HOW.out, ?_, ?_⟩, bel_trans HB.out hex⟩
        · rw [HV.out]; simp only [List.length_append, List.length_take, List.length_drop, List.length_cons, List.length_nil, HFL.out]; omega
        · intro i x t h1 h2
          rw [HV.out] at h2
          rcases ins_rows2 (by rw [HO.out.hlen, HFL.out]) (by rw [HFL.out]; exact hk) i x t h1 h2 with ⟨j, h3, h4⟩ | ⟨h3, h4⟩
          · exact ((HO.out.row j x t h3 h4).below HB.out).below hex
          · subst h3 h4
            exact (HF.out.below HB.out).below hex
end Go.Proofs.YtoedmmhiinhljaaGreatDoor

/- Cells and shapes turned, the orientations of a shape: the reference. -/
namespace Go.Proofs.YtoedmmhiinhljaaGreatDoor
open Go.RowKit
set_option linter.unusedVariables false
attribute [local go_sem ↓] Go.wp_at_zero Go.wp_at_succ

set_option maxHeartbeats 1600000 in
theorem l3Apply_s (x y : Int) (m : Nat) (w : World) (hq : in7 1000 (x, y)) (hm : m < 8) :
    Calls Tryz.prog 113 #[.agg #[.int .i64 x, .int .i64 y], .int .i64 (m : Int)] w (Ret w (.agg #[.int .i64 (motC m (x, y)).1, .int .i64 (motC m (x, y)).2])) := by
  obtain ⟨r, hr⟩ : ∃ r, m % 4 = r := ⟨_, rfl⟩
  have hr4 : r < 4 := by omega
  have hmr : (m : Int) % 4 = (r : Int) := by omega
  have hm0 : (0 : Int) ≤ (m : Int) := by omega
  have hm7 : (m : Int) ≤ 7 := by omega
  obtain ⟨⟨h1, h2⟩, h3, h4⟩ := id hq
  simp only at h1 h2 h3 h4
  have HOK := Lib.hid (in7_flip hq m)
  have HC : Hid (motC m (x, y) = rotC r (flipC m (x, y))) := by show motC m (x, y) = _; unfold motC; rw [hr]
  have ex : IntKind.i64.wrap (-x) = -x := Go.IntWalk.i64_in _ (by omega)
  clear hr hq
  by_cases h4m : 4 ≤ m
  · have HST : Hid (rotC 0 (flipC m (x, y)) = (-x, y)) := by show flipC m (x, y) = _; unfold flipC; rw [if_pos h4m]
    have h4i : (m : Int) ≥ 4 := by omega
    go_enter Tryz.func113, Tryz.ntmps113
    go_wp2
    go_loopw [5] (fun e13 wr => ∃ (j : Nat) (x' y' : Int), j ≤ r ∧ e13 = .int .i64 j ∧ rotC j (flipC m (x, y)) = (x', y') ∧ Blk wr w.heap.size 66 #[.int .i64 x', .int .i64 y'] ∧ Blk wr (w.heap.size + 1) 66 #[.int .i64 0, .int .i64 0] ∧ Below w.heap.size w wr) (fun e13 _ => r - (intOf e13).toNat)
    case atStart =>
      have hb1 : Blk ((w.alloc (.cells #[.int .i64 (-x), .int .i64 y] 66)).alloc (.cells #[.int .i64 0, .int .i64 0] 66)) w.heap.size 66 #[.int .i64 (-x), .int .i64 y] := (Blk.new w 66 #[.int .i64 (-x), .int .i64 y]).alloc _
      have hb2 : Blk ((w.alloc (.cells #[.int .i64 (-x), .int .i64 y] 66)).alloc (.cells #[.int .i64 0, .int .i64 0] 66)) (w.heap.size + 1) 66 #[.int .i64 0, .int .i64 0] := by
        have h := Blk.new (w.alloc (.cells #[.int .i64 (-x), .int .i64 y] 66)) 66 #[.int .i64 0, .int .i64 0]
        rw [show (w.alloc (.cells #[.int .i64 (-x), .int .i64 y] 66)).heap.size = w.heap.size + 1 from by simp] at h
        exact h
      exact ⟨0, (-x), y, Nat.zero_le _, rfl, HST.out, hb1, hb2, (by (repeat (first | with_reducible exact Below.refl _ _ | with_reducible assumption | with_reducible apply bel_alloc | with_reducible apply bel_drew | with_reducible apply bel_drewN | ((with_reducible refine bel_set ?_ ?_); rotate_left; (simp <;> omega)) | (with_reducible refine bel_trans ?_ (by with_reducible assumption)))))⟩
    case round =>
      obtain ⟨j, x', y', hj, rfl, hrot, hB, hB2, hb⟩ := hrel
      have ho : in7 1000 (x', y') := by rw [← hrot]; exact in7_rot HOK.out j
      obtain ⟨⟨k1, k2⟩, k3, k4⟩ := ho
      simp only at k1 k2 k3 k4
      have en : IntKind.i64.wrap (-y') = -y' := Go.IntWalk.i64_in _ (by omega)
      have c0 : wr.cell? ⟨w.heap.size, 0, none⟩ = some (.int .i64 x') := by simpa using hB.cell 0
      have c1 : wr.cell? ⟨w.heap.size, 1, none⟩ = some (.int .i64 y') := by simpa using hB.cell 1
      have f0 := hB.frozen 0
      have f1 := hB.frozen 1
      have d0 : wr.cell? ⟨w.heap.size + 1, 0, none⟩ = some (.int .i64 0) := by simpa using hB2.cell 0
      have d1 : wr.cell? ⟨w.heap.size + 1, 1, none⟩ = some (.int .i64 0) := by simpa using hB2.cell 1
      have fd0 := hB2.frozen 0
      have fd1 := hB2.frozen 1
      by_cases hlt : j < r
      · have hj1 : (j : Int) < (r : Int) := by omega
        have HR : Hid (rotC (j + 1) (flipC m (x, y)) = (-y', x')) := by show (-(rotC j _).2, (rotC j _).1) = _; rw [hrot]
        have hS : Blk ((wr.setCell ⟨w.heap.size, 0, none⟩ (.int .i64 (-y'))).setCell ⟨w.heap.size, 1, none⟩ (.int .i64 x')) w.heap.size 66 #[.int .i64 (-y'), .int .i64 x'] := by simpa using (hB.set_ 0 (.int .i64 (-y'))).set_ 1 (.int .i64 x')
        have hS2 : Blk ((wr.setCell ⟨w.heap.size, 0, none⟩ (.int .i64 (-y'))).setCell ⟨w.heap.size, 1, none⟩ (.int .i64 x')) (w.heap.size + 1) 66 #[.int .i64 0, .int .i64 0] := (hB2.far (by simp) _).far (by simp) _
        have HS := Lib.hid hS
        have HS2 := Lib.hid hS2
        clear hrot hB hB2 hS hS2
        go_wp2
        exact ⟨⟨j + 1, -y', x', by omega, by go_num, HR.out, HS.out, HS2.out, (by (repeat (first | with_reducible exact Below.refl _ _ | with_reducible assumption | with_reducible apply bel_alloc | with_reducible apply bel_drew | with_reducible apply bel_drewN | ((with_reducible refine bel_set ?_ ?_); rotate_left; (simp <;> omega)) | (with_reducible refine bel_trans ?_ (by with_reducible assumption)))))⟩, by simp [intOf]; omega⟩
      · have hjr : j = r := by omega
        subst hjr
        have HV : Hid (motC m (x, y) = (x', y')) := by show motC m (x, y) = _; rw [HC.out, hrot]
        have hj1 : ¬ (j : Int) < (j : Int) := by omega
        clear hrot hB hB2
        go_wp2
        exact bodyPost_ret (v := .agg #[.int .i64 x', .int .i64 y']) (by simp [results, Tryz.results113, go_sem, d0, d1]) rfl ⟨by rw [HV.out], (by (repeat (first | with_reducible exact Below.refl _ _ | with_reducible assumption | with_reducible apply bel_alloc | with_reducible apply bel_drew | with_reducible apply bel_drewN | ((with_reducible refine bel_set ?_ ?_); rotate_left; (simp <;> omega)) | (with_reducible refine bel_trans ?_ (by with_reducible assumption)))))⟩
  · have HST : Hid (rotC 0 (flipC m (x, y)) = (x, y)) := by show flipC m (x, y) = _; unfold flipC; rw [if_neg h4m]
    have h4i : ¬ (m : Int) ≥ 4 := by omega
    go_enter Tryz.func113, Tryz.ntmps113
    go_wp2
    go_loopw [5] (fun e13 wr => ∃ (j : Nat) (x' y' : Int), j ≤ r ∧ e13 = .int .i64 j ∧ rotC j (flipC m (x, y)) = (x', y') ∧ Blk wr w.heap.size 66 #[.int .i64 x', .int .i64 y'] ∧ Blk wr (w.heap.size + 1) 66 #[.int .i64 0, .int .i64 0] ∧ Below w.heap.size w wr) (fun e13 _ => r - (intOf e13).toNat)
    case atStart =>
      have hb1 : Blk ((w.alloc (.cells #[.int .i64 x, .int .i64 y] 66)).alloc (.cells #[.int .i64 0, .int .i64 0] 66)) w.heap.size 66 #[.int .i64 x, .int .i64 y] := (Blk.new w 66 #[.int .i64 x, .int .i64 y]).alloc _
      have hb2 : Blk ((w.alloc (.cells #[.int .i64 x, .int .i64 y] 66)).alloc (.cells #[.int .i64 0, .int .i64 0] 66)) (w.heap.size + 1) 66 #[.int .i64 0, .int .i64 0] := by
        have h := Blk.new (w.alloc (.cells #[.int .i64 x, .int .i64 y] 66)) 66 #[.int .i64 0, .int .i64 0]
        rw [show (w.alloc (.cells #[.int .i64 x, .int .i64 y] 66)).heap.size = w.heap.size + 1 from by simp] at h
        exact h
      exact ⟨0, x, y, Nat.zero_le _, rfl, HST.out, hb1, hb2, (by (repeat (first | with_reducible exact Below.refl _ _ | with_reducible assumption | with_reducible apply bel_alloc | with_reducible apply bel_drew | with_reducible apply bel_drewN | ((with_reducible refine bel_set ?_ ?_); rotate_left; (simp <;> omega)) | (with_reducible refine bel_trans ?_ (by with_reducible assumption)))))⟩
    case round =>
      obtain ⟨j, x', y', hj, rfl, hrot, hB, hB2, hb⟩ := hrel
      have ho : in7 1000 (x', y') := by rw [← hrot]; exact in7_rot HOK.out j
      obtain ⟨⟨k1, k2⟩, k3, k4⟩ := ho
      simp only at k1 k2 k3 k4
      have en : IntKind.i64.wrap (-y') = -y' := Go.IntWalk.i64_in _ (by omega)
      have c0 : wr.cell? ⟨w.heap.size, 0, none⟩ = some (.int .i64 x') := by simpa using hB.cell 0
      have c1 : wr.cell? ⟨w.heap.size, 1, none⟩ = some (.int .i64 y') := by simpa using hB.cell 1
      have f0 := hB.frozen 0
      have f1 := hB.frozen 1
      have d0 : wr.cell? ⟨w.heap.size + 1, 0, none⟩ = some (.int .i64 0) := by simpa using hB2.cell 0
      have d1 : wr.cell? ⟨w.heap.size + 1, 1, none⟩ = some (.int .i64 0) := by simpa using hB2.cell 1
      have fd0 := hB2.frozen 0
      have fd1 := hB2.frozen 1
      by_cases hlt : j < r
      · have hj1 : (j : Int) < (r : Int) := by omega
        have HR : Hid (rotC (j + 1) (flipC m (x, y)) = (-y', x')) := by show (-(rotC j _).2, (rotC j _).1) = _; rw [hrot]
        have hS : Blk ((wr.setCell ⟨w.heap.size, 0, none⟩ (.int .i64 (-y'))).setCell ⟨w.heap.size, 1, none⟩ (.int .i64 x')) w.heap.size 66 #[.int .i64 (-y'), .int .i64 x'] := by simpa using (hB.set_ 0 (.int .i64 (-y'))).set_ 1 (.int .i64 x')
        have hS2 : Blk ((wr.setCell ⟨w.heap.size, 0, none⟩ (.int .i64 (-y'))).setCell ⟨w.heap.size, 1, none⟩ (.int .i64 x')) (w.heap.size + 1) 66 #[.int .i64 0, .int .i64 0] := (hB2.far (by simp) _).far (by simp) _
        have HS := Lib.hid hS
        have HS2 := Lib.hid hS2
        clear hrot hB hB2 hS hS2
        go_wp2
        exact ⟨⟨j + 1, -y', x', by omega, by go_num, HR.out, HS.out, HS2.out, (by (repeat (first | with_reducible exact Below.refl _ _ | with_reducible assumption | with_reducible apply bel_alloc | with_reducible apply bel_drew | with_reducible apply bel_drewN | ((with_reducible refine bel_set ?_ ?_); rotate_left; (simp <;> omega)) | (with_reducible refine bel_trans ?_ (by with_reducible assumption)))))⟩, by simp [intOf]; omega⟩
      · have hjr : j = r := by omega
        subst hjr
        have HV : Hid (motC m (x, y) = (x', y')) := by show motC m (x, y) = _; rw [HC.out, hrot]
        have hj1 : ¬ (j : Int) < (j : Int) := by omega
        clear hrot hB hB2
        go_wp2
        exact bodyPost_ret (v := .agg #[.int .i64 x', .int .i64 y']) (by simp [results, Tryz.results113, go_sem, d0, d1]) rfl ⟨by rw [HV.out], (by (repeat (first | with_reducible exact Below.refl _ _ | with_reducible assumption | with_reducible apply bel_alloc | with_reducible apply bel_drew | with_reducible apply bel_drewN | ((with_reducible refine bel_set ?_ ?_); rotate_left; (simp <;> omega)) | (with_reducible refine bel_trans ?_ (by with_reducible assumption)))))⟩
theorem map_takeS {α β : Type} (f : α → β) (xs : List α) (k : Nat) (hk : k < xs.length) : (xs.take (k + 1)).map f = (xs.take k).map f ++ [f xs[k]] := by
  rw [List.take_succ_eq_append_getElem hk, List.map_append]; rfl
set_option maxHeartbeats 1600000 in
theorem l3Turn_s (A : Option Addr) (n c : Nat) (xs : List C) (m : Nat) (w : World) (hr : Rd w A (vC xs)) (hl : xs.length = n) (hs : isShape xs = true) (hm : m < 8) :
    Calls Tryz.prog 90 #[.slice A n c, .int .i64 (m : Int)] w (RetS w 66 2 (vC (turnV xs m))) := by
  have hn8 := shape_len hs
  have hti := turn_in hs m
  have hob := shape_onB hs
  rw [hl] at hn8
  obtain ⟨hn1, hn8⟩ := hn8
  have HL := Lib.hid hl
  have HR := Lib.hid hr
  have HTI := Lib.hid hti
  have HOB := Lib.hid hob
  clear hl hr hs hti hob
  go_enter Tryz.func90, Tryz.ntmps90
  have HI0 := Lib.hid (own_new w 66 2 0 #[] rfl (by simp [maxLen]) (Nat.le_refl _))
  go_wp2
  go_loopw [6, 5] (fun e10 e5 wr => ∃ (k cq : Nat) (D : Option Addr), k ≤ n ∧ e10 = .int .i64 k ∧ e5 = .slice D k cq ∧ wr.ownsRow w.heap.size 66 2 (.slice D k cq) k (vC ((xs.take k).map (motC m))) ∧ Below w.heap.size w wr) (fun e10 _ _ => n - (intOf e10).toNat)
  case atStart => exact ⟨0, 0, _, Nat.zero_le _, rfl, rfl, HI0.out, bel_alloc (Below.refl _ _) _⟩
  case round =>
    clear HI0
    obtain ⟨k, cq, D, hk, rfl, rfl, hown, hb⟩ := hrel
    by_cases hlt : k < n
    · have hkl : k < xs.length := by rw [HL.out]; exact hlt
      have hk0 : (0 : Int) ≤ (k : Int) := by omega
      have hk1 : (k : Int) < (n : Int) := by omega
      obtain ⟨g, off, hA, hg, d1, d2⟩ := RdC.at_ (HR.out.below hb) hkl
      subst hA
      have hst := map_takeS (motC m) xs k hkl
      have h7 := in7_onB (HOB.out _ (List.getElem_mem hkl))
      obtain ⟨p, hp⟩ : ∃ p, xs[k].1 = p := ⟨_, rfl⟩
      obtain ⟨q, hq⟩ : ∃ q, xs[k].2 = q := ⟨_, rfl⟩
      rw [show xs[k] = (p, q) from Prod.ext hp hq] at hst h7
      rw [hp] at d1
      rw [hq] at d2
      have hK : in7 1000 (p, q) := by unfold in7 at h7 ⊢; simp only at h7 ⊢; omega
      obtain ⟨⟨x', y'⟩, hxy⟩ : ∃ z, motC m (p, q) = z := ⟨_, rfl⟩
      rw [hxy] at hst
      have HCA : Hid (∀ w0, Calls Tryz.prog 113 #[.agg #[.int .i64 p, .int .i64 q], .int .i64 (m : Int)] w0 (Ret w0 (.agg #[.int .i64 x', .int .i64 y']))) := fun w0 => by
        have h := l3Apply_s p q m w0 hK hm
        rw [hxy] at h
        exact h
      have HST := Lib.hid hst
      have HO := Lib.hid hown
      clear hst hown hp hq h7 hxy hK
      go_wp2_with fail
      refine (HCA.out _).mono ?_
      rintro e w2 ⟨rfl, hb2⟩
      have hb02 := bel_trans hb hb2
      have HO2 := Lib.hid (own_keep HO.out hb2)
      have hbz := hb02.size
      clear d1 d2
      go_wp2_with (at_builtin; go_must (refine app_C _ rfl _ _ rfl w.heap.size _ _ _ _ rfl (HO2.out.alloc _) _ _ _ [(x', y')] rfl (rd_newC _ _ _ _) rfl (by omega) (by simp; omega) ?_); intro D2 cp2 w8 ho8 hg8 hat8; have HO8 := Lib.hid ho8; have HG8 := Lib.hid hg8; clear ho8 hg8 hat8)
      exact ⟨⟨k + 1, cp2, D2, by omega, by go_num, rfl, by rw [HST.out]; exact HO8.out, bel_app (bel_alloc hb02 _) HG8.out (fun g' hg1 => ((own_lt HO2.out) g' hg1).1)⟩, by simp [intOf]; omega⟩
    · obtain rfl : k = n := by omega
      rw [List.take_of_length_le (by rw [HL.out]; omega)] at hown
      have HO := Lib.hid hown
      have hk1 : ¬ (k : Int) < (k : Int) := by omega
      clear hown
      go_wp2_with fail
      refine (SortCells_s D k cq (xs.map (motC m)) _ (Rd.of_own HO.out) (by rw [List.length_map]; exact HL.out) (by omega)).mono ?_
      rintro e w2 ⟨E, q, ce, rfl, hO2, hb2⟩
      have hql : (sortC (xs.map (motC m))).length = q := by have := own_len hO2; rw [vC_length] at this; omega
      have hq8 : q ≤ 8 := by have := sortC_len (xs.map (motC m)); rw [List.length_map, HL.out] at this; omega
      have HO2 := Lib.hid hO2
      have HQL := Lib.hid hql
      clear hO2 hql
      go_wp2_with fail
      refine (l2Corner_s E q ce (sortC (xs.map (motC m))) _ (Rd.of_own HO2.out) HQL.out (by omega) (fun d hd => by have := HTI.out d ((sortC_mem _ _).1 hd); unfold in7 at this; unfold small; omega)).mono ?_
      rintro e w3 ⟨G, q3, cg, rfl, hO3, hb3⟩
      have HV : Hid (turnV xs m = cornS (sortC (xs.map (motC m)))) := by show cornI _ = _; exact corn_eq (by rw [List.length_map, HL.out]; omega)
      have HO3 := Lib.hid hO3
      have hbz := (bel_trans hb hb2).size
      clear hO3
      go_wp2_with fail
      go_ret
      exact ⟨G, q3, cg, rfl, by rw [HV.out]; exact own_base HO3.out hbz, bel_trans (bel_trans hb hb2) hb3⟩
set_option maxHeartbeats 1600000 in
theorem OrientationsOf_s (A : Option Addr) (n c : Nat) (xs : List C) (w : World) (hr : Rd w A (vC xs)) (hl : xs.length = n) (hs : isShape xs = true) :
    Calls Tryz.prog 75 #[.slice A n c] w (PutS w.heap.size w (orV xs)) := by
  have hn8 := (shape_len hs).2
  rw [hl] at hn8
  have hV : orV xs = orTo xs 8 := by unfold orV; rw [if_pos hs]
  have HTL : Hid (∀ m, 1 ≤ (turnV xs m).length ∧ (turnV xs m).length ≤ 8) := fun m => turn_len hs m
  have hmem := orTo_mem xs
  have HME : Hid (∀ k, ∀ x ∈ orTo xs k, x.length ≤ 1048576) := fun k x hx => by
    obtain ⟨m, _, rfl⟩ := hmem k x hx
    have := (turn_len hs m).2
    omega
  have HV := Lib.hid hV
  have HL := Lib.hid hl
  have HR := Lib.hid hr
  have HS := Lib.hid hs
  have HI0 : Hid (OwnF w.heap.size (w.alloc (.cells #[] 51)) (some ⟨w.heap.size, 0, none⟩) 0 0 [] []) := OwnF.none_ (own_new w 51 1 0 #[] rfl (by simp [maxLen]) (Nat.le_refl _))
  clear hl hr hs hV hmem
  go_enter Tryz.func75, Tryz.ntmps75
  go_wp2_with fail
  go_loopw [4, 3] (fun e8 e3 wr => ∃ (m q cq g : Nat) (hs : List H), m ≤ 8 ∧ e8 = .int .i64 m ∧ e3 = .slice (some ⟨g, 0, none⟩) q cq ∧ OwnF w.heap.size wr (some ⟨g, 0, none⟩) q cq hs (orTo xs m) ∧ Below w.heap.size w wr) (fun e8 _ _ => 8 - (intOf e8).toNat)
  case atStart => exact ⟨0, 0, 0, _, [], Nat.zero_le _, rfl, rfl, HI0.out, bel_alloc (Below.refl _ _) _⟩
  case round =>
    clear HI0
    obtain ⟨m, q, cq, g, hs, hm, rfl, rfl, hO, hb⟩ := hrel
    have hql : (orTo xs m).length = q := hO.flen
    have hol := orTo_len xs m
    have HO := Lib.hid hO
    clear hO
    by_cases hlt : m < 8
    · have hm0 : (0 : Int) ≤ (m : Int) := by omega
      have hm1 : (m : Int) < 8 := by omega
      have hst : orTo xs (m + 1) = putG ltS (orTo xs m) (turnV xs m) := rfl
      have hme := HME.out m
      have htl := HTL.out m
      obtain ⟨F, hF⟩ : ∃ F, orTo xs m = F := ⟨_, rfl⟩
      obtain ⟨t, ht⟩ : ∃ t, turnV xs m = t := ⟨_, rfl⟩
      have HTU : Hid (∀ w0, Rd w0 A (vC xs) → Calls Tryz.prog 90 #[.slice A n c, .int .i64 (m : Int)] w0 (RetS w0 66 2 (vC t))) := fun w0 h => by
        have h2 := l3Turn_s A n c xs m w0 h HL.out HS.out hlt
        rw [ht] at h2
        exact h2
      rw [hF, ht] at hst
      rw [hF] at hme hql HO hol
      rw [ht] at htl
      have HST := Lib.hid hst
      have HMF := Lib.hid hme
      clear hst hF ht hme
      go_wp2_with fail
      refine (IsShape_s A n c xs _ (HR.out.below hb) HL.out (by omega)).mono ?_
      rw [HS.out]
      rintro e w1 ⟨rfl, hb1⟩
      have hb01 := bel_trans hb hb1
      go_wp2_with fail
      refine (HTU.out _ (HR.out.below hb01)).mono ?_
      rintro e w2 ⟨E, q2, c2, rfl, hT, hb2⟩
      have hq2 : t.length = q2 := by have := own_len hT; rw [vC_length] at this; omega
      have hO2 := (HO.out.below hb1).below hb2
      have hb12 := bel_trans hb01 hb2
      have HO2 := Lib.hid hO2
      have HCR := Lib.hid (CRow.of_own hT)
      have hz2 := hb12.size
      clear hO2 hT HO
      go_wp2_with fail
      refine (l3Put_s g q cq hs F E q2 c2 t w.heap.size _ HO2.out HCR.out HMF.out (by omega) (by omega) hz2).mono ?_
      rintro e w3 ⟨g3, n3, c3, hs3, rfl, hO3, hb3⟩
      have HO3 := Lib.hid hO3
      clear hO3
      go_wp2_with fail
      exact ⟨⟨m + 1, n3, c3, g3, hs3, by omega, by go_num, rfl, by rw [HST.out]; exact HO3.out, bel_trans hb12 hb3⟩, by simp [intOf]; omega⟩
    · obtain rfl : m = 8 := by omega
      rw [← HV.out] at HO
      have hm1 : ¬ ((8 : Nat) : Int) < 8 := by omega
      go_wp2_with fail
      go_ret
      exact ⟨g, q, cq, hs, rfl, HO.out, hb⟩
end Go.Proofs.YtoedmmhiinhljaaGreatDoor

/- The placements of a shape, of all pieces, in a region: the reference. -/
namespace Go.Proofs.YtoedmmhiinhljaaGreatDoor
open Go.RowKit
set_option linter.unusedVariables false
attribute [local go_sem ↓] Go.wp_at_zero Go.wp_at_succ

theorem mv_smallS {t : List C} (h : ∀ c ∈ t, (0 ≤ c.1 ∧ c.1 ≤ 14) ∧ (0 ≤ c.2 ∧ c.2 ≤ 14)) {x y : Nat} (hx : x ≤ 6) (hy : y ≤ 6) : ∀ d ∈ mv t (x : Int) (y : Int), small d := by
  intro d hd
  rw [mv_mem] at hd
  have := h _ hd
  simp only at this
  unfold small
  omega
set_option maxRecDepth 100000 in
set_option maxHeartbeats 6400000 in
theorem PlacementsOf_s (W : Int) (A B : Option Addr) (n c k cb : Nat) (rows : List Int) (xs : List C) (w : World) (hr : Rd w A (vI rows)) (hl : rows.length = n) (hv : isReg W rows = true) (hrx : Rd w B (vC xs)) (hlx : xs.length = k) (hs : isShape xs = true) :
    Calls Tryz.prog 58 #[.agg #[.int .i64 W, .slice A n c], .slice B k cb] w (RetO w w.heap.size 3 1 (vI (plV W rows xs))) := by
  have hv0 := hv
  have hPV : plV W rows xs = putAll (rawTo W rows (orV xs) (orV xs).length) := by unfold plV; rw [if_pos hv]; rfl
  obtain ⟨m, rfl, hm1, hm6, hn1, hn6, hrow⟩ := isReg_yes hv
  have h36 : m * rows.length ≤ 6 * 6 := Nat.mul_le_mul hm6 hn6
  have hmt : ((m : Int)).toNat = m := Int.toNat_natCast _
  have hfine := orV_fine (s := xs)
  have hol := orV_len xs
  have HLX := Lib.hid hlx
  have HSX := Lib.hid hs
  obtain ⟨F, hF⟩ : ∃ F, orV xs = F := ⟨_, rfl⟩
  rw [hF] at hPV hfine hol
  have HF := Lib.hid hF
  have HPV := Lib.hid hPV
  have HFI := Lib.hid hfine
  have HL := Lib.hid hl
  have HV := Lib.hid hv0
  have HR := Lib.hid ((hr.alloc (.cells #[.int .i64 (m : Int), .slice A n c] 29)).alloc (.cells #[] 3))
  have HRX := Lib.hid ((hrx.alloc (.cells #[.int .i64 (m : Int), .slice A n c] 29)).alloc (.cells #[] 3))
  have H36 : Hid (m * rows.length ≤ 36) := h36
  have HMT := Lib.hid hmt
  have HI0 : Hid (((w.alloc (.cells #[.int .i64 (m : Int), .slice A n c] 29)).alloc (.cells #[] 3)).ownsRow w.heap.size 3 1 (.slice (some ⟨w.heap.size + 1, 0, none⟩) 0 0) 0 (vI [])) := by
    have h := own_new (w.alloc (.cells #[.int .i64 (m : Int), .slice A n c] 29)) 3 1 0 #[] rfl (by simp [maxLen]) (base := w.heap.size) (by simp)
    exact Lib.hid (by simpa [vI] using h)
  rw [hl] at hn1 hn6
  clear hl hr hrow hv hv0 hrx hlx hs h36 hmt hPV hfine hF
  go_enter Tryz.func58, Tryz.ntmps58
  go_wp2_with fail
  refine (OrientationsOf_s B k cb xs _ HRX.out HLX.out HSX.out).mono ?_
  rw [HF.out]
  rintro e w1 ⟨gA, q0, c0, hs, rfl, hO0, hb1⟩
  have HB1 := Lib.hid (((Blk.new w 29 #[.int .i64 (m : Int), .slice A n c]).alloc (.cells #[] 3)).below hb1)
  have HR1 := Lib.hid (HR.out.below hb1)
  have hbw1 : Below w.heap.size w w1 := bel_trans (bel_alloc (bel_alloc (Below.refl _ _) _) _) hb1
  have HI1 := Lib.hid (own_keep HI0.out hb1)
  have HRF := Lib.hid hO0.rd
  have HFL := Lib.hid hO0.flen
  have hq8 : q0 ≤ 8 := by have := hO0.flen; omega
  have hgA := (own_lt hO0.own gA rfl).2
  have HGR : Hid (∀ (i : Nat) x f, hs[i]? = some x → F[i]? = some f → ∀ g, ob x.1 = some g → g < w1.heap.size) := fun i x f h1 h2 g e => (hO0.row i x f h1 h2).lt g e
  clear hb1 hO0 HI0
  go_wp2_with fail
  go_loopw [7, 5] (fun e15 e5 wr => ∃ (i q cq g : Nat), i ≤ q0 ∧ e15 = .int .i64 i ∧ e5 = .slice (some ⟨g, 0, none⟩) q cq ∧ wr.ownsRow w.heap.size 3 1 (.slice (some ⟨g, 0, none⟩) q cq) q (vI (putAll (rawTo (m : Int) rows F i))) ∧ Below w1.heap.size w1 wr) (fun e15 _ _ => q0 - (intOf e15).toNat)
  case atStart => exact ⟨0, 0, 0, _, Nat.zero_le _, rfl, rfl, by simpa [rawTo, putAll] using HI1.out, Below.refl _ _⟩
  case round =>
    clear HI1
    obtain ⟨i, q, cq, gD, hi, rfl, rfl, hO, hb⟩ := hrel
    have hB := HB1.out.below hb
    have b0 : wr.cell? ⟨w.heap.size, 0, none⟩ = some (.int .i64 (m : Int)) := by simpa using hB.cell 0
    have b1 : wr.cell? ⟨w.heap.size, 1, none⟩ = some (.slice A n c) := by simpa using hB.cell 1
    have hgw := hB.lt
    clear hB
    by_cases hlt : i < q0
    · have hi0 : (0 : Int) ≤ (i : Int) := by omega
      have hi1 : (i : Int) < (q0 : Int) := by omega
      obtain ⟨x, t, gA', off, hsx, hfx, hAe, hg, d1, hrow⟩ := HRF.out.at_ hlt
      simp only [Option.some.injEq, Addr.mk.injEq, and_true] at hAe
      obtain ⟨rfl, rfl⟩ := hAe
      rw [Nat.zero_add] at d1
      have hft := HFI.out t (List.mem_of_getElem? hfx)
      have hgrt := HGR.out i x t hsx hfx
      have hstep : rawTo (m : Int) rows F (i + 1) = rawTo (m : Int) rows F i ++ rowY (m : Int) rows t n := by
        show _ ++ rowY _ _ (F.getD i []) rows.length = _
        rw [List.getD_eq_getElem?_getD, hfx, Option.getD_some, HL.out]
      have hol2 := (rawTo_msk H36.out F i).2
      obtain ⟨C1, m1, k1⟩ := x
      have hl1 : t.length = m1 := hrow.1
      obtain ⟨O, hOe⟩ : ∃ O, rawTo (m : Int) rows F i = O := ⟨_, rfl⟩
      rw [hOe] at hstep hO hol2
      have hrt : Rd w1 C1 (vC t) := hrow.2.1
      have HRT := Lib.hid hrt
      have HL1 := Lib.hid hl1
      have HFT := Lib.hid hft
      have HST := Lib.hid hstep
      have HO := Lib.hid hO
      have HGT := Lib.hid hgrt
      have hOl : O.length ≤ 288 := by omega
      dsimp only at d1
      have HD1 := Lib.hid d1
      have hm8 : m1 ≤ 8 := by have := hft.1.2; omega
      clear hsx hfx hrow hstep hO hl1 hft hOe hrt hol2 hgrt d1
      go_wp2_with fail
      refine (IsRegion_s _ _ _ _ rows _ (HR1.out.below hb) HL.out).mono ?_
      rw [HV.out]
      rintro e w2 ⟨rfl, hb2⟩
      have hb12 := bel_trans hb hb2
      have HO2 := Lib.hid (own_keep HO.out hb2)
      clear HO b0 b1 hgw
      go_wp2_with fail
      go_loopw [8, 5] (fun e22 e5 wr => ∃ (y q cq gD : Nat), y ≤ n ∧ e22 = .int .i64 y ∧ e5 = .slice (some ⟨gD, 0, none⟩) q cq ∧ wr.ownsRow w.heap.size 3 1 (.slice (some ⟨gD, 0, none⟩) q cq) q (vI (putAll (O ++ rowY (m : Int) rows t y))) ∧ Below w1.heap.size w1 wr) (fun e22 _ _ => n - (intOf e22).toNat)
      case atStart => exact ⟨0, q, cq, gD, Nat.zero_le _, rfl, rfl, by simpa [rowY] using HO2.out, hb12⟩
      case round =>
        clear HO2 hb hb2 hb12
        obtain ⟨y, q, cq, gD, hy, rfl, rfl, hO, hb⟩ := hrel
        have hB := HB1.out.below hb
        have b0 : wr.cell? ⟨w.heap.size, 0, none⟩ = some (.int .i64 (m : Int)) := by simpa using hB.cell 0
        have b1 : wr.cell? ⟨w.heap.size, 1, none⟩ = some (.slice A n c) := by simpa using hB.cell 1
        have hgw := hB.lt
        clear hB
        by_cases hly : y < n
        · have hy0 : (0 : Int) ≤ (y : Int) := by omega
          have hy1 : (y : Int) < (n : Int) := by omega
          have hstY : rowY (m : Int) rows t (y + 1) = rowY (m : Int) rows t y ++ rowX (m : Int) rows t y m := by show _ ++ rowX _ _ _ _ _ = _; rw [HMT.out]
          have hyl := (rowY_msk H36.out t y).2
          obtain ⟨O2, hO2⟩ : ∃ O2, O ++ rowY (m : Int) rows t y = O2 := ⟨_, rfl⟩
          have hstY2 : O ++ rowY (m : Int) rows t (y + 1) = O2 ++ rowX (m : Int) rows t y m := by rw [hstY, ← List.append_assoc, hO2]
          have hO2l : O2.length ≤ 400 := by
            rw [← hO2, List.length_append]
            have : y * m ≤ 6 * 6 := Nat.mul_le_mul (by omega) hm6
            omega
          rw [hO2] at hO
          have HST2 := Lib.hid hstY2
          have HO := Lib.hid hO
          clear hstY hyl hO2 hstY2 hO
          go_wp2_with fail
          go_loopw [9, 5] (fun e27 e5 wr => ∃ (x q cq gD : Nat), x ≤ m ∧ e27 = .int .i64 x ∧ e5 = .slice (some ⟨gD, 0, none⟩) q cq ∧ wr.ownsRow w.heap.size 3 1 (.slice (some ⟨gD, 0, none⟩) q cq) q (vI (putAll (O2 ++ rowX (m : Int) rows t y x))) ∧ Below w1.heap.size w1 wr) (fun e27 _ _ => m - (intOf e27).toNat)
          case atStart => exact ⟨0, q, cq, gD, Nat.zero_le _, rfl, rfl, by simpa [rowX] using HO.out, hb⟩
          case round =>
            clear HO hb b0 b1 hgw
            obtain ⟨x, q, cq, gD, hx, rfl, rfl, hO, hb⟩ := hrel
            have hB := HB1.out.below hb
            have b0 : wr.cell? ⟨w.heap.size, 0, none⟩ = some (.int .i64 (m : Int)) := by simpa using hB.cell 0
            have b1 : wr.cell? ⟨w.heap.size, 1, none⟩ = some (.slice A n c) := by simpa using hB.cell 1
            have hgw := hB.lt
            clear hB
            have hql : (putAll (O2 ++ rowX (m : Int) rows t y x)).length = q := by have := own_len hO; rw [vI_length] at this; omega
            have hpl := putAll_len (O2 ++ rowX (m : Int) rows t y x)
            have hxl := (rowX_msk H36.out t y x).2
            rw [List.length_append] at hpl
            have hq500 : q ≤ 500 := by omega
            by_cases hlx : x < m
            · have hx0 : (0 : Int) ≤ (x : Int) := by omega
              have hx1 : (x : Int) < (m : Int) := by omega
              obtain ⟨r, hmc⟩ : ∃ r, mcV (m : Int) rows (mv t (x : Int) (y : Int)) 0 = r := ⟨_, rfl⟩
              have hstX : O2 ++ rowX (m : Int) rows t y (x + 1) = (O2 ++ rowX (m : Int) rows t y x) ++ optL r := by
                show O2 ++ (_ ++ plAt _ _ _ _ _) = _
                unfold plAt
                rw [hmc, List.append_assoc]
              obtain ⟨O3, hO3⟩ : ∃ O3, O2 ++ rowX (m : Int) rows t y x = O3 := ⟨_, rfl⟩
              rw [hO3] at hstX hO
              have HST3 := Lib.hid hstX
              have HO := Lib.hid hO
              have HMC := Lib.hid hmc
              have HSV : Hid (∀ d ∈ mv t (x : Int) (y : Int), small d) := mv_smallS HFT.out.2 (by omega) (by omega)
              have HDI : Hid ((wr.alloc (.cells #[] 66)).ownsRow wr.heap.size 66 2 (.slice (some ⟨wr.heap.size, 0, none⟩) 0 0) 0 (vC ((mv t (x : Int) (y : Int)).take 0))) := by
                have h := own_new wr 66 2 0 #[] rfl (by simp [maxLen]) (Nat.le_refl wr.heap.size)
                exact Lib.hid (by simpa [vC] using h)
              have HWB : Hid (Below wr.heap.size wr (wr.alloc (.cells #[] 66))) := bel_alloc (Below.refl _ _) _
              clear hstX hO hmc hO3 hql hxl hpl
              go_wp2_with fail
              go_loopw [11, 10] (fun e11 e10 wq => ∃ (j cj : Nat) (E : Option Addr), j ≤ m1 ∧ e11 = .int .i64 j ∧ e10 = .slice E j cj ∧ wq.ownsRow wr.heap.size 66 2 (.slice E j cj) j (vC ((mv t (x : Int) (y : Int)).take j)) ∧ Below wr.heap.size wr wq) (fun e11 _ _ => m1 - (intOf e11).toNat)
              case atStart => exact ⟨0, 0, _, Nat.zero_le _, rfl, rfl, HDI.out, HWB.out⟩
              case round =>
                clear HDI HWB
                obtain ⟨j, cj, E, hj, rfl, rfl, hM, hbj⟩ := hrel
                have hb1j := bel_trans hb hbj
                have d1 := keep_below hb1j HD1.out
                have hgAj : gA < wr.heap.size := Nat.lt_of_lt_of_le hgA hb1j.size
                by_cases hlj : j < m1
                · have hjl : j < t.length := by rw [HL1.out]; exact hlj
                  have hj0 : (0 : Int) ≤ (j : Int) := by omega
                  have hj1 : (j : Int) < (m1 : Int) := by omega
                  obtain ⟨g, off, hA, hg0, d2, d3⟩ := RdC.at_ HRT.out hjl
                  have hg1 := HGT.out g (by rw [hA]; rfl)
                  have d2 := keep_below hb1j d2
                  have d3 := keep_below hb1j d3
                  have hgj : g < wr.heap.size := Nat.lt_of_lt_of_le hg1 hb1j.size
                  have hbsz := hb.size
                  have hgE : ¬ (some g = ob E) := fun e => by have := (own_lt hM g e.symm).1; omega
                  have hgAE : ¬ (some gA = ob E) := fun e => by have := (own_lt hM gA e.symm).1; omega
                  have hml : j < (mv t (x : Int) (y : Int)).length := by rw [mv_len]; exact hjl
                  have hst : (mv t (x : Int) (y : Int)).take (j + 1) = (mv t (x : Int) (y : Int)).take j ++ [(t[j].1 + (x : Int), t[j].2 + (y : Int))] := by
                    rw [List.take_succ_eq_append_getElem hml]
                    simp [mv]
                  have hsm := HFT.out.2 _ (List.getElem_mem hjl)
                  obtain ⟨p, hp⟩ : ∃ p, t[j].1 = p := ⟨_, rfl⟩
                  obtain ⟨r', hr'⟩ : ∃ r', t[j].2 = r' := ⟨_, rfl⟩
                  rw [hp, hr'] at hst hsm
                  rw [hp] at d2
                  rw [hr'] at d3
                  have e1 : IntKind.i64.wrap (p + (x : Int)) = p + (x : Int) := Go.IntWalk.i64_in _ (by omega)
                  have e2 : IntKind.i64.wrap (r' + (y : Int)) = r' + (y : Int) := Go.IntWalk.i64_in _ (by omega)
                  have HSTJ := Lib.hid hst
                  have HM := Lib.hid hM
                  have hbs := hbj.size
                  subst hA
                  clear hst hM hp hr' hsm hml hg0 b0 b1 hgw
                  go_wp2_with fail
                  (refine wp_region_tailN (C := Gr wr E) 22 (by kernel_rfl) (by kernel_rfl) (Gr.drawn _ _) (fun _ _ h k => h.ext k) ?_; simp only [List.take_succ_cons, List.take_zero, List.drop_succ_cons, List.drop_zero]; (repeat (first | (refine headSkip (by rfl) rfl ?_; simp only [List.setIfInBounds_toArray, List.set_cons_zero, List.set_cons_succ]) | (refine headV (v := ?_) (by rfl) rfl (fun w' hcw => ?_) ?_; rotate_left; ((try dsimp only at hcw); have hbc := hcw.cells; go_simp; first | done | with_reducible rfl | fail); simp only [List.setIfInBounds_toArray, List.set_cons_zero, List.set_cons_succ]))); unfold wpHead)
                  (refine tailK (by rfl) (fun w3 hc3 he3 K hK => ?_); go_simp; refine hK _ _ (hc3.ext (by (repeat (first | with_reducible exact Below.refl _ _ | with_reducible assumption | with_reducible apply bel_alloc | with_reducible apply bel_drew | with_reducible apply bel_drewN | ((with_reducible refine bel_set ?_ ?_); rotate_left; (simp <;> omega)) | (with_reducible refine bel_trans ?_ (by with_reducible assumption)))))) ?_; clear hK K)
                  (refine tailK (by rfl) (fun w4 hc4 he4 K hK => ?_); refine wpC _ _ _ rfl _ E j cj ((mv t (x : Int) (y : Int)).take j) rfl (own_keep ((own_keep HM.out he3).alloc _) he4) _ 1 1 [(p + (x : Int), r' + (y : Int))] rfl (Rd.below (rd_newC _ _ _ _) he4) rfl (by omega) (by have h2 := he3.size; have h3 := he4.size; simp at h3; omega) ?_; intro A2 c2 w5 hown5 hg5 _; refine hK _ _ (Gr.trans hc4 hg5) ?_; clear hK K; simp only [Act.put, List.setIfInBounds_toArray, List.set_cons_zero, List.set_cons_succ])
                  (refine tailK (by rfl) (fun w6 hc6 he6 K hK => ?_); go_simp; refine hK _ _ (hc6) ?_; clear hK K)
                  (refine fun w7 hc7 he7 => NoPanic.normal ?_)
                  have hb4 := bel_trans (bel_alloc (bel_trans hbj he3) _) he4
                  have hb5 := bel_app hb4 hg5 (fun g' hg' => ((own_lt HM.out) g' hg').1)
                  have HO3 := Lib.hid (own_keep (own_keep hown5 he6) he7)
                  clear hown5
                  go_wp2
                  exact ⟨⟨j + 1, c2, A2, by omega, by go_num, rfl, by rw [HSTJ.out]; exact HO3.out, bel_trans (bel_trans hb5 he6) he7⟩, by simp [intOf]; omega⟩
                · obtain rfl : j = m1 := by omega
                  have hmt2 : (mv t (x : Int) (y : Int)).take j = mv t (x : Int) (y : Int) := List.take_of_length_le (by rw [mv_len, HL1.out]; omega)
                  rw [hmt2] at hM
                  have hmvl : (mv t (x : Int) (y : Int)).length = j := by rw [mv_len]; exact HL1.out
                  have HMVL := Lib.hid hmvl
                  have HRM := Lib.hid (Rd.of_own hM)
                  have hj1 : ¬ (j : Int) < (j : Int) := by omega
                  have c0 := keep_below hbj b0
                  have c1 := keep_below hbj b1
                  have hgwj : w.heap.size < wr.heap.size := Nat.lt_of_lt_of_le hgw hbj.size
                  have HOJ := Lib.hid (own_keep HO.out hbj)
                  clear hM hmt2 hmvl b0 b1 hgw
                  go_wp2_with fail
                  refine (MaskOfCells_s (m : Int) A E n c j cj rows (mv t (x : Int) (y : Int)) _ (HR1.out.below hb1j) HL.out HV.out HRM.out HMVL.out (by omega) HSV.out).mono ?_
                  rw [HMC.out]
                  rintro e w4 ⟨rfl, hb4⟩
                  have HOK := Lib.hid (own_keep HOJ.out hb4)
                  have hb14 := bel_trans hb1j hb4
                  clear c0 c1 hgwj d1 HRM
                  cases r with
                  | none =>
                    simp only [mcR]
                    go_wp2_with fail
                    exact ⟨⟨x + 1, q, cq, gD, by omega, by go_num, rfl, by rw [HST3.out]; simpa [optL] using HOK.out, hb14⟩, by simp [intOf]; omega⟩
                  | some v =>
                    simp only [mcR]
                    have hbzz : w.heap.size ≤ w4.heap.size := (bel_trans hbw1 hb14).size
                    go_wp2_with fail
                    refine (l7Put_s gD q cq (putAll O3) (v : Int) w.heap.size _ HOK.out hbzz (by omega)).mono ?_
                    rintro e w5 ⟨g5, n5, c5, rfl, hO5, hb5⟩
                    have HO5 := Lib.hid hO5
                    have HP5 : Hid (putAll (O3 ++ [(v : Int)]) = putI (putAll O3) (v : Int)) := putAll_snoc _ _
                    clear hO5
                    go_wp2_with fail
                    exact ⟨⟨x + 1, n5, c5, g5, by omega, by go_num, rfl, by rw [HST3.out]; show World.ownsRow _ _ _ _ _ _ (vI (putAll (O3 ++ [(v : Int)]))); rw [HP5.out]; exact HO5.out, bel_trans hb14 hb5⟩, by simp [intOf]; omega⟩
            · obtain rfl : x = m := by omega
              rw [← HST2.out] at hO
              have HO := Lib.hid hO
              have hx1 : ¬ (x : Int) < (x : Int) := by omega
              clear hO hql hxl hpl
              go_wp2_with fail
              exact ⟨⟨y + 1, q, cq, gD, by omega, by go_num, rfl, HO.out, hb⟩, by simp [intOf]; omega⟩
        · obtain rfl : y = n := by omega
          rw [← HST.out] at hO
          have HO := Lib.hid hO
          have hy1 : ¬ (y : Int) < (y : Int) := by omega
          clear hO
          go_wp2_with fail
          exact ⟨⟨i + 1, q, cq, gD, by omega, by go_num, rfl, HO.out, hb⟩, by simp [intOf]; omega⟩
    · obtain rfl : i = q0 := by omega
      have HN : Hid (plV (m : Int) rows xs = putAll (rawTo (m : Int) rows F i)) := by show _ = _; rw [HPV.out, HFL.out]
      rw [← HN.out] at hO
      have HO := Lib.hid hO
      have hi1 : ¬ (i : Int) < (i : Int) := by omega
      clear hO
      go_wp2_with fail
      go_ret
      exact ⟨gD, q, cq, rfl, HO.out, bel_trans hbw1 hb⟩
theorem world_ltS {w : World} {a : Addr} {v : Value} (h : w.cell? a = some v) : a.block < w.heap.size := World.block_lt_of_cell? w a h
theorem putI_len (l : List Int) (n : Int) : (putI l n).length ≤ l.length + 1 := by
  unfold putI
  have := cutTo_le l n l.length
  split
  · omega
  · simp; omega
theorem pcs_atS {P : List (List C)} (h : pcs P = true) : P.length ≤ 5 ∧ ∀ f ∈ P, isShape f = true := by
  refine ⟨(pcs_small h).1, ?_⟩
  unfold pcs at h
  simp only [Bool.and_eq_true, List.all_eq_true] at h
  exact h.1
theorem foldl_take {β : Type} (f : β → Int → β) (b : β) (xs : List Int) (k : Nat) (hk : k < xs.length) : (xs.take (k + 1)).foldl f b = f ((xs.take k).foldl f b) xs[k] := by
  rw [List.take_succ_eq_append_getElem hk, List.foldl_append]; rfl
set_option maxHeartbeats 3200000 in
theorem AllPlacements_s (W : Int) (A B : Option Addr) (n c q cb : Nat) (rows : List Int) (hs : List H) (P : List (List C)) (w : World) (hr : Rd w A (vI rows)) (hl : rows.length = n) (hv : isReg W rows = true) (hp : RdP w B q hs P) (hpc : pcs P = true) :
    Calls Tryz.prog 40 #[.agg #[.int .i64 W, .slice A n c], .slice B q cb] w (RetO w w.heap.size 3 1 (vI (allV W rows P))) := by
  obtain ⟨hq5, hsh⟩ := pcs_atS hpc
  rw [hp.flen] at hq5
  have htc : totC P ≤ 1048576 := by have := (pcs_small hpc).2; omega
  have hN : allV W rows P = putAll (catTo W rows P q) := by unfold allV; rw [hp.flen]
  have HN := Lib.hid hN
  have HSH := Lib.hid hsh
  have HTC := Lib.hid htc
  have HPC := Lib.hid hpc
  have HL := Lib.hid hl
  have HV := Lib.hid hv
  have HR := Lib.hid ((hr.alloc (.cells #[.int .i64 W, .slice A n c] 29)).alloc (.cells #[] 3))
  have HP := Lib.hid ((hp.alloc (.cells #[.int .i64 W, .slice A n c] 29)).alloc (.cells #[] 3))
  have HB1 := Lib.hid ((Blk.new w 29 #[.int .i64 W, .slice A n c]).alloc (.cells #[] 3))
  have HI0 : Hid (((w.alloc (.cells #[.int .i64 W, .slice A n c] 29)).alloc (.cells #[] 3)).ownsRow w.heap.size 3 1 (.slice (some ⟨w.heap.size + 1, 0, none⟩) 0 0) 0 (vI [])) := by
    have h := own_new (w.alloc (.cells #[.int .i64 W, .slice A n c] 29)) 3 1 0 #[] rfl (by simp [maxLen]) (base := w.heap.size) (by simp)
    exact Lib.hid (by simpa [vI] using h)
  have hbw1 : Below w.heap.size w ((w.alloc (.cells #[.int .i64 W, .slice A n c] 29)).alloc (.cells #[] 3)) := bel_alloc (bel_alloc (Below.refl _ _) _) _
  clear hl hr hv hp hN hsh hpc htc
  go_enter Tryz.func40, Tryz.ntmps40
  go_wp2_with fail
  obtain ⟨w1, hw1⟩ : ∃ w1, (w.alloc (.cells #[.int .i64 W, .slice A n c] 29)).alloc (.cells #[] 3) = w1 := ⟨_, rfl⟩
  rw [hw1] at HR HP HB1 hbw1 HI0 ⊢
  clear hw1
  go_loopw [6, 5] (fun e6 e5 wr => ∃ (i k cq g : Nat), i ≤ q ∧ e6 = .int .i64 i ∧ e5 = .slice (some ⟨g, 0, none⟩) k cq ∧ wr.ownsRow w.heap.size 3 1 (.slice (some ⟨g, 0, none⟩) k cq) k (vI (putAll (catTo W rows P i))) ∧ Below w1.heap.size w1 wr) (fun e6 _ _ => q - (intOf e6).toNat)
  case atStart => exact ⟨0, 0, 0, _, Nat.zero_le _, rfl, rfl, by simpa [catTo, putAll] using HI0.out, Below.refl _ _⟩
  case round =>
    clear HI0
    obtain ⟨i, k, cq, g0, hi, rfl, rfl, hO, hb⟩ := hrel
    have hkl : (putAll (catTo W rows P i)).length = k := by have := own_len hO; rw [vI_length] at this; omega
    have hcl := (catTo_msk W rows P i).2
    have hpl := putAll_len (catTo W rows P i)
    have hk : k ≤ 1440 := by omega
    clear hkl hpl
    by_cases hlt : i < q
    · have hi0 : (0 : Int) ≤ (i : Int) := by omega
      have hi1 : (i : Int) < (q : Int) := by omega
      have HO := Lib.hid hO
      obtain ⟨x, f, g, off, _, hfx, hBe, hg0, d0, l1, r1⟩ := HP.out.at_ hlt
      have hfs := HSH.out f (List.mem_of_getElem? hfx)
      have hst : catTo W rows P (i + 1) = catTo W rows P i ++ plV W rows f := by
        show _ ++ plV W rows (P.getD i []) = _
        rw [List.getD_eq_getElem?_getD, hfx, Option.getD_some]
      obtain ⟨C1, m1, k1⟩ := x
      have HFS := Lib.hid hfs
      have HR1 := Lib.hid r1
      have HL1 := Lib.hid l1
      have HST := Lib.hid hst
      have hpl := plV_len W rows f
      dsimp only at d0
      have HD0 := Lib.hid d0
      subst hBe
      clear hfx hst hO r1 l1 hfs d0
      go_wp2_with fail
      refine (ArePieces_s _ q cb hs P _ (HP.out.below hb) (by omega) HTC.out).mono ?_
      rw [HPC.out]
      rintro e w2 ⟨rfl, hb2⟩
      have hb12 := bel_trans hb hb2
      have hB := HB1.out.below hb12
      have b0 : w2.cell? ⟨w.heap.size, 0, none⟩ = some (.int .i64 W) := by simpa using hB.cell 0
      have b1 : w2.cell? ⟨w.heap.size, 1, none⟩ = some (.slice A n c) := by simpa using hB.cell 1
      have hgw := hB.lt
      have d1 := keep_below hb12 HD0.out
      have hg2 : g < w2.heap.size := world_ltS d1
      have HO2 := Lib.hid (own_keep HO.out hb2)
      clear hB HO
      go_wp2_with fail
      (refine wp_region_tailN (C := ExC w2) 5 (by kernel_rfl) (by kernel_rfl) (ExC.drawn _) (fun _ _ h k => ExC.ext h k) ?_; simp only [List.take_succ_cons, List.take_zero, List.drop_succ_cons, List.drop_zero]; (repeat (first | (refine headSkip (by rfl) rfl ?_; simp only [List.setIfInBounds_toArray, List.set_cons_zero, List.set_cons_succ]) | (refine headV (v := ?_) (by rfl) rfl (fun w' hcw => ?_) ?_; rotate_left; ((try dsimp only at hcw); have hbc := hcw.cells; go_simp; first | done | with_reducible rfl | fail); simp only [List.setIfInBounds_toArray, List.set_cons_zero, List.set_cons_succ]))); unfold wpHead)
      refine tailK (by rfl) (fun u1 hc1 he1 K hK => ?_)
      go_simp
      refine (PlacementsOf_s W A C1 n c m1 k1 rows f _ (HR.out.below (bel_trans hb12 hc1)) HL.out HV.out (HR1.out.below (bel_trans hb12 hc1)) HL1.out HFS.out).mono ?_
      rintro e u2 ⟨gE, q2, c2, rfl, hOE, hbE⟩
      have hc2 := bel_trans hc1 hbE
      refine hK _ _ hc2 ?_
      clear hK K
      have hq2 : (plV W rows f).length = q2 := by have := own_len hOE; rw [vI_length] at this; omega
      have HQ2 := Lib.hid hq2
      have HRE := Lib.hid (Rd.of_own hOE)
      (refine tailK (by rfl) (fun u3 hc3 he3 K hK => ?_); go_simp; refine hK _ _ (hc3) ?_; clear hK K)
      (refine fun w4 hc4 he4 => NoPanic.normal ?_)
      have HR4 := Lib.hid ((HRE.out.below he3).below he4)
      have HO4 := Lib.hid (own_keep HO2.out hc4)
      have hb14 := bel_trans hb12 hc4
      have hq3 : q2 ≤ 288 := by omega
      clear hOE hq2 hpl d1 b0 b1 hgw hc3 he3 hc2 hbE hc1 he1 he4 HO2 HRE hg2 hc4
      go_wp2_with fail
      go_loopw [8, 5] (fun e8 e5 wr => ∃ (j k cq g : Nat), j ≤ q2 ∧ e8 = .int .i64 j ∧ e5 = .slice (some ⟨g, 0, none⟩) k cq ∧ wr.ownsRow w.heap.size 3 1 (.slice (some ⟨g, 0, none⟩) k cq) k (vI (((plV W rows f).take j).foldl putI (putAll (catTo W rows P i)))) ∧ k ≤ 1440 + j ∧ Below w4.heap.size w4 wr) (fun e8 _ _ => q2 - (intOf e8).toNat)
      case atStart => exact ⟨0, k, cq, _, Nat.zero_le _, rfl, rfl, by simpa using HO4.out, by omega, Below.refl _ _⟩
      case round =>
        clear HO4
        obtain ⟨j, k, cq, gO, hj, rfl, rfl, hO, hkk, hbj⟩ := hrel
        by_cases hlj : j < q2
        · have hjl : j < (plV W rows f).length := by rw [HQ2.out]; exact hlj
          have hj0 : (0 : Int) ≤ (j : Int) := by omega
          have hj1 : (j : Int) < (q2 : Int) := by omega
          obtain ⟨gR, oR, hA, hgR, d1⟩ := RdI.at_ (HR4.out.below hbj) hjl
          simp only [Option.some.injEq, Addr.mk.injEq, and_true] at hA
          obtain ⟨rfl, rfl⟩ := hA
          rw [Nat.zero_add] at d1
          have hst2 := foldl_take putI (putAll (catTo W rows P i)) (plV W rows f) j hjl
          obtain ⟨v, hv⟩ : ∃ v, (plV W rows f)[j] = v := ⟨_, rfl⟩
          obtain ⟨L, hL⟩ : ∃ L, ((plV W rows f).take j).foldl putI (putAll (catTo W rows P i)) = L := ⟨_, rfl⟩
          rw [hv] at d1 hst2
          rw [hL] at hst2 hO
          have hLk : L.length = k := by have := own_len hO; rw [vI_length] at this; omega
          have hpi := putI_len L v
          have HST2 := Lib.hid hst2
          have HO := Lib.hid hO
          have HPI := Lib.hid hpi
          have HLK := Lib.hid hLk
          have hbz := (bel_trans hbw1 (bel_trans hb14 hbj)).size
          clear hst2 hO hv hL hpi hLk
          go_wp2_with fail
          refine (l7Put_s gO k cq L v w.heap.size _ HO.out hbz (by omega)).mono ?_
          rintro e w5 ⟨g5, n5, c5, rfl, hO5, hb5⟩
          have hn5 : (putI L v).length = n5 := by have := own_len hO5; rw [vI_length] at this; omega
          have hn6 : n5 ≤ 1440 + (j + 1) := by have := HPI.out; have := HLK.out; omega
          have HO5 := Lib.hid hO5
          clear hO5 d1 hn5
          go_wp2_with fail
          exact ⟨⟨j + 1, n5, c5, g5, by omega, by go_num, rfl, by rw [HST2.out]; exact HO5.out, hn6, bel_trans hbj hb5⟩, by simp [intOf]; omega⟩
        · obtain rfl : j = q2 := by omega
          have he : ((plV W rows f).take j).foldl putI (putAll (catTo W rows P i)) = putAll (catTo W rows P (i + 1)) := by
            rw [HST.out, List.take_of_length_le (by rw [HQ2.out]; omega)]
            simp [putAll]
          rw [he] at hO
          have HO := Lib.hid hO
          have hj1 : ¬ (j : Int) < (j : Int) := by omega
          clear he hO
          go_wp2_with fail
          exact ⟨⟨i + 1, k, cq, gO, by omega, by go_num, rfl, HO.out, bel_trans hb14 hbj⟩, by simp [intOf]; omega⟩
    · obtain rfl : i = q := by omega
      rw [← HN.out] at hO
      have HO := Lib.hid hO
      have hi1 : ¬ (i : Int) < (i : Int) := by omega
      clear hO
      go_wp2_with fail
      go_ret
      exact ⟨g0, k, cq, rfl, HO.out, bel_trans hbw1 hb⟩
end Go.Proofs.YtoedmmhiinhljaaGreatDoor

/- Tilings that a motion keeps, and orbits: the reference. -/
namespace Go.Proofs.YtoedmmhiinhljaaGreatDoor
open Go.RowKit
set_option linter.unusedVariables false
attribute [local go_sem ↓] Go.wp_at_zero Go.wp_at_succ

theorem countP_snoc {α : Type} (p : α → Bool) {l : List α} {i : Nat} (h : i < l.length) : (l.take (i + 1)).countP p = (l.take i).countP p + (if p l[i] then 1 else 0) := by
  rw [List.take_succ_eq_append_getElem h, List.countP_append]
  simp [List.countP_cons]
theorem til_msk {W : Int} {rows : List Int} {P : List (List C)} (hv : isReg W rows = true) : ∀ f ∈ l15V W rows P, f.length ≤ 36 ∧ Msk 36 f := fun f hf => by
  have h1 := List.mem_of_mem_take hf
  have h36 := maskV_62 hv
  exact ⟨til_len _ (n := 36) (by omega) h36 f h1, fun m hm => allV_msk W rows P m ((til_spec (by omega) h1).1 m hm).1⟩
theorem msk_63 {f : List Int} (h : Msk 36 f) : ∀ x ∈ f, x < 9223372036854775808 := fun x hx => by
  obtain ⟨k, rfl, hk⟩ := h x hx
  omega
set_option maxRecDepth 100000 in
set_option maxHeartbeats 1600000 in
theorem l23Same_s (A B : Option Addr) (n c m d : Nat) (xs ys : List Int) (w : World) (hr : Rd w A (vI xs)) (hl : xs.length = n) (hr2 : Rd w B (vI ys)) (hl2 : ys.length = m) (hn : n ≤ 1099511627776) :
    Calls Tryz.prog 23 #[.slice A n c, .slice B m d] w (Ret w (.bool (decide (xs = ys)))) := by
  by_cases hnm : n = m
  · subst hnm
    have HR := Lib.hid hr
    have HL := Lib.hid hl
    have HR2 := Lib.hid hr2
    have HL2 := Lib.hid hl2
    have hne0 : ((n : Int) != (n : Int)) = false := by simp
    clear hr hl hr2 hl2
    go_enter Tryz.func23, Tryz.ntmps23
    go_wp2_with fail
    go_loopw [5] (fun e5 wr => ∃ k : Nat, k ≤ n ∧ e5 = .int .i64 k ∧ (∀ j, j < k → xs.getD j 0 = ys.getD j 0) ∧ Below w.heap.size w wr) (fun e5 _ => n - (intOf e5).toNat)
    case atStart => exact ⟨0, Nat.zero_le _, rfl, (fun j h => by omega), Below.refl _ _⟩
    case round =>
      obtain ⟨k, hk1, rfl, hsame, hb⟩ := hrel
      have HSM := Lib.hid hsame
      have HB := Lib.hid hb
      clear hsame hb
      by_cases h1 : k < n
      · have hi0 : (0 : Int) ≤ (k : Int) := by omega
        have hi1 : (k : Int) < (n : Int) := by omega
        have k1 : k < xs.length := by rw [HL.out]; exact h1
        have k2 : k < ys.length := by rw [HL2.out]; exact h1
        obtain ⟨g1, o1, hA, gl1, d1⟩ := RdI.at_ (HR.out.below HB.out) k1
        obtain ⟨g2, o2, hB, gl2, d2⟩ := RdI.at_ (HR2.out.below HB.out) k2
        have e1 : xs.getD k 0 = xs[k] := by rw [List.getD_eq_getElem?_getD, List.getElem?_eq_getElem k1]; rfl
        have e2 : ys.getD k 0 = ys[k] := by rw [List.getD_eq_getElem?_getD, List.getElem?_eq_getElem k2]; rfl
        obtain ⟨x, hx⟩ : ∃ x, xs[k] = x := ⟨_, rfl⟩
        obtain ⟨y, hy⟩ : ∃ y, ys[k] = y := ⟨_, rfl⟩
        rw [hx] at d1 e1
        rw [hy] at d2 e2
        subst hA
        subst hB
        by_cases hxy : x = y
        · have HS2 : Hid (∀ j, j < k + 1 → xs.getD j 0 = ys.getD j 0) := fun j hj => by
            by_cases hjk : j = k
            · rw [hjk, e1, e2, hxy]
            · exact HSM.out j (by omega)
          have hne : (x != y) = false := by simp [hxy]
          clear hx hy e1 e2 k1 k2 hxy
          go_wp2_with fail
          (refine wp_region_below (by kernel_rfl) (by kernel_rfl) ?_; (repeat (first | go_big_quiet_skip | (refine quietV (v := ?_) (by rfl) rfl (fun w' hbw => ?_) ?_; rotate_left; ((try dsimp only at hbw); have hbc := (bcell hbw).1; have hbf := (bcell hbw).2; go_simp; first | done | with_reducible rfl | fail); simp only [List.setIfInBounds_toArray, List.set_cons_zero, List.set_cons_succ]))); refine wpQuiet_nil ?_; intro wq hbq)
          have HBQ := Lib.hid (bel_trans HB.out hbq)
          clear hbq
          go_wp2_with fail
          exact ⟨⟨k + 1, by omega, by go_num, HS2.out, HBQ.out⟩, by simp [intOf]; omega⟩
        · have HV : Hid (decide (xs = ys) = false) := by
            show _ = _
            rw [decide_eq_false_iff_not]
            intro e
            rw [e, e2] at e1
            exact hxy e1.symm
          have hne : (x != y) = true := by simp [hxy]
          clear hx hy e1 e2 k1 k2 hxy
          go_wp2_with fail
          (refine wp_region_below (by kernel_rfl) (by kernel_rfl) ?_; (repeat (first | go_big_quiet_skip | (refine quietV (v := ?_) (by rfl) rfl (fun w' hbw => ?_) ?_; rotate_left; ((try dsimp only at hbw); have hbc := (bcell hbw).1; have hbf := (bcell hbw).2; go_simp; first | done | with_reducible rfl | fail); simp only [List.setIfInBounds_toArray, List.set_cons_zero, List.set_cons_succ]))); refine wpQuiet_nil ?_; intro wq hbq)
          have HBQ := Lib.hid (bel_trans HB.out hbq)
          clear hbq
          go_wp2_with fail
          go_ret
          exact ⟨by rw [HV.out]; rfl, HBQ.out⟩
      · have hi1 : ¬ (k : Int) < (n : Int) := by omega
        have HV : Hid (decide (xs = ys) = true) := by
          show _ = _
          rw [decide_eq_true_iff]
          apply List.ext_getElem (HL.out.trans HL2.out.symm)
          intro j j1 j2
          have h := HSM.out j (by have := HL.out; omega)
          rw [List.getD_eq_getElem?_getD, List.getElem?_eq_getElem j1, List.getD_eq_getElem?_getD, List.getElem?_eq_getElem j2] at h
          exact h
        clear h1
        go_wp2_with fail
        go_ret
        exact ⟨by rw [HV.out]; rfl, HB.out⟩
  · have hne0 : ((n : Int) != (m : Int)) = true := by simp; omega
    have HV : Hid (decide (xs = ys) = false) := by
      show _ = _
      rw [decide_eq_false_iff_not]
      intro e
      rw [e] at hl
      omega
    clear hr hl hr2 hl2 hnm
    go_enter Tryz.func23, Tryz.ntmps23
    go_wp2_with fail
    go_ret
    exact ⟨by rw [HV.out]; rfl, Below.refl _ _⟩
set_option maxRecDepth 100000 in
set_option maxHeartbeats 3200000 in
theorem l15All_s (W : Int) (A B : Option Addr) (n c q cb : Nat) (rows : List Int) (hs : List H) (P : List (List C)) (w : World) (hr : Rd w A (vI rows)) (hl : rows.length = n) (hp : RdP w B q hs P) (hq : q ≤ 1048576) (hm : totC P ≤ 1048576) (hv : isReg W rows = true) (hpc : pcs P = true) :
    Calls Tryz.prog 21 #[.agg #[.int .i64 W, .slice A n c], .slice B q cb] w (RetO2 w (l15V W rows P)) := by
  have HL := Lib.hid hl
  have HR := Lib.hid (hr.alloc (.cells #[.int .i64 W, .slice A n c] 29))
  have HP := Lib.hid (hp.alloc (.cells #[.int .i64 W, .slice A n c] 29))
  have HB0 := Lib.hid (Blk.new w 29 #[.int .i64 W, .slice A n c])
  have HM := Lib.hid hm
  have hbw0 : Below w.heap.size w (w.alloc (.cells #[.int .i64 W, .slice A n c] 29)) := bel_alloc (Below.refl _ _) _
  have HBW0 := Lib.hid hbw0
  have hLm := allV_msk W rows P
  have hLl := allV_len W rows P
  have hp5 := (pcs_atS hpc).1
  have hM36 : maskV W rows < 2 ^ 36 := maskV_62 hv
  obtain ⟨L, hL⟩ : ∃ L, allV W rows P = L := ⟨_, rfl⟩
  obtain ⟨M, hMM⟩ : ∃ M, maskV W rows = M := ⟨_, rfl⟩
  have hL15 : l15V W rows P = (tilV L M).take 500 := by unfold l15V; rw [hL, hMM]
  rw [hL] at hLm hLl
  rw [hMM] at hM36
  have hL5 : L.length ≤ 1440 := by omega
  have HLE := Lib.hid hL
  have HLM := Lib.hid hLm
  have HL5 := Lib.hid hL5
  have HMM := Lib.hid hMM
  have HM36 := Lib.hid hM36
  have HL15 := Lib.hid hL15
  have HV := Lib.hid hv
  have HPC := Lib.hid hpc
  clear hl hr hp hm hbw0 hv hpc hLm hLl hp5 hL hMM hL5 hM36 hL15
  obtain ⟨W0, hW0⟩ : ∃ W0, w.alloc (.cells #[.int .i64 W, .slice A n c] 29) = W0 := ⟨_, rfl⟩
  rw [hW0] at HR HP HB0 HBW0
  have HW0 := Lib.hid hW0
  have HBX : Hid (∀ {w1 : World}, Below W0.heap.size W0 w1 → w1.cell? ⟨w.heap.size, 0, none⟩ = some (.int .i64 W) ∧ w1.cell? ⟨w.heap.size, 1, none⟩ = some (.slice A n c) ∧ w.heap.size < w1.heap.size) := fun h => by
    have hB := HB0.out.below h
    exact ⟨by simpa using hB.cell 0, by simpa using hB.cell 1, hB.lt⟩
  clear hW0
  (try clear b0 b1 bl)
  obtain ⟨b0, b1, bl⟩ := HBX.out (Below.refl _ _)
  go_enter Tryz.func21, Tryz.ntmps21
  go_wp2_with fail
  rw [HW0.out]
  refine (IsRegion_s _ _ _ _ rows _ HR.out HL.out).mono ?_
  rw [HV.out]
  rintro e w1 ⟨rfl, hb1⟩
  have HB1 := Lib.hid hb1
  clear hb1
  go_wp2_with fail
  refine (ArePieces_s B q cb hs P _ (HP.out.below HB1.out) hq HM.out).mono ?_
  rw [HPC.out]
  rintro e w2 ⟨rfl, hb2⟩
  have HB2 := Lib.hid (bel_trans HB1.out hb2)
  clear hb2
  (try clear b0 b1 bl)
  obtain ⟨b0, b1, bl⟩ := HBX.out (HB2.out)
  go_wp2_with fail
  refine wp_region_rg 7 rfl (by kernel_rfl) ?_
  (refine rgT (i := 0) (v := ?_) rfl rfl (by kernel_rfl) (by kernel_rfl) (by kernel_rfl) (by rfl) (fun w' hcw => ?_) ?_; rotate_left; ((try dsimp only at hcw); have hbc := hcw.cells; go_simp; first | done | with_reducible rfl); simp only [List.setIfInBounds_toArray, List.set_cons_zero, List.set_cons_succ])
  (refine rgT (i := 1) (v := ?_) rfl rfl (by kernel_rfl) (by kernel_rfl) (by kernel_rfl) (by rfl) (fun w' hcw => ?_) ?_; rotate_left; ((try dsimp only at hcw); have hbc := hcw.cells; go_simp; first | done | with_reducible rfl); simp only [List.setIfInBounds_toArray, List.set_cons_zero, List.set_cons_succ])
  (refine rgT (i := 3) (v := ?_) rfl rfl (by kernel_rfl) (by kernel_rfl) (by kernel_rfl) (by rfl) (fun w' hcw => ?_) ?_; rotate_left; ((try dsimp only at hcw); have hbc := hcw.cells; go_simp; first | done | with_reducible rfl); simp only [List.setIfInBounds_toArray, List.set_cons_zero, List.set_cons_succ])
  refine rgK_one (i := 2) (by kernel_rfl) rfl rfl (fun u1 hc1 he1 K hK => ?_)
  go_simp
  refine (AllPlacements_s W A B n c q cb rows hs P _ (HR.out.below (bel_trans HB2.out hc1)) HL.out HV.out (HP.out.below (bel_trans HB2.out hc1)) HPC.out).mono ?_
  rw [HLE.out]
  rintro e u2 ⟨gE, q3, c3, rfl, hO, hb2⟩
  have hq3 : L.length = q3 := by have := own_len hO; rw [vI_length] at this; omega
  have hc2 : Below w2.heap.size w2 u2 := bel_trans hc1 hb2
  refine hK _ _ hc2 ?_
  clear hK K
  have HQ3 := Lib.hid hq3
  have HRE := Lib.hid (Rd.of_own hO)
  have hq4 : q3 ≤ 1440 := by have := HL5.out; omega
  clear hO hq3
  refine rgK_one (i := 4) (by kernel_rfl) rfl rfl (fun u5 hc5 he5 K hK => ?_)
  go_simp
  refine (MaskOf_s W A n c rows _ (HR.out.below (bel_trans HB2.out hc5)) HL.out).mono ?_
  rw [HMM.out]
  rintro e u6 ⟨rfl, hb6⟩
  refine hK _ _ (bel_trans hc5 hb6) ?_
  clear hK K
  have he6 := bel_trans he5 hb6
  refine rgK_one (i := 5) (by kernel_rfl) rfl rfl (fun u3 hc3 he3 K hK => ?_)
  go_simp
  refine (l8Search_s L _ q3 c3 HQ3.out (by omega) HLM.out M 500 _ (HRE.out.below (bel_trans he6 he3)) HM36.out (by omega) (by omega)).mono ?_
  rw [← HL15.out]
  rintro e u4 ⟨E, u, cu, hE, rfl, hOE, hb4⟩
  have hc4 : Below w2.heap.size w2 u4 := bel_trans hc3 hb4
  refine hK _ _ hc4 ?_
  clear hK K
  (refine rgT (i := 6) (v := ?_) rfl rfl (by kernel_rfl) (by kernel_rfl) (by kernel_rfl) (by rfl) (fun w' hcw => ?_) ?_; rotate_left; ((try dsimp only at hcw); have hbc := hcw.cells; go_simp; first | done | with_reducible rfl); simp only [List.setIfInBounds_toArray, List.set_cons_zero, List.set_cons_succ])
  refine ⟨by kernel_rfl, fun wz hcz hez => NoPanic.normal ?_⟩
  have HOZ := Lib.hid ((hOE.below hez).mono (show w.heap.size ≤ u3.heap.size by have h1 := hc3.size; have h2 := HB2.out.size; have h3 := HBW0.out.size; omega))
  have HBZ := Lib.hid (bel_trans HBW0.out (bel_trans HB2.out hcz))
  clear hOE hcz hez
  go_wp2_with fail
  go_ret
  exact ⟨E, u, cu, hE, rfl, HOZ.out, HBZ.out⟩
set_option maxRecDepth 100000 in
set_option maxHeartbeats 6400000 in
theorem FixedTilings_s (W : Int) (A B : Option Addr) (n c q cb : Nat) (rows : List Int) (m : Int) (hs : List H) (P : List (List C)) (w : World) (hr : Rd w A (vI rows)) (hl : rows.length = n) (hp : RdP w B q hs P) (hq : q ≤ 1048576) (hm : totC P ≤ 1048576) (_h63 : m < 9223372036854775808) :
    Calls Tryz.prog 7 #[.agg #[.int .i64 W, .slice A n c], .slice B q cb, .int .i64 m] w (Ret w (.int .i64 (fixV W rows P m))) := by
  have HL := Lib.hid hl
  have HR := Lib.hid (hr.alloc (.cells #[.int .i64 W, .slice A n c] 29))
  have HP := Lib.hid (hp.alloc (.cells #[.int .i64 W, .slice A n c] 29))
  have HB0 := Lib.hid (Blk.new w 29 #[.int .i64 W, .slice A n c])
  have HM := Lib.hid hm
  have hbw0 : Below w.heap.size w (w.alloc (.cells #[.int .i64 W, .slice A n c] 29)) := bel_alloc (Below.refl _ _) _
  have HBW0 := Lib.hid hbw0
  have hml := motV_len W rows
  clear hl hr hp hm hbw0 _h63
  obtain ⟨W0, hW0⟩ : ∃ W0, w.alloc (.cells #[.int .i64 W, .slice A n c] 29) = W0 := ⟨_, rfl⟩
  rw [hW0] at HR HP HB0 HBW0
  have HW0 := Lib.hid hW0
  have HBX : Hid (∀ {w1 : World}, Below W0.heap.size W0 w1 → w1.cell? ⟨w.heap.size, 0, none⟩ = some (.int .i64 W) ∧ w1.cell? ⟨w.heap.size, 1, none⟩ = some (.slice A n c) ∧ w.heap.size < w1.heap.size) := fun h => by
    have hB := HB0.out.below h
    exact ⟨by simpa using hB.cell 0, by simpa using hB.cell 1, hB.lt⟩
  clear hW0
  (try clear b0 b1 bl)
  obtain ⟨b0, b1, bl⟩ := HBX.out (Below.refl _ _)
  cases hv : isReg W rows with
  | false =>
    have HV := Lib.hid hv
    have HF : Hid (fixV W rows P m = -1) := by show _ = _; unfold fixV; rw [hv]; rfl
    clear hv
    go_enter Tryz.func7, Tryz.ntmps7
    go_wp2_with fail
    rw [HW0.out]
    refine (IsRegion_s _ _ _ _ rows _ HR.out HL.out).mono ?_
    rw [HV.out]
    rintro e w1 ⟨rfl, hb1⟩
    have HB1 := Lib.hid (bel_trans HBW0.out hb1)
    clear hb1
    go_wp2_with fail
    go_ret
    exact ⟨by rw [HF.out]; rfl, HB1.out⟩
  | true =>
    cases hpc : pcs P with
    | false =>
      have HV := Lib.hid hv
      have HPC := Lib.hid hpc
      have HF : Hid (fixV W rows P m = -1) := by show _ = _; unfold fixV; rw [hv, hpc]; rfl
      clear hv hpc
      go_enter Tryz.func7, Tryz.ntmps7
      go_wp2_with fail
      rw [HW0.out]
      refine (IsRegion_s _ _ _ _ rows _ HR.out HL.out).mono ?_
      rw [HV.out]
      rintro e w1 ⟨rfl, hb1⟩
      have HB1 := Lib.hid hb1
      clear hb1
      go_wp2_with fail
      refine (ArePieces_s B q cb hs P _ (HP.out.below HB1.out) hq HM.out).mono ?_
      rw [HPC.out]
      rintro e w2 ⟨rfl, hb2⟩
      have HB2 := Lib.hid (bel_trans HBW0.out (bel_trans HB1.out hb2))
      clear hb2
      go_wp2_with fail
      go_ret
      exact ⟨by rw [HF.out]; rfl, HB2.out⟩
    | true =>
      obtain ⟨an, han⟩ : ∃ an, (motV W rows).any (· == m) = an := ⟨_, rfl⟩
      have HAN := Lib.hid han
      have HV := Lib.hid hv
      have HPC := Lib.hid hpc
      have HF : Hid (fixV W rows P m = if an then ((fixN W rows P m : Nat) : Int) else -1) := by show _ = _; unfold fixV; rw [hv, hpc, han]; rfl
      clear hv hpc han
      go_enter Tryz.func7, Tryz.ntmps7
      go_wp2_with fail
      rw [HW0.out]
      refine (IsRegion_s _ _ _ _ rows _ HR.out HL.out).mono ?_
      rw [HV.out]
      rintro e w1 ⟨rfl, hb1⟩
      have HB1 := Lib.hid hb1
      clear hb1
      go_wp2_with fail
      refine (ArePieces_s B q cb hs P _ (HP.out.below HB1.out) hq HM.out).mono ?_
      rw [HPC.out]
      rintro e w2 ⟨rfl, hb2⟩
      have HB2 := Lib.hid (bel_trans HB1.out hb2)
      have HBr2 := Lib.hid hb2
      clear hb2
      (try clear b0 b1 bl)
      obtain ⟨b0, b1, bl⟩ := HBX.out (HB2.out)
      go_wp2_with fail
      refine (RegionMotions_s W A n c rows _ (HR.out.below HB2.out) HL.out).mono ?_
      rintro e w3 ⟨G, qg, cq, rfl, hoG, hb3⟩
      have HQ := Lib.hid (by have := own_len hoG; rw [vI_length] at this; omega : (motV W rows).length = qg)
      have hqg : qg ≤ 1099511627776 := by have := HQ.out; omega
      have HB3 := Lib.hid (bel_trans HB2.out hb3)
      have HRG := Lib.hid (Rd.of_own hoG)
      clear hoG hb3 hml
      go_wp2_with fail
      refine (l7Has_s G qg cq _ m _ HRG.out HQ.out hqg).mono ?_
      rw [HAN.out]
      rintro e w4 ⟨rfl, hb4⟩
      have HB4 := Lib.hid (bel_trans HB3.out hb4)
      clear hb4
      (try clear b0 b1 bl)
      obtain ⟨b0, b1, bl⟩ := HBX.out (HB4.out)
      cases an with
      | false =>
        go_wp2_with fail
        go_ret
        exact ⟨by rw [HF.out]; rfl, bel_trans HBW0.out HB4.out⟩
      | true =>
        go_wp2_with fail
        refine (l15All_s W A B n c q cb rows hs P _ (HR.out.below HB4.out) HL.out (HP.out.below HB4.out) hq HM.out HV.out HPC.out).mono ?_
        have hmsk := til_msk (P := P) HV.out
        obtain ⟨F, hF⟩ : ∃ F, l15V W rows P = F := ⟨_, rfl⟩
        have hN : fixN W rows P m = F.countP (keptB W rows m) := by unfold fixN; rw [hF]
        rw [hF] at hmsk ⊢
        have HN := Lib.hid hN
        have HMSK := Lib.hid hmsk
        have hFl : F.length ≤ 500 := by rw [← hF]; unfold l15V; rw [List.length_take]; omega
        clear hN hmsk hF
        rintro e w5 ⟨E, u, cu, hE, rfl, hOE, hb5⟩
        have hul := hOE.flen
        have HUL := Lib.hid hul
        have hu500 : u ≤ 500 := by omega
        have HRF := Lib.hid (Rd2I.of_own hOE)
        have HB5 := Lib.hid (bel_trans HB4.out hb5)
        clear hOE hb5 hul hFl b0 b1 bl
        go_wp2_with fail
        go_loopw [9, 7] (fun e9 e7 wr => ∃ (i z : Nat), i ≤ u ∧ e9 = .int .i64 i ∧ e7 = .int .i64 z ∧ z = (F.take i).countP (keptB W rows m) ∧ z ≤ i ∧ Below w5.heap.size w5 wr) (fun e9 _ _ => u - (intOf e9).toNat)
        case atStart => exact ⟨0, 0, Nat.zero_le _, rfl, rfl, by simp, Nat.le_refl _, Below.refl _ _⟩
        case round =>
          obtain ⟨i, z, hiu, rfl, rfl, hz, hzi, hb⟩ := hrel
          have HZ := Lib.hid hz
          have HB := Lib.hid hb
          clear hz hb
          (try clear b0 b1 bl)
          obtain ⟨b0, b1, bl⟩ := HBX.out (bel_trans HB5.out HB.out)
          by_cases hlt : i < u
          · have hi0 : (0 : Int) ≤ (i : Int) := by omega
            have hi1 : (i : Int) < (u : Int) := by omega
            have hil : i < F.length := by rw [HUL.out]; exact hlt
            obtain ⟨h0, f, g, off, hfx, hEe, hge, d0, l1, r1⟩ := (HRF.out.below HB.out).at_ hlt
            obtain ⟨C1, m1, k1⟩ := h0
            dsimp only at d0 l1 r1
            have hf : F[i] = f := by rw [List.getElem?_eq_getElem hil] at hfx; exact Option.some.inj hfx
            have hcp := countP_snoc (keptB W rows m) hil
            rw [hf] at hcp
            obtain ⟨hf36, hfm⟩ := HMSK.out f (by rw [← hf]; exact List.getElem_mem hil)
            have hm36 : m1 ≤ 36 := by omega
            have HCP := Lib.hid hcp
            have HFM := Lib.hid hfm
            have HR1 := Lib.hid r1
            have HL1 := Lib.hid l1
            subst hEe
            clear hfx hil hf hcp hf36 hfm r1 l1
            go_wp2_with fail
            refine wp_region_rg 12 rfl (by kernel_rfl) ?_
            (refine rgT (i := 0) (v := ?_) rfl rfl (by kernel_rfl) (by kernel_rfl) (by kernel_rfl) (by rfl) (fun w' hcw => ?_) ?_; rotate_left; ((try dsimp only at hcw); have hbc := hcw.cells; go_simp; first | done | with_reducible rfl); simp only [List.setIfInBounds_toArray, List.set_cons_zero, List.set_cons_succ])
            (refine rgT (i := 1) (v := ?_) rfl rfl (by kernel_rfl) (by kernel_rfl) (by kernel_rfl) (by rfl) (fun w' hcw => ?_) ?_; rotate_left; ((try dsimp only at hcw); have hbc := hcw.cells; go_simp; first | done | with_reducible rfl); simp only [List.setIfInBounds_toArray, List.set_cons_zero, List.set_cons_succ])
            (refine rgT (i := 2) (v := ?_) rfl rfl (by kernel_rfl) (by kernel_rfl) (by kernel_rfl) (by rfl) (fun w' hcw => ?_) ?_; rotate_left; ((try dsimp only at hcw); have hbc := hcw.cells; go_simp; first | done | with_reducible rfl); simp only [List.setIfInBounds_toArray, List.set_cons_zero, List.set_cons_succ])
            (refine rgT (i := 3) (v := ?_) rfl rfl (by kernel_rfl) (by kernel_rfl) (by kernel_rfl) (by rfl) (fun w' hcw => ?_) ?_; rotate_left; ((try dsimp only at hcw); have hbc := hcw.cells; go_simp; first | done | with_reducible rfl); simp only [List.setIfInBounds_toArray, List.set_cons_zero, List.set_cons_succ])
            (refine rgT (i := 4) (v := ?_) rfl rfl (by kernel_rfl) (by kernel_rfl) (by kernel_rfl) (by rfl) (fun w' hcw => ?_) ?_; rotate_left; ((try dsimp only at hcw); have hbc := hcw.cells; go_simp; first | done | with_reducible rfl); simp only [List.setIfInBounds_toArray, List.set_cons_zero, List.set_cons_succ])
            (refine rgT (i := 5) (v := ?_) rfl rfl (by kernel_rfl) (by kernel_rfl) (by kernel_rfl) (by rfl) (fun w' hcw => ?_) ?_; rotate_left; ((try dsimp only at hcw); have hbc := hcw.cells; go_simp; first | done | with_reducible rfl); simp only [List.setIfInBounds_toArray, List.set_cons_zero, List.set_cons_succ])
            refine rgK_one (i := 6) (by kernel_rfl) rfl rfl (fun u1 hc1 he1 K hK => ?_)
            go_simp
            refine (TurnTiling_s W A n c C1 m1 k1 rows f m _ (HR.out.below (bel_trans (bel_trans HB5.out HB.out) hc1)) HL.out (HR1.out.below hc1) HL1.out (msk_63 HFM.out) (by omega)).mono ?_
            rintro e v1 ⟨X, qx, cx, rfl, hoX, hbX⟩
            refine hK _ _ (bel_trans hc1 hbX) ?_
            clear hK K
            (refine rgT (i := 7) (v := ?_) rfl rfl (by kernel_rfl) (by kernel_rfl) (by kernel_rfl) (by rfl) (fun w' hcw => ?_) ?_; rotate_left; ((try dsimp only at hcw); have hbc := hcw.cells; go_simp; first | done | with_reducible rfl); simp only [List.setIfInBounds_toArray, List.set_cons_zero, List.set_cons_succ])
            (refine rgT (i := 8) (v := ?_) rfl rfl (by kernel_rfl) (by kernel_rfl) (by kernel_rfl) (by rfl) (fun w' hcw => ?_) ?_; rotate_left; ((try dsimp only at hcw); have hbc := hcw.cells; go_simp; first | done | with_reducible rfl); simp only [List.setIfInBounds_toArray, List.set_cons_zero, List.set_cons_succ])
            (refine rgT (i := 9) (v := ?_) rfl rfl (by kernel_rfl) (by kernel_rfl) (by kernel_rfl) (by rfl) (fun w' hcw => ?_) ?_; rotate_left; ((try dsimp only at hcw); have hbc := hcw.cells; go_simp; first | done | with_reducible rfl); simp only [List.setIfInBounds_toArray, List.set_cons_zero, List.set_cons_succ])
            (refine rgT (i := 10) (v := ?_) rfl rfl (by kernel_rfl) (by kernel_rfl) (by kernel_rfl) (by rfl) (fun w' hcw => ?_) ?_; rotate_left; ((try dsimp only at hcw); have hbc := hcw.cells; go_simp; first | done | with_reducible rfl); simp only [List.setIfInBounds_toArray, List.set_cons_zero, List.set_cons_succ])
            (refine rgT (i := 11) (v := ?_) rfl rfl (by kernel_rfl) (by kernel_rfl) (by kernel_rfl) (by rfl) (fun w' hcw => ?_) ?_; rotate_left; ((try dsimp only at hcw); have hbc := hcw.cells; go_simp; first | done | with_reducible rfl); simp only [List.setIfInBounds_toArray, List.set_cons_zero, List.set_cons_succ])
            refine ⟨by kernel_rfl, fun wz hcz hez => NoPanic.normal ?_⟩
            have htl := ttV_len W rows f m
            have HTQ := Lib.hid (by have := own_len hoX; rw [vI_length] at this; omega : (ttV W rows f m).length = qx)
            have HRX := Lib.hid (Rd.of_own (own_keep hoX hez))
            have HBZ := Lib.hid (bel_trans HB.out hcz)
            have d1 := keep_below hcz d0
            have dl := World.block_lt_of_cell? _ _ d1
            have hqx : qx ≤ 1099511627776 := by have := HTQ.out; have := HL1.out; omega
            have HSM := Lib.hid (l23Same_s X C1 qx cx m1 k1 (ttV W rows f m) f wz HRX.out HTQ.out (HR1.out.below hcz) HL1.out hqx)
            clear hoX hbX hc1 he1 hcz hez htl d0 b0 b1 bl
            by_cases hk : ttV W rows f m = f
            · have hkb : keptB W rows m f = true := by unfold keptB; exact decide_eq_true hk
              have hsm := HSM.out
              rw [decide_eq_true hk] at hsm
              have HSM := Lib.hid hsm
              have HZ2 : Hid (z + 1 = (F.take (i + 1)).countP (keptB W rows m)) := by show _ = _; rw [HCP.out, hkb, if_pos rfl, HZ.out]
              clear hk hkb hsm
              go_wp2_with fail
              refine HSM.out.mono ?_
              rintro e w7 ⟨rfl, hb7⟩
              go_wp2_with fail
              exact ⟨⟨i + 1, z + 1, by omega, by go_num, by go_num, HZ2.out, by omega, bel_trans HBZ.out hb7⟩, by simp [intOf]; omega⟩
            · have hkb : keptB W rows m f = false := by unfold keptB; exact decide_eq_false hk
              have hsm := HSM.out
              rw [decide_eq_false hk] at hsm
              have HSM := Lib.hid hsm
              have HZ2 : Hid (z = (F.take (i + 1)).countP (keptB W rows m)) := by show _ = _; rw [HCP.out, hkb, HZ.out]; rfl
              clear hk hkb hsm
              go_wp2_with fail
              refine HSM.out.mono ?_
              rintro e w7 ⟨rfl, hb7⟩
              go_wp2_with fail
              exact ⟨⟨i + 1, z, by omega, by go_num, rfl, HZ2.out, by omega, bel_trans HBZ.out hb7⟩, by simp [intOf]; omega⟩
          · have hi1 : ¬ (i : Int) < (u : Int) := by omega
            have HE : Hid (fixV W rows P m = (z : Int)) := by
              show _ = _
              rw [HF.out, HN.out, HZ.out, List.take_of_length_le (by rw [HUL.out]; omega)]
              rfl
            go_wp2_with fail
            go_ret
            exact ⟨by rw [HE.out]; rfl, bel_trans HBW0.out (bel_trans HB5.out HB.out)⟩
theorem mot_63 {W : Int} {rows : List Int} {m : Int} (h : m ∈ motV W rows) : m < 9223372036854775808 := by
  obtain ⟨_, k, hk, rfl, _⟩ := motV_any (motV_mem h)
  omega
set_option maxRecDepth 100000 in
set_option maxHeartbeats 6400000 in
theorem CountOrbits_s (W : Int) (A B : Option Addr) (n c q cb : Nat) (rows : List Int) (hs : List H) (P : List (List C)) (w : World) (hr : Rd w A (vI rows)) (hl : rows.length = n) (hp : RdP w B q hs P) (hq : q ≤ 1048576) (hm : totC P ≤ 1048576) :
    Calls Tryz.prog 13 #[.agg #[.int .i64 W, .slice A n c], .slice B q cb] w (Ret w (.int .i64 (orbV W rows P))) := by
  have HL := Lib.hid hl
  have HR := Lib.hid (hr.alloc (.cells #[.int .i64 W, .slice A n c] 29))
  have HP := Lib.hid (hp.alloc (.cells #[.int .i64 W, .slice A n c] 29))
  have HB0 := Lib.hid (Blk.new w 29 #[.int .i64 W, .slice A n c])
  have HM := Lib.hid hm
  have hbw0 : Below w.heap.size w (w.alloc (.cells #[.int .i64 W, .slice A n c] 29)) := bel_alloc (Below.refl _ _) _
  have HBW0 := Lib.hid hbw0
  have hml := motV_len W rows
  clear hl hr hp hm hbw0
  obtain ⟨W0, hW0⟩ : ∃ W0, w.alloc (.cells #[.int .i64 W, .slice A n c] 29) = W0 := ⟨_, rfl⟩
  rw [hW0] at HR HP HB0 HBW0
  have HW0 := Lib.hid hW0
  have HBX : Hid (∀ {w1 : World}, Below W0.heap.size W0 w1 → w1.cell? ⟨w.heap.size, 0, none⟩ = some (.int .i64 W) ∧ w1.cell? ⟨w.heap.size, 1, none⟩ = some (.slice A n c) ∧ w.heap.size < w1.heap.size) := fun h => by
    have hB := HB0.out.below h
    exact ⟨by simpa using hB.cell 0, by simpa using hB.cell 1, hB.lt⟩
  clear hW0
  (try clear b0 b1 bl)
  obtain ⟨b0, b1, bl⟩ := HBX.out (Below.refl _ _)
  cases hv : isReg W rows with
  | false =>
    have HV := Lib.hid hv
    have HF : Hid (orbV W rows P = -1) := by show _ = _; unfold orbV; rw [hv]; rfl
    clear hv
    go_enter Tryz.func13, Tryz.ntmps13
    go_wp2_with fail
    rw [HW0.out]
    refine (RegionMotions_s W A n c rows _ HR.out HL.out).mono ?_
    rintro e w1 ⟨G, qg, cq, rfl, hoG, hb1⟩
    have HQ := Lib.hid (by have := own_len hoG; rw [vI_length] at this; omega : (motV W rows).length = qg)
    have HRG := Lib.hid (Rd.of_own hoG)
    have HB1 := Lib.hid hb1
    clear hoG hb1
    (try clear b0 b1 bl)
    obtain ⟨b0, b1, bl⟩ := HBX.out (HB1.out)
    go_wp2_with fail
    refine (IsRegion_s _ _ _ _ rows _ (HR.out.below HB1.out) HL.out).mono ?_
    rw [HV.out]
    rintro e w2 ⟨rfl, hb2⟩
    have HB2 := Lib.hid (bel_trans HB1.out hb2)
    clear hb2
    (try clear b0 b1 bl)
    obtain ⟨b0, b1, bl⟩ := HBX.out (HB2.out)
    go_wp2_with fail
    go_ret
    exact ⟨by rw [HF.out]; rfl, bel_trans HBW0.out HB2.out⟩
  | true =>
    cases hpc : pcs P with
    | false =>
      have HV := Lib.hid hv
      have HPC := Lib.hid hpc
      have HF : Hid (orbV W rows P = -1) := by show _ = _; unfold orbV; rw [hv, hpc]; rfl
      clear hv hpc
      go_enter Tryz.func13, Tryz.ntmps13
      go_wp2_with fail
      rw [HW0.out]
      refine (RegionMotions_s W A n c rows _ HR.out HL.out).mono ?_
      rintro e w1 ⟨G, qg, cq, rfl, hoG, hb1⟩
      have HQ := Lib.hid (by have := own_len hoG; rw [vI_length] at this; omega : (motV W rows).length = qg)
      have HRG := Lib.hid (Rd.of_own hoG)
      have HB1 := Lib.hid hb1
      clear hoG hb1
      (try clear b0 b1 bl)
      obtain ⟨b0, b1, bl⟩ := HBX.out (HB1.out)
      go_wp2_with fail
      refine (IsRegion_s _ _ _ _ rows _ (HR.out.below HB1.out) HL.out).mono ?_
      rw [HV.out]
      rintro e w2 ⟨rfl, hb2⟩
      have HB2 := Lib.hid (bel_trans HB1.out hb2)
      have HBr2 := Lib.hid hb2
      clear hb2
      (try clear b0 b1 bl)
      obtain ⟨b0, b1, bl⟩ := HBX.out (HB2.out)
      go_wp2_with fail
      refine (ArePieces_s B q cb hs P _ (HP.out.below HB2.out) hq HM.out).mono ?_
      rw [HPC.out]
      rintro e w3 ⟨rfl, hb3⟩
      have HB3 := Lib.hid (bel_trans HB2.out hb3)
      have HBr3 := Lib.hid hb3
      clear hb3
      go_wp2_with fail
      go_ret
      exact ⟨by rw [HF.out]; rfl, bel_trans HBW0.out HB3.out⟩
    | true =>
      have hmne := motV_ne hv
      have HV := Lib.hid hv
      have HPC := Lib.hid hpc
      have HNE := Lib.hid hmne
      have HF : Hid (orbV W rows P = if (l15V W rows P).length < 500 then ((sumN W rows P (motV W rows) / (motV W rows).length : Nat) : Int) else -1) := by
        show _ = _
        unfold orbV
        rw [hv, hpc]
        simp
      clear hv hpc hmne
      go_enter Tryz.func13, Tryz.ntmps13
      go_wp2_with fail
      rw [HW0.out]
      refine (RegionMotions_s W A n c rows _ HR.out HL.out).mono ?_
      rintro e w1 ⟨G, qg, cq, rfl, hoG, hb1⟩
      have HQ := Lib.hid (by have := own_len hoG; rw [vI_length] at this; omega : (motV W rows).length = qg)
      have HRG := Lib.hid (Rd.of_own hoG)
      have HB1 := Lib.hid hb1
      clear hoG hb1
      (try clear b0 b1 bl)
      obtain ⟨b0, b1, bl⟩ := HBX.out (HB1.out)
      go_wp2_with fail
      refine (IsRegion_s _ _ _ _ rows _ (HR.out.below HB1.out) HL.out).mono ?_
      rw [HV.out]
      rintro e w2 ⟨rfl, hb2⟩
      have HB2 := Lib.hid (bel_trans HB1.out hb2)
      have HBr2 := Lib.hid hb2
      clear hb2
      (try clear b0 b1 bl)
      obtain ⟨b0, b1, bl⟩ := HBX.out (HB2.out)
      go_wp2_with fail
      refine (ArePieces_s B q cb hs P _ (HP.out.below HB2.out) hq HM.out).mono ?_
      rw [HPC.out]
      rintro e w3 ⟨rfl, hb3⟩
      have HB3 := Lib.hid (bel_trans HB2.out hb3)
      have HBr3 := Lib.hid hb3
      clear hb3
      (try clear b0 b1 bl)
      obtain ⟨b0, b1, bl⟩ := HBX.out (HB3.out)
      go_wp2_with fail
      refine (l15All_s W A B n c q cb rows hs P _ (HR.out.below HB3.out) HL.out (HP.out.below HB3.out) hq HM.out HV.out HPC.out).mono ?_
      rintro e w5 ⟨E, u, cu, hE, rfl, hOE, hb5⟩
      have hul := hOE.flen
      rw [hul] at HF
      have HB5 := Lib.hid (bel_trans HB3.out hb5)
      have HBr5 := Lib.hid hb5
      clear hOE hb5 hul b0 b1 bl
      by_cases hu : u < 500
      · have huI : ¬ (u : Int) ≥ 500 := by omega
        have hf2 := HF.out
        rw [if_pos hu] at hf2
        have HF := Lib.hid hf2
        clear hf2
        obtain ⟨Mo, hMo⟩ : ∃ Mo, motV W rows = Mo := ⟨_, rfl⟩
        have hfx : ∀ m ∈ Mo, fixV W rows P m = ((fixN W rows P m : Nat) : Int) := fun m h => by unfold fixV; rw [HV.out, HPC.out, motV_mem (by rw [hMo]; exact h)]; rfl
        have HMO := Lib.hid hMo
        have HFX := Lib.hid hfx
        rw [hMo] at HQ HRG HF HNE
        rw [hMo] at hml
        clear hMo hfx
        have hq8 : qg ≤ 8 := by have := HQ.out; omega
        have hq0 : 0 < qg := by
          rcases Nat.eq_zero_or_pos qg with h | h
          · exact absurd (List.eq_nil_of_length_eq_zero (by rw [HQ.out, h])) HNE.out
          · exact h
        go_wp2_with fail
        go_loopw [7, 6] (fun e7 e6 wr => ∃ (i z : Nat), i ≤ qg ∧ e7 = .int .i64 i ∧ e6 = .int .i64 z ∧ z = sumN W rows P (Mo.take i) ∧ z ≤ 500 * i ∧ Below w5.heap.size w5 wr) (fun e7 _ _ => qg - (intOf e7).toNat)
        case atStart => exact ⟨0, 0, Nat.zero_le _, rfl, rfl, by simp [sumN], Nat.le_refl _, Below.refl _ _⟩
        case round =>
          obtain ⟨i, z, hiu, rfl, rfl, hz, hzi, hb⟩ := hrel
          have HZ := Lib.hid hz
          have HB := Lib.hid hb
          clear hz hb
          (try clear b0 b1 bl)
          obtain ⟨b0, b1, bl⟩ := HBX.out (bel_trans HB5.out HB.out)
          by_cases hlt : i < qg
          · have hi0 : (0 : Int) ≤ (i : Int) := by omega
            have hi1 : (i : Int) < (qg : Int) := by omega
            have hil : i < Mo.length := by rw [HQ.out]; exact hlt
            obtain ⟨gg, off, hA, hgg, d1⟩ := RdI.at_ ((HRG.out.below (bel_trans (bel_trans (bel_trans HBr2.out HBr3.out) HBr5.out) (Below.refl _ _))).below HB.out) hil
            have hst := sumN_take (W := W) (rows := rows) (P := P) hil
            obtain ⟨m, hmm⟩ : ∃ m, Mo[i] = m := ⟨_, rfl⟩
            have hfm := HFX.out m (by rw [← hmm]; exact List.getElem_mem hil)
            rw [hmm] at d1 hst
            have hfl := fixN_le W rows P m
            have h63 : m < 9223372036854775808 := by
              have h := List.getElem_mem hil
              rw [hmm, ← HMO.out] at h
              exact mot_63 h
            obtain ⟨fx, hfx⟩ : ∃ fx, fixN W rows P m = fx := ⟨_, rfl⟩
            rw [hfx] at hst hfm hfl
            have HFT : Hid (∀ w', Below wr.heap.size wr w' → Calls Tryz.prog 7 #[.agg #[.int .i64 W, .slice A n c], .slice B q cb, .int .i64 m] w' (Ret w' (.int .i64 (fx : Int)))) := fun w' hb' => by
              rw [← hfm]
              exact FixedTilings_s W A B n c q cb rows m hs P w' (HR.out.below (bel_trans (bel_trans HB5.out HB.out) hb')) HL.out (HP.out.below (bel_trans (bel_trans HB5.out HB.out) hb')) hq HM.out h63
            have HST := Lib.hid hst
            have hzx : z + fx ≤ 500 * (i + 1) := by omega
            have HWZ : Hid (IntKind.i64.wrap ((z : Int) + (fx : Int)) = ((z + fx : Nat) : Int)) := (Go.IntWalk.i64_in _ (by omega)).trans (by omega)
            subst hA
            clear hmm hil hfm h63 hfx hst
            go_wp2_with fail
            (refine wp_region_below (by kernel_rfl) (by kernel_rfl) ?_; (repeat (first | go_big_quiet_skip | (refine quietV (v := ?_) (by rfl) rfl (fun w' hbw => ?_) ?_; rotate_left; ((try dsimp only at hbw); have hbc := (bcell hbw).1; have hbf := (bcell hbw).2; go_simp; first | done | with_reducible rfl | (with_reducible exact callsB (v := .int .i64 (fx : Int)) (HFT.out _ hbw) hbw)); simp only [List.setIfInBounds_toArray, List.set_cons_zero, List.set_cons_succ]))); refine wpQuiet_nil ?_; intro wq hbq)
            have HBQ := Lib.hid (bel_trans HB.out hbq)
            clear hbq
            go_wp2_with fail
            exact ⟨⟨i + 1, z + fx, by omega, by go_num, by rw [HWZ.out], by rw [HST.out, HZ.out], hzx, HBQ.out⟩, by simp [intOf]; omega⟩
          · obtain rfl : i = qg := by omega
            have hi1 : ¬ (i : Int) < (i : Int) := by omega
            have hne0 : ((i : Int) == 0) = false := by simp; omega
            have htd : (z : Int).tdiv (i : Int) = ((z / i : Nat) : Int) := by rw [Int.tdiv_eq_ediv_of_nonneg (by omega)]; simp
            have hzd : z / i ≤ z := Nat.div_le_self _ _
            obtain ⟨d, hd⟩ : ∃ d, z / i = d := ⟨_, rfl⟩
            rw [hd] at htd hzd
            have hdw : IntKind.i64.wrap (d : Int) = (d : Int) := Go.IntWalk.i64_in _ (by omega)
            have HE : Hid (orbV W rows P = (d : Int)) := by
              show _ = _
              have h := HZ.out
              rw [List.take_of_length_le (by rw [HQ.out]; exact Nat.le_refl _)] at h
              rw [HF.out, HQ.out, ← h, hd]
            clear hd
            go_wp2_with fail
            go_ret
            exact ⟨by rw [HE.out]; rfl, bel_trans HBW0.out (bel_trans HB5.out HB.out)⟩
      · have huI : (u : Int) ≥ 500 := by omega
        have hf2 := HF.out
        rw [if_neg hu] at hf2
        have HF := Lib.hid hf2
        clear hf2
        go_wp2_with fail
        go_ret
        exact ⟨by rw [HF.out]; rfl, bel_trans HBW0.out HB5.out⟩
end Go.Proofs.YtoedmmhiinhljaaGreatDoor

/- The library's exchange of two ranges, and its rotation. -/
namespace Go.Proofs.YtoedmmhiinhljaaGreatDoor
open Go.RowKit Go.Shelf
set_option linter.unusedVariables false
attribute [local go_sem ↓] Go.wp_at_zero Go.wp_at_succ

set_option maxRecDepth 100000 in
set_option maxHeartbeats 3200000 in
theorem swrT (sf : Nat) (th : Value) (base g n c B : Nat) (hsw : SwT sf th base g n c B) (a b m : Nat) (d0 : Nat → Int) (w : World) (h : SS w base g n c B d0) (ha : a + m ≤ b) (hb : b + m ≤ n) (hn : n ≤ 1099511627776) :
    Calls Tryz.prog 130 #[.agg #[.func (.func 67) #[] #[.pointer (some ⟨B, 0, none⟩)], .func (.func sf) #[] #[.slice (some ⟨g, 0, none⟩) n c, th]], .int .i64 (a : Int), .int .i64 (b : Int), .int .i64 (m : Int)] w (StP w base g n c B fun d' => d' = StM.sw d0 a b m) := by
  have hgl := h.lt.2
  have HS := Lib.hid h
  have HSW := Lib.hid hsw
  have HBB := Lib.hid (Blk.new w 106 #[.func (.func 67) #[] #[.pointer (some ⟨B, 0, none⟩)], .func (.func sf) #[] #[.slice (some ⟨g, 0, none⟩) n c, th]])
  clear hsw h
  go_enter Tryz.func130, Tryz.ntmps130
  go_wp2
  go_loopw [8] (fun e6 wr => ∃ (i : Nat), i ≤ m ∧ e6 = .int .i64 i ∧ SS wr base g n c B (StM.sw d0 a b i) ∧ (w.alloc (.cells #[.func (.func 67) #[] #[.pointer (some ⟨B, 0, none⟩)], .func (.func sf) #[] #[.slice (some ⟨g, 0, none⟩) n c, th]] 106)).grownBy wr (some g)) (fun e6 _ => m - (intOf e6).toNat)
  case atStart => exact ⟨0, Nat.zero_le _, rfl, by rw [StM.sw_zero]; exact HS.out.keep (by (repeat (first | with_reducible exact Below.refl _ _ | with_reducible assumption | with_reducible apply bel_alloc | with_reducible apply bel_drew | with_reducible apply bel_drewN | ((with_reducible refine bel_set ?_ ?_); rotate_left; (simp <;> omega)) | (with_reducible refine bel_trans ?_ (by with_reducible assumption))))), World.grownBy.refl _ _⟩
  case round =>
    obtain ⟨i, him, rfl, hown, hg⟩ := hrel
    have HOW := Lib.hid hown
    have HG := Lib.hid hg
    have hBB := HBB.out.grown HG.out (fun e => by injection e with e; omega)
    have b1 : wr.cell? ⟨w.heap.size, 1, none⟩ = some (.func (.func sf) #[] #[.slice (some ⟨g, 0, none⟩) n c, th]) := by simpa using hBB.cell 1
    have bl := hBB.lt
    clear hown hg hBB
    by_cases hlt : i < m
    · have hiI : (i : Int) < (m : Int) := by omega
      obtain ⟨x, hx⟩ : ∃ x, a + i = x := ⟨_, rfl⟩
      obtain ⟨y, hy⟩ : ∃ y, b + i = y := ⟨_, rfl⟩
      have hxI : (a : Int) + (i : Int) = (x : Int) := by omega
      have hyI : (b : Int) + (i : Int) = (y : Int) := by omega
      have hxw : IntKind.i64.wrap (x : Int) = (x : Int) := Go.IntWalk.i64_in _ (by omega)
      have hyw : IntKind.i64.wrap (y : Int) = (y : Int) := Go.IntWalk.i64_in _ (by omega)
      obtain ⟨w2, hrun, ho2, hg2⟩ := HSW.out wr _ x y HOW.out (by omega) (by omega)
      have HO2 : Hid (SS w2 base g n c B (StM.sw d0 a b (i + 1))) := by
        rw [← StM.sw2_sw d0 a b i (by omega), hx, hy]
        exact ho2
      have HG2 := Lib.hid (hg2 _ HG.out)
      clear ho2 hg2 hx hy
      go_wp2_with fail
      exact ⟨⟨i + 1, by omega, by go_num, HO2.out, HG2.out⟩, by simp [intOf]; omega⟩
    · obtain rfl : i = m := by omega
      have hiI : ¬ (i : Int) < (i : Int) := by omega
      go_wp2_with fail
      go_end0
      exact ⟨rfl, _, HOW.out, grown_allocT HG.out, rfl⟩
set_option maxRecDepth 100000 in
set_option maxHeartbeats 3200000 in
theorem rotT (sf : Nat) (th : Value) (base g n c B : Nat) (hsw : SwT sf th base g n c B) (a m b : Nat) (d0 : Nat → Int) (w : World) (h : SS w base g n c B d0) (ha : a < m) (hm : m < b) (hb : b ≤ n) (hn : n ≤ 1099511627776) :
    Calls Tryz.prog 117 #[.agg #[.func (.func 67) #[] #[.pointer (some ⟨B, 0, none⟩)], .func (.func sf) #[] #[.slice (some ⟨g, 0, none⟩) n c, th]], .int .i64 (a : Int), .int .i64 (m : Int), .int .i64 (b : Int)] w (StP w base g n c B fun d' => d' = StM.rot d0 a m b) := by
  have hgl := h.lt.2
  have HS := Lib.hid h
  have HSW := Lib.hid hsw
  have HBB := Lib.hid (Blk.new w 106 #[.func (.func 67) #[] #[.pointer (some ⟨B, 0, none⟩)], .func (.func sf) #[] #[.slice (some ⟨g, 0, none⟩) n c, th]])
  obtain ⟨i0, hi0⟩ : ∃ i0, m - a = i0 := ⟨_, rfl⟩
  obtain ⟨j0, hj0⟩ : ∃ j0, b - m = j0 := ⟨_, rfl⟩
  have hiI : (m : Int) - (a : Int) = (i0 : Int) := by omega
  have hjI : (b : Int) - (m : Int) = (j0 : Int) := by omega
  have hiw : IntKind.i64.wrap (i0 : Int) = (i0 : Int) := Go.IntWalk.i64_in _ (by omega)
  have hjw : IntKind.i64.wrap (j0 : Int) = (j0 : Int) := Go.IntWalk.i64_in _ (by omega)
  have HI := Lib.hid hi0
  have HJ := Lib.hid hj0
  clear hsw h hi0 hj0
  go_enter Tryz.func117, Tryz.ntmps117
  go_wp2_with fail
  go_loopw [8, 9] (fun e6 e7 wr => ∃ (i j : Nat) (d : Nat → Int), 0 < i ∧ 0 < j ∧ i ≤ m - a ∧ j ≤ b - m ∧ e6 = .int .i64 i ∧ e7 = .int .i64 j ∧ StM.rot d (m - i) m (m + j) = StM.rot d0 a m b ∧ SS wr base g n c B d ∧ (w.alloc (.cells #[.func (.func 67) #[] #[.pointer (some ⟨B, 0, none⟩)], .func (.func sf) #[] #[.slice (some ⟨g, 0, none⟩) n c, th]] 106)).grownBy wr (some g)) (fun e6 e7 _ => (intOf e6).toNat + (intOf e7).toNat)
  case atStart => exact ⟨i0, j0, d0, by have := HI.out; omega, by have := HJ.out; omega, by have := HI.out; omega, by have := HJ.out; omega, rfl, rfl, by rw [show m - i0 = a by have := HI.out; omega, show m + j0 = b by have := HJ.out; omega], HS.out.keep (by (repeat (first | with_reducible exact Below.refl _ _ | with_reducible assumption | with_reducible apply bel_alloc | with_reducible apply bel_drew | with_reducible apply bel_drewN | ((with_reducible refine bel_set ?_ ?_); rotate_left; (simp <;> omega)) | (with_reducible refine bel_trans ?_ (by with_reducible assumption))))), World.grownBy.refl _ _⟩
  case round =>
    clear hiI hjI hiw hjw HI HJ
    obtain ⟨i, j, d, hi, hj, hia, hjb, rfl, rfl, hrot, hown, hg⟩ := hrel
    have HR := Lib.hid hrot
    have HOW := Lib.hid hown
    have HG := Lib.hid hg
    have hBB := HBB.out.grown HG.out (fun e => by injection e with e; omega)
    have b0 : wr.cell? ⟨w.heap.size, 0, none⟩ = some (.func (.func 67) #[] #[.pointer (some ⟨B, 0, none⟩)]) := by simpa using hBB.cell 0
    have b1 : wr.cell? ⟨w.heap.size, 1, none⟩ = some (.func (.func sf) #[] #[.slice (some ⟨g, 0, none⟩) n c, th]) := by simpa using hBB.cell 1
    have bl := hBB.lt
    clear hown hg hBB hrot
    obtain ⟨p, hp⟩ : ∃ p, m - i = p := ⟨_, rfl⟩
    have hpI : (m : Int) - (i : Int) = (p : Int) := by omega
    have hpw : IntKind.i64.wrap (p : Int) = (p : Int) := Go.IntWalk.i64_in _ (by omega)
    have HP := Lib.hid hp
    clear hp
    rcases Nat.lt_trichotomy i j with hlt | heq | hgt
    · have hne : ((i : Int) == (j : Int)) = false := by simp; omega
      have hgtI : ¬ (i : Int) > (j : Int) := by omega
      obtain ⟨q, hq⟩ : ∃ q, m + j - i = q := ⟨_, rfl⟩
      obtain ⟨s, hs⟩ : ∃ s, m + j = s := ⟨_, rfl⟩
      have hsI : (m : Int) + (j : Int) = (s : Int) := by omega
      have hsw : IntKind.i64.wrap (s : Int) = (s : Int) := Go.IntWalk.i64_in _ (by omega)
      have hqI : (s : Int) - (i : Int) = (q : Int) := by omega
      have hqw : IntKind.i64.wrap (q : Int) = (q : Int) := Go.IntWalk.i64_in _ (by omega)
      obtain ⟨k, hk⟩ : ∃ k, j - i = k := ⟨_, rfl⟩
      have hkI : (j : Int) - (i : Int) = (k : Int) := by omega
      have hkw : IntKind.i64.wrap (k : Int) = (k : Int) := Go.IntWalk.i64_in _ (by omega)
      have HQ := Lib.hid hq
      have HK := Lib.hid hk
      clear hq hs hk
      go_wp2_with fail
      refine (swrT sf th base g n c B HSW.out p q i d _ HOW.out (by have := HP.out; have := HQ.out; omega) (by have := HP.out; have := HQ.out; omega) hn).mono ?_
      rintro e w1 ⟨rfl, d1, hS1, hg1, rfl⟩
      have HS1 := Lib.hid hS1
      have HG1 := Lib.hid (HG.out.trans hg1)
      have HR1 : Hid (StM.rot (StM.sw d p q i) (m - i) m (m + k) = StM.rot d0 a m b) := by
        show _ = _
        rw [← HR.out, ← StM.rot_lt d m i j hlt (by omega), HP.out, HQ.out, HK.out]
      clear hS1 hg1
      go_wp2_with fail
      exact ⟨⟨i, k, _, hi, by have := HK.out; omega, hia, by have := HK.out; omega, rfl, rfl, HR1.out, HS1.out, HG1.out⟩, by have := HK.out; simp [intOf]; omega⟩
    · subst heq
      have hne : ((i : Int) == (i : Int)) = true := by simp
      go_wp2_with fail
      refine (swrT sf th base g n c B HSW.out p m i d _ HOW.out (by have := HP.out; omega) (by omega) hn).mono ?_
      rintro e w1 ⟨rfl, d1, hS1, hg1, rfl⟩
      have HS1 := Lib.hid hS1
      have HG1 := Lib.hid (HG.out.trans hg1)
      have HR1 : Hid (StM.sw d p m i = StM.rot d0 a m b) := by
        show _ = _
        rw [← HR.out, ← HP.out]
        exact StM.rot_eq d m i (by omega)
      clear hS1 hg1
      go_wp2_with fail
      go_end0
      exact ⟨rfl, _, HS1.out, grown_allocT HG1.out, HR1.out⟩
    · have hne : ((i : Int) == (j : Int)) = false := by simp; omega
      have hgtI : (i : Int) > (j : Int) := by omega
      obtain ⟨k, hk⟩ : ∃ k, i - j = k := ⟨_, rfl⟩
      have hkI : (i : Int) - (j : Int) = (k : Int) := by omega
      have hkw : IntKind.i64.wrap (k : Int) = (k : Int) := Go.IntWalk.i64_in _ (by omega)
      have HK := Lib.hid hk
      clear hk
      go_wp2_with fail
      refine (swrT sf th base g n c B HSW.out p m j d _ HOW.out (by have := HP.out; omega) (by omega) hn).mono ?_
      rintro e w1 ⟨rfl, d1, hS1, hg1, rfl⟩
      have HS1 := Lib.hid hS1
      have HG1 := Lib.hid (HG.out.trans hg1)
      have HR1 : Hid (StM.rot (StM.sw d p m j) (m - k) m (m + j) = StM.rot d0 a m b) := by
        show _ = _
        rw [← HR.out, ← StM.rot_gt d m i j hgt (by omega), HP.out, HK.out]
      clear hS1 hg1
      go_wp2_with fail
      exact ⟨⟨k, j, _, by have := HK.out; omega, hj, by have := HK.out; omega, hjb, rfl, rfl, HR1.out, HS1.out, HG1.out⟩, by have := HK.out; simp [intOf]; omega⟩
end Go.Proofs.YtoedmmhiinhljaaGreatDoor

/- The searches by halves within the merge. No program is in sight. -/
namespace Go.Proofs.YtoedmmhiinhljaaGreatDoor
namespace StM
set_option linter.unusedVariables false
variable {key : Int → Nat}
theorem Srt.le {a b i j : Nat} {d : Nat → Int} (h : Srt key a b d) (h1 : a ≤ i) (h2 : i ≤ j) (h3 : j < b) : key (d i) ≤ key (d j) := by
  by_cases e : i = j
  · rw [e]; exact Nat.le_refl _
  · exact h i j h1 (by omega) h3
theorem bs1_lo {m b h : Nat} {x : Nat} {d : Nat → Int} (hs : Srt key m b d) (hh : h < b) (hl : key (d h) < x) : ∀ k, m ≤ k → k < h + 1 → key (d k) < x := fun k h1 h2 =>
  Nat.lt_of_le_of_lt (hs.le h1 (by omega) hh) hl
theorem bs1_hi {m b h : Nat} {x : Nat} {d : Nat → Int} (hs : Srt key m b d) (hm : m ≤ h) (hl : ¬ key (d h) < x) : ∀ k, h ≤ k → k < b → x ≤ key (d k) := fun k h1 h2 =>
  Nat.le_trans (Nat.le_of_not_lt hl) (hs.le hm h1 h2)
theorem bs2_lo {a m h : Nat} {x : Nat} {d : Nat → Int} (hs : Srt key a m d) (hh : h < m) (hl : ¬ x < key (d h)) : ∀ k, a ≤ k → k < h + 1 → key (d k) ≤ x := fun k h1 h2 =>
  Nat.le_trans (hs.le h1 (by omega) hh) (Nat.le_of_not_lt hl)
theorem bs2_hi {a m h : Nat} {x : Nat} {d : Nat → Int} (hs : Srt key a m d) (hm : a ≤ h) (hl : x < key (d h)) : ∀ k, h ≤ k → k < m → x < key (d k) := fun k h1 h2 =>
  Nat.lt_of_lt_of_le hl (hs.le hm h1 h2)
/-- What holds of the place where the search in the middle begins. -/
def Mid (a m b mid s0 r0 : Nat) : Prop := (mid < m ∧ s0 = mid + m - b ∧ r0 = mid) ∨ (m ≤ mid ∧ s0 = a ∧ r0 = m)
theorem bs3_lo {a m b mid s0 r0 c : Nat} {d : Nat → Int} (hab : a < m) (hmb : m < b) (hmid : mid = (a + b) / 2) (h0 : Mid a m b mid s0 r0) (h5 : Srt key a m d) (h6 : Srt key m b d) (h1 : s0 ≤ c) (h2 : c < r0)
    (hl : ¬ key (d (mid + m - 1 - c)) < key (d c)) : ∀ k, s0 ≤ k → k < c + 1 → key (d k) ≤ key (d (mid + m - 1 - k)) := fun k k1 k2 => by
  unfold Mid at h0
  exact Nat.le_trans (h5.le (by omega) (by omega : k ≤ c) (by omega)) (Nat.le_trans (Nat.le_of_not_lt hl) (h6.le (by omega) (by omega) (by omega)))
theorem bs3_hi {a m b mid s0 r0 c : Nat} {d : Nat → Int} (hab : a < m) (hmb : m < b) (hmid : mid = (a + b) / 2) (h0 : Mid a m b mid s0 r0) (h5 : Srt key a m d) (h6 : Srt key m b d) (h1 : s0 ≤ c) (h2 : c < r0)
    (hl : key (d (mid + m - 1 - c)) < key (d c)) : ∀ k, c ≤ k → k < r0 → key (d (mid + m - 1 - k)) < key (d k) := fun k k1 k2 => by
  unfold Mid at h0
  exact Nat.lt_of_le_of_lt (h6.le (by omega) (by omega : mid + m - 1 - k ≤ mid + m - 1 - c) (by omega)) (Nat.lt_of_lt_of_le hl (h5.le (by omega) k1 (by omega)))
/-- The places that the search looks at lie within. -/
theorem Mid.at_ {a m b mid s0 r0 c : Nat} (hab : a < m) (hmb : m < b) (hmid : mid = (a + b) / 2) (h0 : Mid a m b mid s0 r0) (h1 : s0 ≤ c) (h2 : c < r0) : c < m ∧ c + 1 ≤ mid + m ∧ m ≤ mid + m - 1 - c ∧ mid + m - 1 - c < b := by
  unfold Mid at h0
  omega
theorem Mid.le {a m b mid s0 r0 : Nat} (hab : a < m) (hmb : m < b) (hmid : mid = (a + b) / 2) (h0 : Mid a m b mid s0 r0) : a ≤ s0 ∧ s0 ≤ r0 ∧ r0 ≤ m ∧ r0 ≤ mid := by
  unfold Mid at h0
  omega
end StM
end Go.Proofs.YtoedmmhiinhljaaGreatDoor

/- The library's merge of two sorted segments. -/
namespace Go.Proofs.YtoedmmhiinhljaaGreatDoor
open Go.RowKit Go.Shelf
set_option linter.unusedVariables false
attribute [local go_sem ↓] Go.wp_at_zero Go.wp_at_succ


set_option maxRecDepth 100000 in
set_option maxHeartbeats 6400000 in
theorem symA (sf : Nat) (th : Value) (base g n c B : Nat) (hsw : SwT sf th base g n c B) (hn : n ≤ 1099511627776) (a m b : Nat) (d0 : Nat → Int) (w : World) (h : SS w base g n c B d0) (hm : m = a + 1) (hmb : m < b) (hb : b ≤ n) (h6 : StM.Srt keyT m b d0) :
    Calls Tryz.prog 102 #[.agg #[.func (.func 67) #[] #[.pointer (some ⟨B, 0, none⟩)], .func (.func sf) #[] #[.slice (some ⟨g, 0, none⟩) n c, th]], .int .i64 (a : Int), .int .i64 (m : Int), .int .i64 (b : Int)] w (StP w base g n c B fun d' => StM.Stb keyT a b d0 d' ∧ StM.Srt keyT a b d') := by
  have hgl := h.lt.2
  have HS := Lib.hid h
  have HSW := Lib.hid hsw
  have HBB := Lib.hid (Blk.new w 106 #[.func (.func 67) #[] #[.pointer (some ⟨B, 0, none⟩)], .func (.func sf) #[] #[.slice (some ⟨g, 0, none⟩) n c, th]])
  have H6 := Lib.hid h6
  have hdI : (m : Int) - (a : Int) = 1 := by omega
  have ham : a < m := by omega
  have HM := Lib.hid hm
  clear hsw h h6 hm
  go_enter Tryz.func102, Tryz.ntmps102
  go_wp2_with fail
  go_loopw [8, 9] (fun e8 e9 wr => ∃ (i j : Nat), m ≤ i ∧ i ≤ j ∧ j ≤ b ∧ e8 = .int .i64 i ∧ e9 = .int .i64 j ∧ (∀ k, m ≤ k → k < i → keyT (d0 k) < keyT (d0 a)) ∧ (∀ k, j ≤ k → k < b → keyT (d0 a) ≤ keyT (d0 k)) ∧ SS wr base g n c B d0 ∧ (w.alloc (.cells #[.func (.func 67) #[] #[.pointer (some ⟨B, 0, none⟩)], .func (.func sf) #[] #[.slice (some ⟨g, 0, none⟩) n c, th]] 106)).grownBy wr (some g)) (fun e8 e9 _ => (intOf e9).toNat - (intOf e8).toNat)
  case atStart => exact ⟨m, b, Nat.le_refl _, by omega, Nat.le_refl _, rfl, rfl, (fun k h1 h2 => by omega), (fun k h1 h2 => by omega), HS.out.keep (by (repeat (first | with_reducible exact Below.refl _ _ | with_reducible assumption | with_reducible apply bel_alloc | with_reducible apply bel_drew | with_reducible apply bel_drewN | ((with_reducible refine bel_set ?_ ?_); rotate_left; (simp <;> omega)) | (with_reducible refine bel_trans ?_ (by with_reducible assumption))))), World.grownBy.refl _ _⟩
  case round =>
    obtain ⟨i, j, hmi, hij, hjb, rfl, rfl, hlo, hhi, hown, hg⟩ := hrel
    have HLO := Lib.hid hlo
    have HHI := Lib.hid hhi
    have HOW := Lib.hid hown
    have HG := Lib.hid hg
    clear hlo hhi hown hg
    by_cases hlt : i < j
    · have hltI : (i : Int) < (j : Int) := by omega
      obtain ⟨s, hs⟩ : ∃ s, i + j = s := ⟨_, rfl⟩
      have hsI : (i : Int) + (j : Int) = (s : Int) := by omega
      have hsw : IntKind.i64.wrap (s : Int) = (s : Int) := Go.IntWalk.i64_in _ (by omega)
      have hsu : IntKind.u64.wrap (s : Int) = (s : Int) := by rw [IntKind.wrap_u64]; omega
      obtain ⟨q, hq⟩ : ∃ q, s / 2 = q := ⟨_, rfl⟩
      have hqI : (s : Int) / 2 = (q : Int) := by omega
      have hqw : IntKind.i64.wrap (q : Int) = (q : Int) := Go.IntWalk.i64_in _ (by omega)
      have hqu : IntKind.u64.wrap (q : Int) = (q : Int) := by rw [IntKind.wrap_u64]; omega
      have HQ := Lib.hid (show i ≤ q ∧ q < j by omega)
      have hBB := HBB.out.grown HG.out (fun e => by injection e with e; omega)
      have b0 : wr.cell? ⟨w.heap.size, 0, none⟩ = some (.func (.func 67) #[] #[.pointer (some ⟨B, 0, none⟩)]) := by simpa using hBB.cell 0
      have b1 : wr.cell? ⟨w.heap.size, 1, none⟩ = some (.func (.func sf) #[] #[.slice (some ⟨g, 0, none⟩) n c, th]) := by simpa using hBB.cell 1
      have bl := hBB.lt
      clear hBB
      have hqn : q < n := by omega
      have han : a < n := by omega
      clear hs hq
      by_cases hl : keyT (d0 q) < keyT (d0 a)
      · have HLO2 := Lib.hid (StM.bs1_lo H6.out (by have := HQ.out; omega : q < b) hl)
        have HL := Lib.hid hl
        clear hl
        go_wp2_with fail
        refine (lessT HOW.out hqn han true (by rw [decide_eq_true HL.out])).mono ?_
        rintro e w1 ⟨rfl, hb1⟩
        go_wp2_with fail
        exact ⟨⟨q + 1, j, by have := HQ.out; omega, by have := HQ.out; omega, hjb, by go_num, rfl, HLO2.out, HHI.out, HOW.out.keep hb1, grown_below HG.out hb1⟩, by have := HQ.out; simp [intOf]; omega⟩
      · have HHI2 := Lib.hid (StM.bs1_hi H6.out (by have := HQ.out; omega : m ≤ q) hl)
        have HL := Lib.hid hl
        clear hl
        go_wp2_with fail
        refine (lessT HOW.out hqn han false (by rw [decide_eq_false HL.out])).mono ?_
        rintro e w1 ⟨rfl, hb1⟩
        go_wp2_with fail
        exact ⟨⟨i, q, hmi, HQ.out.1, by have := HQ.out; omega, rfl, rfl, HLO.out, HHI2.out, HOW.out.keep hb1, grown_below HG.out hb1⟩, by have := HQ.out; simp [intOf]; omega⟩
    · obtain rfl : i = j := by omega
      have hltI : ¬ (i : Int) < (i : Int) := by omega
      obtain ⟨p, hp⟩ : ∃ p, i = p + 1 := ⟨i - 1, by omega⟩
      have hpI : (i : Int) - 1 = (p : Int) := by omega
      have hpw : IntKind.i64.wrap (p : Int) = (p : Int) := Go.IntWalk.i64_in _ (by omega)
      have HP := Lib.hid hp
      clear hp
      go_wp2_with fail
      go_loopw [11] (fun e11 wq => ∃ (k : Nat), a ≤ k ∧ k ≤ p ∧ e11 = .int .i64 k ∧ SS wq base g n c B (StM.rot d0 a m (k + 1)) ∧ (w.alloc (.cells #[.func (.func 67) #[] #[.pointer (some ⟨B, 0, none⟩)], .func (.func sf) #[] #[.slice (some ⟨g, 0, none⟩) n c, th]] 106)).grownBy wq (some g)) (fun e11 _ => p - (intOf e11).toNat)
      case atStart => exact ⟨a, Nat.le_refl _, by have := HP.out; omega, rfl, by rw [← HM.out, StM.rot_idr _ _ _ (by omega)]; exact HOW.out, HG.out⟩
      case round =>
        clear HOW HG
        obtain ⟨k, hak, hkp, rfl, hown, hg⟩ := hrel
        have HOW := Lib.hid hown
        have HG := Lib.hid hg
        clear hown hg
        by_cases hlt2 : k < p
        · have hkI : (k : Int) < (p : Int) := by omega
          obtain ⟨y, hy⟩ : ∃ y, k + 1 = y := ⟨_, rfl⟩
          have hyI : (k : Int) + 1 = (y : Int) := by omega
          have hyw : IntKind.i64.wrap (y : Int) = (y : Int) := Go.IntWalk.i64_in _ (by have := HP.out; omega)
          have hBB := HBB.out.grown HG.out (fun e => by injection e with e; omega)
          have b0 : wr.cell? ⟨w.heap.size, 0, none⟩ = some (.func (.func 67) #[] #[.pointer (some ⟨B, 0, none⟩)]) := by simpa using hBB.cell 0
          have b1 : wr.cell? ⟨w.heap.size, 1, none⟩ = some (.func (.func sf) #[] #[.slice (some ⟨g, 0, none⟩) n c, th]) := by simpa using hBB.cell 1
          have bl := hBB.lt
          clear hBB
          obtain ⟨w2, hrun, ho2, hg2⟩ := HSW.out wr _ k y HOW.out (by have := HP.out; omega) (by have := HP.out; omega)
          have HO2 : Hid (SS w2 base g n c B (StM.rot d0 a m (y + 1))) := by
            have e := StM.rot_up d0 HM.out hak
            rw [hy, show k + 2 = y + 1 by omega] at e
            have h2 := ho2
            rw [hy, e] at h2
            exact h2
          have HG2 := Lib.hid (hg2 _ HG.out)
          have hky : k < y := by omega
          have hyp : y ≤ p := by omega
          clear ho2 hg2 hy
          go_wp2_with fail
          exact ⟨⟨y, by omega, hyp, rfl, HO2.out, HG2.out⟩, by simp [intOf]; omega⟩
        · obtain rfl : k = p := by omega
          have hkI : ¬ (k : Int) < (k : Int) := by omega
          go_wp2_with fail
          (try simp only [Exit.inBlock, Exit.then])
          refine bodyPost_ret (results_none rfl _ _ _) rfl ?_
          refine ⟨rfl, _, HOW.out, grown_allocT HG.out, ?_⟩
          have e := HP.out
          rw [← e]
          exact StM.merge1 HM.out hmi hjb H6.out HLO.out HHI.out
set_option maxRecDepth 100000 in
set_option maxHeartbeats 6400000 in
/-- The merge where the second segment holds one value. -/
theorem symB (sf : Nat) (th : Value) (base g n c B : Nat) (hsw : SwT sf th base g n c B) (hn : n ≤ 1099511627776) (a m b : Nat) (d0 : Nat → Int) (w : World) (h : SS w base g n c B d0) (ham : a + 1 < m) (hbm : b = m + 1) (hb : b ≤ n) (h5 : StM.Srt keyT a m d0) :
    Calls Tryz.prog 102 #[.agg #[.func (.func 67) #[] #[.pointer (some ⟨B, 0, none⟩)], .func (.func sf) #[] #[.slice (some ⟨g, 0, none⟩) n c, th]], .int .i64 (a : Int), .int .i64 (m : Int), .int .i64 (b : Int)] w (StP w base g n c B fun d' => StM.Stb keyT a b d0 d' ∧ StM.Srt keyT a b d') := by
  have hgl := h.lt.2
  have HS := Lib.hid h
  have HSW := Lib.hid hsw
  have HBB := Lib.hid (Blk.new w 106 #[.func (.func 67) #[] #[.pointer (some ⟨B, 0, none⟩)], .func (.func sf) #[] #[.slice (some ⟨g, 0, none⟩) n c, th]])
  have H5 := Lib.hid h5
  obtain ⟨z, hz⟩ : ∃ z, m - a = z := ⟨_, rfl⟩
  have hzI : (m : Int) - (a : Int) = (z : Int) := by omega
  have hzw : IntKind.i64.wrap (z : Int) = (z : Int) := Go.IntWalk.i64_in _ (by omega)
  have hz1 : ((z : Int) == 1) = false := by rw [beq_eq_false_iff_ne]; omega
  have hdI : (b : Int) - (m : Int) = 1 := by omega
  have hmn : m < n := by omega
  have HM := Lib.hid hbm
  clear hsw h h5 hbm hz
  go_enter Tryz.func102, Tryz.ntmps102
  go_wp2_with fail
  go_loopw [12, 13] (fun e8 e9 wr => ∃ (i j : Nat), a ≤ i ∧ i ≤ j ∧ j ≤ m ∧ e8 = .int .i64 i ∧ e9 = .int .i64 j ∧ (∀ k, a ≤ k → k < i → keyT (d0 k) ≤ keyT (d0 m)) ∧ (∀ k, j ≤ k → k < m → keyT (d0 m) < keyT (d0 k)) ∧ SS wr base g n c B d0 ∧ (w.alloc (.cells #[.func (.func 67) #[] #[.pointer (some ⟨B, 0, none⟩)], .func (.func sf) #[] #[.slice (some ⟨g, 0, none⟩) n c, th]] 106)).grownBy wr (some g)) (fun e8 e9 _ => (intOf e9).toNat - (intOf e8).toNat)
  case atStart => exact ⟨a, m, Nat.le_refl _, by omega, Nat.le_refl _, rfl, rfl, (fun k h1 h2 => by omega), (fun k h1 h2 => by omega), HS.out.keep (by (repeat (first | with_reducible exact Below.refl _ _ | with_reducible assumption | with_reducible apply bel_alloc | with_reducible apply bel_drew | with_reducible apply bel_drewN | ((with_reducible refine bel_set ?_ ?_); rotate_left; (simp <;> omega)) | (with_reducible refine bel_trans ?_ (by with_reducible assumption))))), World.grownBy.refl _ _⟩
  case round =>
    obtain ⟨i, j, hmi, hij, hjb, rfl, rfl, hlo, hhi, hown, hg⟩ := hrel
    have HLO := Lib.hid hlo
    have HHI := Lib.hid hhi
    have HOW := Lib.hid hown
    have HG := Lib.hid hg
    clear hlo hhi hown hg
    by_cases hlt : i < j
    · have hltI : (i : Int) < (j : Int) := by omega
      obtain ⟨s, hs⟩ : ∃ s, i + j = s := ⟨_, rfl⟩
      have hsI : (i : Int) + (j : Int) = (s : Int) := by omega
      have hsw : IntKind.i64.wrap (s : Int) = (s : Int) := Go.IntWalk.i64_in _ (by omega)
      have hsu : IntKind.u64.wrap (s : Int) = (s : Int) := by rw [IntKind.wrap_u64]; omega
      obtain ⟨q, hq⟩ : ∃ q, s / 2 = q := ⟨_, rfl⟩
      have hqI : (s : Int) / 2 = (q : Int) := by omega
      have hqw : IntKind.i64.wrap (q : Int) = (q : Int) := Go.IntWalk.i64_in _ (by omega)
      have hqu : IntKind.u64.wrap (q : Int) = (q : Int) := by rw [IntKind.wrap_u64]; omega
      have HQ := Lib.hid (show i ≤ q ∧ q < j by omega)
      have hBB := HBB.out.grown HG.out (fun e => by injection e with e; omega)
      have b0 : wr.cell? ⟨w.heap.size, 0, none⟩ = some (.func (.func 67) #[] #[.pointer (some ⟨B, 0, none⟩)]) := by simpa using hBB.cell 0
      have b1 : wr.cell? ⟨w.heap.size, 1, none⟩ = some (.func (.func sf) #[] #[.slice (some ⟨g, 0, none⟩) n c, th]) := by simpa using hBB.cell 1
      have bl := hBB.lt
      clear hBB
      have hqn : q < n := by omega
      clear hs hq
      by_cases hl : keyT (d0 m) < keyT (d0 q)
      · have HHI2 := Lib.hid (StM.bs2_hi H5.out (by have := HQ.out; omega : a ≤ q) hl)
        have HL := Lib.hid hl
        clear hl
        go_wp2_with fail
        refine (lessT HOW.out hmn hqn true (by rw [decide_eq_true HL.out])).mono ?_
        rintro e w1 ⟨rfl, hb1⟩
        go_wp2_with fail
        exact ⟨⟨i, q, hmi, HQ.out.1, by have := HQ.out; omega, rfl, rfl, HLO.out, HHI2.out, HOW.out.keep hb1, grown_below HG.out hb1⟩, by have := HQ.out; simp [intOf]; omega⟩
      · have HLO2 := Lib.hid (StM.bs2_lo H5.out (by have := HQ.out; omega : q < m) hl)
        have HL := Lib.hid hl
        clear hl
        go_wp2_with fail
        refine (lessT HOW.out hmn hqn false (by rw [decide_eq_false HL.out])).mono ?_
        rintro e w1 ⟨rfl, hb1⟩
        go_wp2_with fail
        exact ⟨⟨q + 1, j, by have := HQ.out; omega, by have := HQ.out; omega, hjb, by go_num, rfl, HLO2.out, HHI.out, HOW.out.keep hb1, grown_below HG.out hb1⟩, by have := HQ.out; simp [intOf]; omega⟩
    · obtain rfl : i = j := by omega
      have hltI : ¬ (i : Int) < (i : Int) := by omega
      go_wp2_with fail
      go_loopw [15] (fun e11 wq => ∃ (k : Nat), i ≤ k ∧ k ≤ m ∧ e11 = .int .i64 k ∧ SS wq base g n c B (StM.rot d0 k m b) ∧ (w.alloc (.cells #[.func (.func 67) #[] #[.pointer (some ⟨B, 0, none⟩)], .func (.func sf) #[] #[.slice (some ⟨g, 0, none⟩) n c, th]] 106)).grownBy wq (some g)) (fun e11 _ => (intOf e11).toNat)
      case atStart => exact ⟨m, hjb, Nat.le_refl _, rfl, by rw [StM.rot_idl _ _ _ (by have := HM.out; omega)]; exact HOW.out, HG.out⟩
      case round =>
        clear HOW HG
        obtain ⟨k, hik, hkm, rfl, hown, hg⟩ := hrel
        have HOW := Lib.hid hown
        have HG := Lib.hid hg
        clear hown hg
        by_cases hlt2 : i < k
        · have hkI : (k : Int) > (i : Int) := by omega
          obtain ⟨p, hp⟩ : ∃ p, k = p + 1 := ⟨k - 1, by omega⟩
          have hpI : (k : Int) - 1 = (p : Int) := by omega
          have hpw : IntKind.i64.wrap (p : Int) = (p : Int) := Go.IntWalk.i64_in _ (by omega)
          have hBB := HBB.out.grown HG.out (fun e => by injection e with e; omega)
          have b0 : wr.cell? ⟨w.heap.size, 0, none⟩ = some (.func (.func 67) #[] #[.pointer (some ⟨B, 0, none⟩)]) := by simpa using hBB.cell 0
          have b1 : wr.cell? ⟨w.heap.size, 1, none⟩ = some (.func (.func sf) #[] #[.slice (some ⟨g, 0, none⟩) n c, th]) := by simpa using hBB.cell 1
          have bl := hBB.lt
          clear hBB
          obtain ⟨w2, hrun, ho2, hg2⟩ := HSW.out wr _ k p HOW.out (by omega) (by omega)
          have HO2 : Hid (SS w2 base g n c B (StM.rot d0 p m b)) := by
            rw [← StM.rot_dn d0 HM.out hp hkm]
            exact ho2
          have HG2 := Lib.hid (hg2 _ HG.out)
          have hpk : p < k := by omega
          have hip : i ≤ p := by omega
          clear ho2 hg2 hp
          go_wp2_with fail
          exact ⟨⟨p, hip, by omega, rfl, HO2.out, HG2.out⟩, by simp [intOf]; omega⟩
        · obtain rfl : k = i := by omega
          have hkI : ¬ (k : Int) > (k : Int) := by omega
          go_wp2_with fail
          (try simp only [Exit.inBlock, Exit.then])
          refine bodyPost_ret (results_none rfl _ _ _) rfl ?_
          exact ⟨rfl, _, HOW.out, grown_allocT HG.out, StM.merge2 HM.out hmi hjb H5.out HLO.out HHI.out⟩
end Go.Proofs.YtoedmmhiinhljaaGreatDoor
