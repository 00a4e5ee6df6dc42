/- Cells put in order: the reference. -/
import Derived.Test.YteelmhmdnljjnaaGreatCellG
import Derived.Test.YteelmhmdnljjnaaGreatIns
import Derived.Test.YteelmhmdnljjnaaGreatMem
import Derived.Test.YteelmhmdnljjnaaGreatShp
import Derived.Outline
import Derived.WalkLawsBesides
import Derived.WalkSpells
import Derived.BigQuiet
import Derived.Deep.QuietTactic
import Derived.Deep.RegionHeld3
import Derived.Deep.RegionWith
import Derived.Deep.DeepCutAuto
import Derived.Deep.CutBlock
import Derived.Deep.DrawnRows
namespace Go.Proofs.YteelmhmdnljjnaaGreat
open Go.RowKit
set_option linter.unusedVariables false
attribute [local go_sem ↓] Go.wp_at_zero Go.wp_at_succ

def offC (c k : Nat) : Nat := if c = k then 0 else k * 2
theorem run_uptoC (w : World) (g m c k : Nat) (hk : k ≤ c) : (Instr.slice 59 (.slice (some ⟨g, 0, none⟩) m c) none (some (.int .i64 (k : Int))) none).run Tryz.prog w = .ok (.slice (some ⟨g, 0, none⟩) k c) w := by
  have h2 : (k : Int) ≤ (c : Int) := by omega
  simp [go_sem, h2]
theorem run_fromC (w : World) (g m c k : Nat) (hk : k ≤ m) : (Instr.slice 59 (.slice (some ⟨g, 0, none⟩) m c) (some (.int .i64 (k : Int))) none none).run Tryz.prog w = .ok (.slice (some ⟨g, offC c k, none⟩) (m - k) (c - k)) w := by
  have h1 : (0 : Int) ≤ (k : Int) := by omega
  have h2 : (k : Int) ≤ (m : Int) := by omega
  unfold offC
  by_cases hc : c = k
  · subst hc
    simp [go_sem, h2]
  · simp [go_sem, h2, hc]
theorem Rd.fromC {w : World} {g c k m : Nat} {l : List C} (h : Rd w (some ⟨g, 0, none⟩) (vC l)) (hl : l.length = m) (hmc : m ≤ c) : Rd w (some ⟨g, offC c k, none⟩) (vC (l.drop k)) := by
  rcases h with h | ⟨g', off, he, h⟩
  · have : l = [] := by
      have := congrArg List.length h
      rw [vC_length] at this
      exact List.eq_nil_of_length_eq_zero (by simp at this; omega)
    subst this
    simp [Rd, vC]
  · injection he with he
    injection he with h1 h2 h3
    subst h1 h2
    unfold offC
    split
    · next e =>
      have : l.drop k = [] := List.drop_of_length_le (by omega)
      rw [this]
      exact .inl rfl
    · refine .inr ⟨g, k * 2, rfl, fun j u hu => ?_⟩
      rw [vC_drop, List.getElem?_drop] at hu
      have := h _ _ hu
      simpa using this
theorem take_fold {α β : Type} (f : β → α → β) (b : β) (xs : List α) (k : Nat) (hk : k < xs.length) : (xs.take (k + 1)).foldl f b = f ((xs.take k).foldl f b) xs[k] := by
  rw [List.take_succ_eq_append_getElem hk, List.foldl_append]
  rfl
set_option maxRecDepth 100000 in
set_option maxHeartbeats 3200000 in
theorem SortCells_s (A : Option Addr) (n c : Nat) (xs : List C) (w : World) (hr : Rd w A (vC xs)) (hl : xs.length = n) (hn : n ≤ 1048576) :
    Calls Tryz.prog 105 #[.slice A n c] w (RetS w 71 2 (vC (sortC xs))) := by
  have HL := Lib.hid hl
  have HR := Lib.hid hr
  have hini := own_new w 71 2 0 #[] rfl (by simp [maxLen]) (base := w.heap.size) (Nat.le_refl _)
  have HI0 := Lib.hid hini
  clear hl hr hini
  go_enter Tryz.func105, Tryz.ntmps105
  go_wp2
  go_loopw [4, 3] (fun e4 e3 wr => ∃ (i g m cp : Nat), i ≤ n ∧ m ≤ i ∧ e4 = .int .i64 i ∧ e3 = .slice (some ⟨g, 0, none⟩) m cp ∧ wr.ownsRow w.heap.size 71 2 (.slice (some ⟨g, 0, none⟩) m cp) m (vC ((xs.take i).foldl (putG befC) [])) ∧ Below w.heap.size w wr) (fun e4 _ _ => n - (intOf e4).toNat)
  case atStart => exact ⟨0, _, 0, 0, Nat.zero_le _, Nat.zero_le _, rfl, by simp, HI0.out, (by (repeat (first | with_reducible exact Below.refl _ _ | with_reducible assumption | with_reducible apply bel_alloc | with_reducible apply bel_drew | with_reducible apply bel_drewN | ((with_reducible refine bel_set ?_ ?_); rotate_left; (simp <;> omega)) | (with_reducible refine bel_trans ?_ (by with_reducible assumption)))))⟩
  case round =>
    obtain ⟨i, g, m, cp, hi, hmn, rfl, rfl, hown, hb⟩ := hrel
    by_cases hlt : i < n
    · have hil : i < xs.length := by rw [HL.out]; exact hlt
      have hi0 : (0 : Int) ≤ (i : Int) := by omega
      have hi1 : (i : Int) < (n : Int) := by omega
      have hst := take_fold (putG befC) [] xs i hil
      obtain ⟨l, hle⟩ : ∃ l, (xs.take i).foldl (putG befC) [] = l := ⟨_, rfl⟩
      rw [hle] at hst hown
      obtain ⟨gx, ox, rfl, hgx, a1, a2⟩ := RdC.at_ (HR.out.below hb) hil
      obtain ⟨x, hx⟩ : ∃ x, xs[i].1 = x := ⟨_, rfl⟩
      obtain ⟨y, hy⟩ : ∃ y, xs[i].2 = y := ⟨_, rfl⟩
      have hxy : xs[i] = (x, y) := Prod.ext hx hy
      rw [hx] at a1
      rw [hy] at a2
      rw [hxy] at hst
      have hlm : l.length = m := by have := own_len hown; rw [vC_length] at this; omega
      have hmc : m ≤ cp ∧ cp ≤ 9223372036854775807 := by
        rcases hown.2 with ⟨h, _⟩ | ⟨g', cap, cur, hv, _, _, h1, h2, _⟩
        · cases h
        · injection hv with _ _ h3
          unfold maxLen at h2
          omega
      obtain ⟨hmc1, hmc2⟩ := hmc
      have hlr := Rd.of_own hown
      have hgl := (own_lt hown g rfl).2
      have HLM := Lib.hid hlm
      have HO := Lib.hid hown
      have HLR0 := Lib.hid hlr
      have hcm : cutG befC l (x, y) l.length = cutG befC l (x, y) m := by rw [hlm]
      have HIN : Hid (∀ k', cutG befC l (x, y) m = k' → ¬ (0 < k' ∧ l.getD (k' - 1) default = (x, y)) → putG befC l (x, y) = l.take k' ++ [(x, y)] ++ l.drop k') := fun k' h1 h2 => putG_new (hcm.trans h1) h2
      have HSM : Hid (∀ k', cutG befC l (x, y) m = k' → 0 < k' → l.getD (k' - 1) default = (x, y) → putG befC l (x, y) = l) := fun k' h1 h2 h3 => putG_same (hcm.trans h1) h2 h3
      have HST := Lib.hid hst
      have HBW := Lib.hid hb
      have HBZ := Lib.hid hb.size
      clear hlm hown hlr hcm hst hle hx hy hxy hb
      go_wp2
      go_loopw [5] (fun e5 wr2 => ∃ k : Nat, k ≤ m ∧ e5 = .int .i64 k ∧ cutG befC l (x, y) m = cutG befC l (x, y) k ∧ Below wr.heap.size wr wr2) (fun e5 _ => (intOf e5).toNat)
      case atStart => exact ⟨m, Nat.le_refl _, rfl, rfl, Below.refl _ _⟩
      case round =>
        obtain ⟨k, hk, rfl, hcut, hb2⟩ := hrel
        have HLR := Lib.hid (HLR0.out.below hb2)
        have f1 : wr.cell? ⟨gx, ox + i * 2, none⟩ = some (.int .i64 x) := (hb2.cell hgx).trans a1
        have f2 : wr.cell? ⟨gx, ox + i * 2 + 1, none⟩ = some (.int .i64 y) := (hb2.cell hgx).trans a2
        have HCUT := Lib.hid hcut
        have hgx2 : gx < wr.heap.size := Nat.lt_of_lt_of_le hgx hb2.size
        have hgl2 : g < wr.heap.size := Nat.lt_of_lt_of_le hgl hb2.size
        have HB := Lib.hid (bel_trans HBW.out hb2)
        have HBS : Hid (w.heap.size ≤ wr.heap.size) := (HB.out).size
        have hbs2 := HBS.out
        clear a1 a2 hcut
        by_cases hk0 : 0 < k
        · obtain ⟨j, hjk⟩ : ∃ j, k = j + 1 := ⟨k - 1, by omega⟩
          have hjl : j < l.length := by rw [HLM.out]; omega
          obtain ⟨g', off, he, _, b1, b2⟩ := RdC.at_ HLR.out hjl
          simp only [Option.some.injEq, Addr.mk.injEq, and_true] at he
          obtain ⟨rfl, rfl⟩ := he
          rw [Nat.zero_add] at b1 b2
          have hgd : l.getD j default = l[j] := by rw [List.getD_eq_getElem?_getD, List.getElem?_eq_getElem hjl]; rfl
          obtain ⟨p, hp⟩ : ∃ p, l[j].1 = p := ⟨_, rfl⟩
          obtain ⟨q, hq⟩ : ∃ q, l[j].2 = q := ⟨_, rfl⟩
          have hpq : l[j] = (p, q) := Prod.ext hp hq
          rw [hp] at b1
          rw [hq] at b2
          rw [hpq] at hgd
          have HG := Lib.hid hgd
          have hj1 : (k : Int) - 1 = (j : Int) := by omega
          have hj0 : (0 : Int) ≤ (j : Int) := by omega
          have hjw : IntKind.i64.wrap (j : Int) = (j : Int) := Go.IntWalk.i64_in _ (by omega)
          have hjm : (j : Int) < (m : Int) := by omega
          have hkp : (k : Int) > 0 := by omega
          have HJ := Lib.hid hjk
          have HK0 := Lib.hid hk0
          clear hgd hp hq hpq hjk
          cases hbf : befC (x, y) (p, q) with
          | true =>
            have HN : Hid (cutG befC l (x, y) m = cutG befC l (x, y) j) := by show _ = _; rw [HCUT.out, HJ.out]; show (if befC (x, y) (l.getD j default) = true then _ else _) = _; rw [HG.out, if_pos hbf]
            have HBF := Lib.hid hbf
            clear hbf
            go_wp2_with fail
            (refine wp_region_below (by kernel_rfl) (by kernel_rfl) ?_; (repeat (first | go_big_quiet_skip | (refine quietV (v := ?_) (by rfl) rfl (fun w' hbw => ?_) ?_; rotate_left; ((try dsimp only at hbw); have hbc := (bcell hbw).1; have hbf := (bcell hbw).2; go_simp; first | done | with_reducible rfl | exact callsBB (l2Before_s x y p q _) HBF.out hbw); simp only [List.setIfInBounds_toArray, List.set_cons_zero, List.set_cons_succ]))); refine wpQuiet_nil ?_; intro wq hbq)
            go_wp2_with fail
            exact ⟨⟨j, by omega, rfl, HN.out, bel_trans hb2 hbq⟩, by simp [intOf]; have := HJ.out; omega⟩
          | false =>
            have HN : Hid (cutG befC l (x, y) m = k) := by show _ = _; rw [HCUT.out, HJ.out]; show (if befC (x, y) (l.getD j default) = true then _ else _) = _; rw [HG.out, if_neg (by rw [hbf]; simp)]
            have HBF := Lib.hid hbf
            clear hbf
            by_cases hsame : p = x ∧ q = y
            · obtain ⟨rfl, rfl⟩ := hsame
              have HV := Lib.hid (HSM.out k HN.out HK0.out (by rw [show k - 1 = j from by have := HJ.out; omega]; exact HG.out))
              go_wp2_with fail
              (refine wp_region_below (by kernel_rfl) (by kernel_rfl) ?_; (repeat (first | go_big_quiet_skip | (refine quietV (v := ?_) (by rfl) rfl (fun w' hbw => ?_) ?_; rotate_left; ((try dsimp only at hbw); have hbc := (bcell hbw).1; have hbf := (bcell hbw).2; go_simp; first | done | with_reducible rfl | exact callsBB (l2Before_s p q p q _) HBF.out hbw); simp only [List.setIfInBounds_toArray, List.set_cons_zero, List.set_cons_succ]))); refine wpQuiet_nil ?_; intro wq hbq)
              have c1 : wq.cell? ⟨gx, ox + i * 2, none⟩ = some (.int .i64 p) := (hbq.cell hgx2).trans f1
              have c2 : wq.cell? ⟨gx, ox + i * 2 + 1, none⟩ = some (.int .i64 q) := (hbq.cell hgx2).trans f2
              have c3 : wq.cell? ⟨g, j * 2, none⟩ = some (.int .i64 p) := (hbq.cell hgl2).trans b1
              have c4 : wq.cell? ⟨g, j * 2 + 1, none⟩ = some (.int .i64 q) := (hbq.cell hgl2).trans b2
              have hgxq : gx < wq.heap.size := Nat.lt_of_lt_of_le hgx2 hbq.size
              have hglq : g < wq.heap.size := Nat.lt_of_lt_of_le hgl2 hbq.size
              clear f1 f2 b1 b2
              go_wp2_with fail
              (refine wp_region_below (by kernel_rfl) (by kernel_rfl) ?_; (repeat (first | go_big_quiet_skip | (refine quietV (v := ?_) (by rfl) rfl (fun w' hbw => ?_) ?_; rotate_left; ((try dsimp only at hbw); have hbc := (bcell hbw).1; have hbf := (bcell hbw).2; go_simp; first | done | with_reducible rfl | fail); simp only [List.setIfInBounds_toArray, List.set_cons_zero, List.set_cons_succ]))); refine wpQuiet_nil ?_; intro wz hbz)
              go_wp2_with fail
              exact ⟨⟨i + 1, g, m, cp, by omega, by omega, by go_num, rfl, by rw [HST.out, HV.out]; exact own_keep (own_keep (own_keep HO.out hb2) hbq) hbz, bel_trans (bel_trans HB.out hbq) hbz⟩, by simp [intOf]; omega⟩
            · have HV := Lib.hid (HIN.out k HN.out (fun h => hsame (by have := h.2; rw [show k - 1 = j from by have := HJ.out; omega, HG.out] at this; injection this with h1 h2; exact ⟨h1, h2⟩)))
              have hne : (p == x && q == y) = false := by
                rw [Bool.and_eq_false_iff, beq_eq_false_iff_ne, beq_eq_false_iff_ne]
                by_cases h1 : p = x
                · exact .inr fun h2 => hsame ⟨h1, h2⟩
                · exact .inl h1
              clear hsame
              go_wp2_with fail
              (refine wp_region_below (by kernel_rfl) (by kernel_rfl) ?_; (repeat (first | go_big_quiet_skip | (refine quietV (v := ?_) (by rfl) rfl (fun w' hbw => ?_) ?_; rotate_left; ((try dsimp only at hbw); have hbc := (bcell hbw).1; have hbf := (bcell hbw).2; go_simp; first | done | with_reducible rfl | exact callsBB (l2Before_s x y p q _) HBF.out hbw); simp only [List.setIfInBounds_toArray, List.set_cons_zero, List.set_cons_succ]))); refine wpQuiet_nil ?_; intro wq hbq)
              have c1 : wq.cell? ⟨gx, ox + i * 2, none⟩ = some (.int .i64 x) := (hbq.cell hgx2).trans f1
              have c2 : wq.cell? ⟨gx, ox + i * 2 + 1, none⟩ = some (.int .i64 y) := (hbq.cell hgx2).trans f2
              have c3 : wq.cell? ⟨g, j * 2, none⟩ = some (.int .i64 p) := (hbq.cell hgl2).trans b1
              have c4 : wq.cell? ⟨g, j * 2 + 1, none⟩ = some (.int .i64 q) := (hbq.cell hgl2).trans b2
              have hgxq : gx < wq.heap.size := Nat.lt_of_lt_of_le hgx2 hbq.size
              have hglq : g < wq.heap.size := Nat.lt_of_lt_of_le hgl2 hbq.size
              clear f1 f2 b1 b2
              go_wp2_with fail
              (refine wp_region_below (by kernel_rfl) (by kernel_rfl) ?_; (repeat (first | go_big_quiet_skip | (refine quietV (v := ?_) (by rfl) rfl (fun w' hbw => ?_) ?_; rotate_left; ((try dsimp only at hbw); have hbc := (bcell hbw).1; have hbf := (bcell hbw).2; go_simp; first | done | with_reducible rfl | fail); simp only [List.setIfInBounds_toArray, List.set_cons_zero, List.set_cons_succ]))); refine wpQuiet_nil ?_; intro wz hbz)
              have f1 : wz.cell? ⟨gx, ox + i * 2, none⟩ = some (.int .i64 x) := (hbz.cell hgxq).trans c1
              have f2 : wz.cell? ⟨gx, ox + i * 2 + 1, none⟩ = some (.int .i64 y) := (hbz.cell hgxq).trans c2
              have hgxz : gx < wz.heap.size := Nat.lt_of_lt_of_le hgxq hbz.size
              replace HLR := Lib.hid ((HLR.out.below hbq).below hbz)
              replace HB := Lib.hid (bel_trans (bel_trans HB.out hbq) hbz)
              replace HBS : Hid (w.heap.size ≤ wz.heap.size) := (HB.out).size
              clear c1 c2 c3 c4
              go_wp2_with fail
              obtain ⟨i0, hi, hz0, hz1, hz2⟩ := info_parts infoC
              have hs1 : ∀ w', (Instr.slice 59 (.slice (some ⟨g, 0, none⟩) m cp) none (some (.int .i64 (k : Int))) none).run Tryz.prog w' = .ok (.slice (some ⟨g, 0, none⟩) k cp) w' := fun w' => run_uptoC w' g m cp k (by omega)
              have hs2 : ∀ w', (Instr.slice 59 (.slice (some ⟨g, 0, none⟩) m cp) (some (.int .i64 (k : Int))) none none).run Tryz.prog w' = .ok (.slice (some ⟨g, offC cp k, none⟩) (m - k) (cp - k)) w' := fun w' => run_fromC w' g m cp k (by omega)
              have R2 : Hid (Rd wz (some ⟨g, offC cp k, none⟩) (vC (l.drop k))) := Rd.fromC HLR.out HLM.out (by omega)
              have R1 : Hid (Rd wz (some ⟨g, 0, none⟩) (vC (l.take k))) := by show Rd _ _ _; rw [vC_take]; exact Rd.take HLR.out _
              have L1 : Hid ((l.take k).length = k) := by show (l.take k).length = k; rw [List.length_take, HLM.out]; omega
              have L2 : Hid ((l.drop k).length = m - k) := by show (l.drop k).length = m - k; rw [List.length_drop, HLM.out]
              have HI := Lib.hid hi
              have HZ0 := Lib.hid hz0
              have HZ1 := Lib.hid hz1
              have HZ2 := Lib.hid hz2
              clear hi hz0 hz1 hz2
              refine wp_region_rg 16 rfl (by kernel_rfl) ?_
              (refine rgT (i := 1) (v := ?_) rfl rfl (by kernel_rfl) (by kernel_rfl) (by kernel_rfl) (by rfl) (fun w' hcw => ?_) ?_; rotate_left; ((try dsimp only at hcw); have hbc := hcw.cells; go_simp; first | done | with_reducible rfl); simp only [List.setIfInBounds_toArray, List.set_cons_zero, List.set_cons_succ])
              (refine rgT (i := 2) (v := ?_) rfl rfl (by kernel_rfl) (by kernel_rfl) (by kernel_rfl) (by rfl) (fun w' hcw => ?_) ?_; rotate_left; ((try dsimp only at hcw); have hbc := hcw.cells; go_simp; first | done | with_reducible rfl); simp only [List.setIfInBounds_toArray, List.set_cons_zero, List.set_cons_succ])
              (refine rgT (i := 3) (v := ?_) rfl rfl (by kernel_rfl) (by kernel_rfl) (by kernel_rfl) (by rfl) (fun w' hcw => ?_) ?_; rotate_left; ((try dsimp only at hcw); have hbc := hcw.cells; go_simp; first | done | with_reducible rfl); simp only [List.setIfInBounds_toArray, List.set_cons_zero, List.set_cons_succ])
              (refine rgT (i := 5) (v := ?_) rfl rfl (by kernel_rfl) (by kernel_rfl) (by kernel_rfl) (by rfl) (fun w' hcw => ?_) ?_; rotate_left; ((try dsimp only at hcw); have hbc := hcw.cells; go_simp; first | done | with_reducible rfl); simp only [List.setIfInBounds_toArray, List.set_cons_zero, List.set_cons_succ])
              (refine rgT (i := 6) (v := ?_) rfl rfl (by kernel_rfl) (by kernel_rfl) (by kernel_rfl) (by rfl) (fun w' hcw => ?_) ?_; rotate_left; ((try dsimp only at hcw); have hbc := hcw.cells; go_simp; first | done | with_reducible rfl); simp only [List.setIfInBounds_toArray, List.set_cons_zero, List.set_cons_succ])
              (refine rgT (i := 7) (v := ?_) rfl rfl (by kernel_rfl) (by kernel_rfl) (by kernel_rfl) (by rfl) (fun w' hcw => ?_) ?_; rotate_left; ((try dsimp only at hcw); have hbc := hcw.cells; go_simp; first | done | with_reducible rfl); simp only [List.setIfInBounds_toArray, List.set_cons_zero, List.set_cons_succ])
              (refine rgT (i := 8) (v := ?_) rfl rfl (by kernel_rfl) (by kernel_rfl) (by kernel_rfl) (by rfl) (fun w' hcw => ?_) ?_; rotate_left; ((try dsimp only at hcw); have hbc := hcw.cells; go_simp; first | done | with_reducible rfl); simp only [List.setIfInBounds_toArray, List.set_cons_zero, List.set_cons_succ])
              (refine rgT (i := 11) (v := ?_) rfl rfl (by kernel_rfl) (by kernel_rfl) (by kernel_rfl) (by rfl) (fun w' hcw => ?_) ?_; rotate_left; ((try dsimp only at hcw); have hbc := hcw.cells; go_simp; first | done | with_reducible rfl); simp only [List.setIfInBounds_toArray, List.set_cons_zero, List.set_cons_succ])
              (refine rgT (i := 12) (v := ?_) rfl rfl (by kernel_rfl) (by kernel_rfl) (by kernel_rfl) (by rfl) (fun w' hcw => ?_) ?_; rotate_left; ((try dsimp only at hcw); have hbc := hcw.cells; go_simp; first | done | with_reducible rfl); simp only [List.setIfInBounds_toArray, List.set_cons_zero, List.set_cons_succ])
              (refine rgT (i := 13) (v := ?_) rfl rfl (by kernel_rfl) (by kernel_rfl) (by kernel_rfl) (by rfl) (fun w' hcw => ?_) ?_; rotate_left; ((try dsimp only at hcw); have hbc := hcw.cells; go_simp; first | done | with_reducible rfl); simp only [List.setIfInBounds_toArray, List.set_cons_zero, List.set_cons_succ])
              refine ins_tail (T := 59) (e := 71) (i := i0) (z := .agg #[.int .i64 0, .int .i64 0]) (size := 2) (bytes := 16) (i0 := 0) (iA := 4) (iN := 9) (iB := 10) (iD := 14) (iE := 15) (s0 := 45) (sA := 49) (sN := 54) (sB := 55) (sD := 59) (dE := 3) (t1 := 48) (t2 := 58) (xn := .tmp 53) (vn := .agg #[.int .i64 x, .int .i64 y]) (news := vC [(x, y)]) (vs1 := vC (l.take k)) (vs2 := vC (l.drop k)) (A1 := some ⟨g, 0, none⟩) (m1 := k) (c1 := cp) (A2 := some ⟨g, offC cp k, none⟩) (m2 := m - k) (c2 := cp - k) _ ?ht ?hi ?hz ?h1 ?h2 rfl (by omega) ⟨⟨_, rfl, rfl, rfl, fun a w => ?p0⟩, ⟨_, rfl, rfl, rfl, rfl⟩, ⟨_, rfl, rfl, rfl, fun a w h => ?pN⟩, ⟨_, rfl, rfl, rfl, rfl⟩, ⟨_, rfl, rfl, rfl, rfl⟩, ⟨_, rfl, rfl, rfl, rfl⟩⟩ ⟨by simp, by decide, by decide, by decide⟩ (fun a h => (h.eval (by decide)).trans rfl) (by kernel_rfl) (by kernel_rfl) (by kernel_rfl) (by kernel_rfl) (by kernel_rfl) (by decide) (by decide) (by kernel_rfl) (by kernel_rfl) (by kernel_rfl) (by kernel_rfl) rfl ?q1 ?l1 ?o1 rfl ?q2 ?l2 ?o2 ?ln ?on ?hm ?hb ?hQ
              case ht => exact Tryz.underlying59
              case hi => exact HI.out
              case hz => exact HZ0.out
              case h1 => exact HZ1.out
              case h2 => exact HZ2.out
              case p0 => simp [go_sem, execOp]
              case pN => (generalize Act.eval a = ρ at h ⊢; simp [go_sem, execOp, h, vC])
              case q1 => exact R1.out
              case l1 => rw [vC_length, L1.out] <;> omega
              case o1 => exact vC_one _
              case q2 => exact R2.out
              case l2 => rw [vC_length, L2.out] <;> omega
              case o2 => exact vC_one _
              case ln => rfl
              case on => exact vC_one _
              case hm => omega
              case hb => omega
              case hQ =>
                intro a' w' A' c' hfr hev how hex
                obtain ⟨v0, vA, vN, vB, vD, rfl⟩ := hfr.form hev
                rw [← vC_append, ← vC_append, ← HV.out, ← HST.out] at how
                obtain ⟨g', rfl, _, _⟩ := own_at how (by omega)
                have HOW := Lib.hid (own_base how HBS.out)
                clear how hev hfr
                refine NoPanic.normal ?_
                simp only [List.setIfInBounds_toArray, List.set_cons_zero, List.set_cons_succ]
                go_wp2
                exact ⟨⟨i + 1, g', k + 1 + (m - k), c', by omega, by omega, by go_num, by rfl, HOW.out, bel_trans HB.out hex⟩, by simp [intOf]; omega⟩
        · obtain rfl : k = 0 := by omega
          have HN : Hid (cutG befC l (x, y) m = 0) := HCUT.out
          have HV := Lib.hid (HIN.out 0 HN.out (fun h => absurd h.1 (by omega)))
          obtain ⟨k, hkz⟩ : ∃ k : Nat, 0 = k := ⟨0, rfl⟩
          have hkp : ¬ 0 < k := by omega
          have hkp2 : decide (0 < k) = false := by simp; omega
          have HKZ := Lib.hid hkz
          rw [hkz] at HV hk
          rw [show ((0 : Nat) : Int) = (k : Int) from by rw [hkz]]
          clear hkz
          go_wp2_with fail
          (refine wp_region_below (by kernel_rfl) (by kernel_rfl) ?_; (repeat (first | go_big_quiet_skip | (refine quietV (v := ?_) (by rfl) rfl (fun w' hbw => ?_) ?_; rotate_left; ((try dsimp only at hbw); have hbc := (bcell hbw).1; have hbf := (bcell hbw).2; go_simp; first | done | with_reducible rfl | fail); simp only [List.setIfInBounds_toArray, List.set_cons_zero, List.set_cons_succ]))); refine wpQuiet_nil ?_; intro wq hbq)
          go_wp2_with fail
          (refine wp_region_below (by kernel_rfl) (by kernel_rfl) ?_; (repeat (first | go_big_quiet_skip | (refine quietV (v := ?_) (by rfl) rfl (fun w' hbw => ?_) ?_; rotate_left; ((try dsimp only at hbw); have hbc := (bcell hbw).1; have hbf := (bcell hbw).2; go_simp; first | done | with_reducible rfl | fail); simp only [List.setIfInBounds_toArray, List.set_cons_zero, List.set_cons_succ]))); refine wpQuiet_nil ?_; intro wz hbz)
          have c1 : wz.cell? ⟨gx, ox + i * 2, none⟩ = some (.int .i64 x) := (hbz.cell (Nat.lt_of_lt_of_le hgx2 hbq.size)).trans ((hbq.cell hgx2).trans f1)
          have c2 : wz.cell? ⟨gx, ox + i * 2 + 1, none⟩ = some (.int .i64 y) := (hbz.cell (Nat.lt_of_lt_of_le hgx2 hbq.size)).trans ((hbq.cell hgx2).trans f2)
          have hgxz : gx < wz.heap.size := Nat.lt_of_lt_of_le hgx2 (Nat.le_trans hbq.size hbz.size)
          replace HLR := Lib.hid ((HLR.out.below hbq).below hbz)
          replace HB := Lib.hid (bel_trans (bel_trans HB.out hbq) hbz)
          replace HBS : Hid (w.heap.size ≤ wz.heap.size) := (HB.out).size
          clear f1 f2
          go_wp2_with fail
          obtain ⟨i0, hi, hz0, hz1, hz2⟩ := info_parts infoC
          have hs1 : ∀ w', (Instr.slice 59 (.slice (some ⟨g, 0, none⟩) m cp) none (some (.int .i64 (k : Int))) none).run Tryz.prog w' = .ok (.slice (some ⟨g, 0, none⟩) k cp) w' := fun w' => run_uptoC w' g m cp k (by omega)
          have hs2 : ∀ w', (Instr.slice 59 (.slice (some ⟨g, 0, none⟩) m cp) (some (.int .i64 (k : Int))) none none).run Tryz.prog w' = .ok (.slice (some ⟨g, offC cp k, none⟩) (m - k) (cp - k)) w' := fun w' => run_fromC w' g m cp k (by omega)
          have R2 : Hid (Rd wz (some ⟨g, offC cp k, none⟩) (vC (l.drop k))) := Rd.fromC HLR.out HLM.out (by omega)
          have R1 : Hid (Rd wz (some ⟨g, 0, none⟩) (vC (l.take k))) := by show Rd _ _ _; rw [vC_take]; exact Rd.take HLR.out _
          have L1 : Hid ((l.take k).length = k) := by show (l.take k).length = k; rw [List.length_take, HLM.out]; omega
          have L2 : Hid ((l.drop k).length = m - k) := by show (l.drop k).length = m - k; rw [List.length_drop, HLM.out]
          have HI := Lib.hid hi
          have HZ0 := Lib.hid hz0
          have HZ1 := Lib.hid hz1
          have HZ2 := Lib.hid hz2
          clear hi hz0 hz1 hz2
          refine wp_region_rg 16 rfl (by kernel_rfl) ?_
          (refine rgT (i := 1) (v := ?_) rfl rfl (by kernel_rfl) (by kernel_rfl) (by kernel_rfl) (by rfl) (fun w' hcw => ?_) ?_; rotate_left; ((try dsimp only at hcw); have hbc := hcw.cells; go_simp; first | done | with_reducible rfl); simp only [List.setIfInBounds_toArray, List.set_cons_zero, List.set_cons_succ])
          (refine rgT (i := 2) (v := ?_) rfl rfl (by kernel_rfl) (by kernel_rfl) (by kernel_rfl) (by rfl) (fun w' hcw => ?_) ?_; rotate_left; ((try dsimp only at hcw); have hbc := hcw.cells; go_simp; first | done | with_reducible rfl); simp only [List.setIfInBounds_toArray, List.set_cons_zero, List.set_cons_succ])
          (refine rgT (i := 3) (v := ?_) rfl rfl (by kernel_rfl) (by kernel_rfl) (by kernel_rfl) (by rfl) (fun w' hcw => ?_) ?_; rotate_left; ((try dsimp only at hcw); have hbc := hcw.cells; go_simp; first | done | with_reducible rfl); simp only [List.setIfInBounds_toArray, List.set_cons_zero, List.set_cons_succ])
          (refine rgT (i := 5) (v := ?_) rfl rfl (by kernel_rfl) (by kernel_rfl) (by kernel_rfl) (by rfl) (fun w' hcw => ?_) ?_; rotate_left; ((try dsimp only at hcw); have hbc := hcw.cells; go_simp; first | done | with_reducible rfl); simp only [List.setIfInBounds_toArray, List.set_cons_zero, List.set_cons_succ])
          (refine rgT (i := 6) (v := ?_) rfl rfl (by kernel_rfl) (by kernel_rfl) (by kernel_rfl) (by rfl) (fun w' hcw => ?_) ?_; rotate_left; ((try dsimp only at hcw); have hbc := hcw.cells; go_simp; first | done | with_reducible rfl); simp only [List.setIfInBounds_toArray, List.set_cons_zero, List.set_cons_succ])
          (refine rgT (i := 7) (v := ?_) rfl rfl (by kernel_rfl) (by kernel_rfl) (by kernel_rfl) (by rfl) (fun w' hcw => ?_) ?_; rotate_left; ((try dsimp only at hcw); have hbc := hcw.cells; go_simp; first | done | with_reducible rfl); simp only [List.setIfInBounds_toArray, List.set_cons_zero, List.set_cons_succ])
          (refine rgT (i := 8) (v := ?_) rfl rfl (by kernel_rfl) (by kernel_rfl) (by kernel_rfl) (by rfl) (fun w' hcw => ?_) ?_; rotate_left; ((try dsimp only at hcw); have hbc := hcw.cells; go_simp; first | done | with_reducible rfl); simp only [List.setIfInBounds_toArray, List.set_cons_zero, List.set_cons_succ])
          (refine rgT (i := 11) (v := ?_) rfl rfl (by kernel_rfl) (by kernel_rfl) (by kernel_rfl) (by rfl) (fun w' hcw => ?_) ?_; rotate_left; ((try dsimp only at hcw); have hbc := hcw.cells; go_simp; first | done | with_reducible rfl); simp only [List.setIfInBounds_toArray, List.set_cons_zero, List.set_cons_succ])
          (refine rgT (i := 12) (v := ?_) rfl rfl (by kernel_rfl) (by kernel_rfl) (by kernel_rfl) (by rfl) (fun w' hcw => ?_) ?_; rotate_left; ((try dsimp only at hcw); have hbc := hcw.cells; go_simp; first | done | with_reducible rfl); simp only [List.setIfInBounds_toArray, List.set_cons_zero, List.set_cons_succ])
          (refine rgT (i := 13) (v := ?_) rfl rfl (by kernel_rfl) (by kernel_rfl) (by kernel_rfl) (by rfl) (fun w' hcw => ?_) ?_; rotate_left; ((try dsimp only at hcw); have hbc := hcw.cells; go_simp; first | done | with_reducible rfl); simp only [List.setIfInBounds_toArray, List.set_cons_zero, List.set_cons_succ])
          refine ins_tail (T := 59) (e := 71) (i := i0) (z := .agg #[.int .i64 0, .int .i64 0]) (size := 2) (bytes := 16) (i0 := 0) (iA := 4) (iN := 9) (iB := 10) (iD := 14) (iE := 15) (s0 := 45) (sA := 49) (sN := 54) (sB := 55) (sD := 59) (dE := 3) (t1 := 48) (t2 := 58) (xn := .tmp 53) (vn := .agg #[.int .i64 x, .int .i64 y]) (news := vC [(x, y)]) (vs1 := vC (l.take k)) (vs2 := vC (l.drop k)) (A1 := some ⟨g, 0, none⟩) (m1 := k) (c1 := cp) (A2 := some ⟨g, offC cp k, none⟩) (m2 := m - k) (c2 := cp - k) _ ?ht ?hi ?hz ?h1 ?h2 rfl (by omega) ⟨⟨_, rfl, rfl, rfl, fun a w => ?p0⟩, ⟨_, rfl, rfl, rfl, rfl⟩, ⟨_, rfl, rfl, rfl, fun a w h => ?pN⟩, ⟨_, rfl, rfl, rfl, rfl⟩, ⟨_, rfl, rfl, rfl, rfl⟩, ⟨_, rfl, rfl, rfl, rfl⟩⟩ ⟨by simp, by decide, by decide, by decide⟩ (fun a h => (h.eval (by decide)).trans rfl) (by kernel_rfl) (by kernel_rfl) (by kernel_rfl) (by kernel_rfl) (by kernel_rfl) (by decide) (by decide) (by kernel_rfl) (by kernel_rfl) (by kernel_rfl) (by kernel_rfl) rfl ?q1 ?l1 ?o1 rfl ?q2 ?l2 ?o2 ?ln ?on ?hm ?hb ?hQ
          case ht => exact Tryz.underlying59
          case hi => exact HI.out
          case hz => exact HZ0.out
          case h1 => exact HZ1.out
          case h2 => exact HZ2.out
          case p0 => simp [go_sem, execOp]
          case pN => (generalize Act.eval a = ρ at h ⊢; simp [go_sem, execOp, h, vC])
          case q1 => exact R1.out
          case l1 => rw [vC_length, L1.out] <;> omega
          case o1 => exact vC_one _
          case q2 => exact R2.out
          case l2 => rw [vC_length, L2.out] <;> omega
          case o2 => exact vC_one _
          case ln => rfl
          case on => exact vC_one _
          case hm => omega
          case hb => omega
          case hQ =>
            intro a' w' A' c' hfr hev how hex
            obtain ⟨v0, vA, vN, vB, vD, rfl⟩ := hfr.form hev
            rw [← vC_append, ← vC_append, ← HV.out, ← HST.out] at how
            obtain ⟨g', rfl, _, _⟩ := own_at how (by omega)
            have HOW := Lib.hid (own_base how HBS.out)
            clear how hev hfr
            refine NoPanic.normal ?_
            simp only [List.setIfInBounds_toArray, List.set_cons_zero, List.set_cons_succ]
            go_wp2
            exact ⟨⟨i + 1, g', k + 1 + (m - k), c', by omega, by omega, by go_num, by rfl, HOW.out, bel_trans HB.out hex⟩, by simp [intOf]; omega⟩
    · have hin : i = n := by omega
      have hv : (xs.take i).foldl (putG befC) [] = sortC xs := by rw [List.take_of_length_le (by rw [HL.out]; omega)]; rfl
      rw [hv] at hown
      have HO := Lib.hid hown
      subst hin
      have hi1 : ¬ (i : Int) < (i : Int) := by omega
      clear hown hv
      go_wp2
      go_ret
      exact ⟨_, _, _, rfl, HO.out, hb⟩
end Go.Proofs.YteelmhmdnljjnaaGreat
