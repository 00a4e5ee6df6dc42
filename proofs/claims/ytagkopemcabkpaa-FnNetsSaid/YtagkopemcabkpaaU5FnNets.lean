/- Texts of this claim, one behind the other: part 5. -/
import Derived.Test.YtagkopemcabkpaaU4FnNets
import Derived.Outline
import Derived.WalkLawsBesides
import Derived.WalkSpells
import Derived.BigQuiet
import Derived.Deep.QuietTactic
import Derived.Deep.RegionHeld3
import Derived.Deep.RegionWith
import Derived.Deep.DeepCutAuto
import Derived.Deep.CutBlock
import Derived.Deep.DrawnRows
import Derived.Test.YtagkopemcabkpaaProg
/- Cells put in order: the reference. -/
namespace Go.Proofs.Ytagkopemcabkpaa
open Go.RowKit
set_option linter.unusedVariables false
attribute [local go_sem ↓] Go.wp_at_zero Go.wp_at_succ

def offC (c k : Nat) : Nat := if c = k then 0 else k * 2
theorem run_uptoC (w : World) (g m c k : Nat) (hk : k ≤ c) : (Instr.slice 30 (.slice (some ⟨g, 0, none⟩) m c) none (some (.int .i64 (k : Int))) none).run Try.prog w = .ok (.slice (some ⟨g, 0, none⟩) k c) w := by
  have h2 : (k : Int) ≤ (c : Int) := by omega
  simp [go_sem, h2]
theorem run_fromC (w : World) (g m c k : Nat) (hk : k ≤ m) : (Instr.slice 30 (.slice (some ⟨g, 0, none⟩) m c) (some (.int .i64 (k : Int))) none none).run Try.prog w = .ok (.slice (some ⟨g, offC c k, none⟩) (m - k) (c - k)) w := by
  have h1 : (0 : Int) ≤ (k : Int) := by omega
  have h2 : (k : Int) ≤ (m : Int) := by omega
  unfold offC
  by_cases hc : c = k
  · subst hc
    simp [go_sem, h2]
  · simp [go_sem, h2, hc]
theorem Rd.fromC {w : World} {g c k m : Nat} {l : List C} (h : Rd w (some ⟨g, 0, none⟩) (vC l)) (hl : l.length = m) (hmc : m ≤ c) : Rd w (some ⟨g, offC c k, none⟩) (vC (l.drop k)) := by
  rcases h with h | ⟨g', off, he, h⟩
  · have : l = [] := by
      have := congrArg List.length h
      rw [vC_length] at this
      exact List.eq_nil_of_length_eq_zero (by simp at this; omega)
    subst this
    simp [Rd, vC]
  · injection he with he
    injection he with h1 h2 h3
    subst h1 h2
    unfold offC
    split
    · next e =>
      have : l.drop k = [] := List.drop_of_length_le (by omega)
      rw [this]
      exact .inl rfl
    · refine .inr ⟨g, k * 2, rfl, fun j u hu => ?_⟩
      rw [vC_drop, List.getElem?_drop] at hu
      have := h _ _ hu
      simpa using this
theorem take_fold {α β : Type} (f : β → α → β) (b : β) (xs : List α) (k : Nat) (hk : k < xs.length) : (xs.take (k + 1)).foldl f b = f ((xs.take k).foldl f b) xs[k] := by
  rw [List.take_succ_eq_append_getElem hk, List.foldl_append]
  rfl
set_option maxRecDepth 100000 in
set_option maxHeartbeats 3200000 in
theorem SortCells_s (A : Option Addr) (n c : Nat) (xs : List C) (w : World) (hr : Rd w A (vC xs)) (hl : xs.length = n) (hn : n ≤ 1048576) :
    Calls Try.prog 86 #[.slice A n c] w (RetS w 55 2 (vC (sortC xs))) := by
  have HL := Lib.hid hl
  have HR := Lib.hid hr
  have hini := own_new w 55 2 0 #[] rfl (by simp [maxLen]) (base := w.heap.size) (Nat.le_refl _)
  have HI0 := Lib.hid hini
  clear hl hr hini
  go_enter Try.func86, Try.ntmps86
  go_wp2
  go_loopw [4, 3] (fun e4 e3 wr => ∃ (i g m cp : Nat), i ≤ n ∧ m ≤ i ∧ e4 = .int .i64 i ∧ e3 = .slice (some ⟨g, 0, none⟩) m cp ∧ wr.ownsRow w.heap.size 55 2 (.slice (some ⟨g, 0, none⟩) m cp) m (vC ((xs.take i).foldl (putG befC) [])) ∧ Below w.heap.size w wr) (fun e4 _ _ => n - (intOf e4).toNat)
  case atStart => exact ⟨0, _, 0, 0, Nat.zero_le _, Nat.zero_le _, rfl, by simp, HI0.out, (by (repeat (first | with_reducible exact Below.refl _ _ | with_reducible assumption | with_reducible apply bel_alloc | with_reducible apply bel_drew | with_reducible apply bel_drewN | ((with_reducible refine bel_set ?_ ?_); rotate_left; (simp <;> omega)) | (with_reducible refine bel_trans ?_ (by with_reducible assumption)))))⟩
  case round =>
    obtain ⟨i, g, m, cp, hi, hmn, rfl, rfl, hown, hb⟩ := hrel
    by_cases hlt : i < n
    · have hil : i < xs.length := by rw [HL.out]; exact hlt
      have hi0 : (0 : Int) ≤ (i : Int) := by omega
      have hi1 : (i : Int) < (n : Int) := by omega
      have hst := take_fold (putG befC) [] xs i hil
      obtain ⟨l, hle⟩ : ∃ l, (xs.take i).foldl (putG befC) [] = l := ⟨_, rfl⟩
      rw [hle] at hst hown
      obtain ⟨gx, ox, rfl, hgx, a1, a2⟩ := RdC.at_ (HR.out.below hb) hil
      obtain ⟨x, hx⟩ : ∃ x, xs[i].1 = x := ⟨_, rfl⟩
      obtain ⟨y, hy⟩ : ∃ y, xs[i].2 = y := ⟨_, rfl⟩
      have hxy : xs[i] = (x, y) := Prod.ext hx hy
      rw [hx] at a1
      rw [hy] at a2
      rw [hxy] at hst
      have hlm : l.length = m := by have := own_len hown; rw [vC_length] at this; omega
      have hmc : m ≤ cp ∧ cp ≤ 9223372036854775807 := by
        rcases hown.2 with ⟨h, _⟩ | ⟨g', cap, cur, hv, _, _, h1, h2, _⟩
        · cases h
        · injection hv with _ _ h3
          unfold maxLen at h2
          omega
      obtain ⟨hmc1, hmc2⟩ := hmc
      have hlr := Rd.of_own hown
      have hgl := (own_lt hown g rfl).2
      have HLM := Lib.hid hlm
      have HO := Lib.hid hown
      have HLR0 := Lib.hid hlr
      have hcm : cutG befC l (x, y) l.length = cutG befC l (x, y) m := by rw [hlm]
      have HIN : Hid (∀ k', cutG befC l (x, y) m = k' → ¬ (0 < k' ∧ l.getD (k' - 1) default = (x, y)) → putG befC l (x, y) = l.take k' ++ [(x, y)] ++ l.drop k') := fun k' h1 h2 => putG_new (hcm.trans h1) h2
      have HSM : Hid (∀ k', cutG befC l (x, y) m = k' → 0 < k' → l.getD (k' - 1) default = (x, y) → putG befC l (x, y) = l) := fun k' h1 h2 h3 => putG_same (hcm.trans h1) h2 h3
      have HST := Lib.hid hst
      have HBW := Lib.hid hb
      have HBZ := Lib.hid hb.size
      clear hlm hown hlr hcm hst hle hx hy hxy hb
      go_wp2
      go_loopw [5] (fun e5 wr2 => ∃ k : Nat, k ≤ m ∧ e5 = .int .i64 k ∧ cutG befC l (x, y) m = cutG befC l (x, y) k ∧ Below wr.heap.size wr wr2) (fun e5 _ => (intOf e5).toNat)
      case atStart => exact ⟨m, Nat.le_refl _, rfl, rfl, Below.refl _ _⟩
      case round =>
        obtain ⟨k, hk, rfl, hcut, hb2⟩ := hrel
        have HLR := Lib.hid (HLR0.out.below hb2)
        have f1 : wr.cell? ⟨gx, ox + i * 2, none⟩ = some (.int .i64 x) := (hb2.cell hgx).trans a1
        have f2 : wr.cell? ⟨gx, ox + i * 2 + 1, none⟩ = some (.int .i64 y) := (hb2.cell hgx).trans a2
        have HCUT := Lib.hid hcut
        have hgx2 : gx < wr.heap.size := Nat.lt_of_lt_of_le hgx hb2.size
        have hgl2 : g < wr.heap.size := Nat.lt_of_lt_of_le hgl hb2.size
        have HB := Lib.hid (bel_trans HBW.out hb2)
        have HBS : Hid (w.heap.size ≤ wr.heap.size) := (HB.out).size
        have hbs2 := HBS.out
        clear a1 a2 hcut
        by_cases hk0 : 0 < k
        · obtain ⟨j, hjk⟩ : ∃ j, k = j + 1 := ⟨k - 1, by omega⟩
          have hjl : j < l.length := by rw [HLM.out]; omega
          obtain ⟨g', off, he, _, b1, b2⟩ := RdC.at_ HLR.out hjl
          simp only [Option.some.injEq, Addr.mk.injEq, and_true] at he
          obtain ⟨rfl, rfl⟩ := he
          rw [Nat.zero_add] at b1 b2
          have hgd : l.getD j default = l[j] := by rw [List.getD_eq_getElem?_getD, List.getElem?_eq_getElem hjl]; rfl
          obtain ⟨p, hp⟩ : ∃ p, l[j].1 = p := ⟨_, rfl⟩
          obtain ⟨q, hq⟩ : ∃ q, l[j].2 = q := ⟨_, rfl⟩
          have hpq : l[j] = (p, q) := Prod.ext hp hq
          rw [hp] at b1
          rw [hq] at b2
          rw [hpq] at hgd
          have HG := Lib.hid hgd
          have hj1 : (k : Int) - 1 = (j : Int) := by omega
          have hj0 : (0 : Int) ≤ (j : Int) := by omega
          have hjw : IntKind.i64.wrap (j : Int) = (j : Int) := Go.IntWalk.i64_in _ (by omega)
          have hjm : (j : Int) < (m : Int) := by omega
          have hkp : (k : Int) > 0 := by omega
          have HJ := Lib.hid hjk
          have HK0 := Lib.hid hk0
          clear hgd hp hq hpq hjk
          cases hbf : befC (x, y) (p, q) with
          | true =>
            have HN : Hid (cutG befC l (x, y) m = cutG befC l (x, y) j) := by show _ = _; rw [HCUT.out, HJ.out]; show (if befC (x, y) (l.getD j default) = true then _ else _) = _; rw [HG.out, if_pos hbf]
            have HBF := Lib.hid hbf
            clear hbf
            go_wp2_with fail
            (refine wp_region_below (by kernel_rfl) (by kernel_rfl) ?_; (repeat (first | go_big_quiet_skip | (refine quietV (v := ?_) (by rfl) rfl (fun w' hbw => ?_) ?_; rotate_left; ((try dsimp only at hbw); have hbc := (bcell hbw).1; have hbf := (bcell hbw).2; go_simp; first | done | with_reducible rfl | exact callsBB (l2Before_s x y p q _) HBF.out hbw); simp only [List.setIfInBounds_toArray, List.set_cons_zero, List.set_cons_succ]))); refine wpQuiet_nil ?_; intro wq hbq)
            go_wp2_with fail
            exact ⟨⟨j, by omega, rfl, HN.out, bel_trans hb2 hbq⟩, by simp [intOf]; have := HJ.out; omega⟩
          | false =>
            have HN : Hid (cutG befC l (x, y) m = k) := by show _ = _; rw [HCUT.out, HJ.out]; show (if befC (x, y) (l.getD j default) = true then _ else _) = _; rw [HG.out, if_neg (by rw [hbf]; simp)]
            have HBF := Lib.hid hbf
            clear hbf
            by_cases hsame : p = x ∧ q = y
            · obtain ⟨rfl, rfl⟩ := hsame
              have HV := Lib.hid (HSM.out k HN.out HK0.out (by rw [show k - 1 = j from by have := HJ.out; omega]; exact HG.out))
              go_wp2_with fail
              (refine wp_region_below (by kernel_rfl) (by kernel_rfl) ?_; (repeat (first | go_big_quiet_skip | (refine quietV (v := ?_) (by rfl) rfl (fun w' hbw => ?_) ?_; rotate_left; ((try dsimp only at hbw); have hbc := (bcell hbw).1; have hbf := (bcell hbw).2; go_simp; first | done | with_reducible rfl | exact callsBB (l2Before_s p q p q _) HBF.out hbw); simp only [List.setIfInBounds_toArray, List.set_cons_zero, List.set_cons_succ]))); refine wpQuiet_nil ?_; intro wq hbq)
              have c1 : wq.cell? ⟨gx, ox + i * 2, none⟩ = some (.int .i64 p) := (hbq.cell hgx2).trans f1
              have c2 : wq.cell? ⟨gx, ox + i * 2 + 1, none⟩ = some (.int .i64 q) := (hbq.cell hgx2).trans f2
              have c3 : wq.cell? ⟨g, j * 2, none⟩ = some (.int .i64 p) := (hbq.cell hgl2).trans b1
              have c4 : wq.cell? ⟨g, j * 2 + 1, none⟩ = some (.int .i64 q) := (hbq.cell hgl2).trans b2
              have hgxq : gx < wq.heap.size := Nat.lt_of_lt_of_le hgx2 hbq.size
              have hglq : g < wq.heap.size := Nat.lt_of_lt_of_le hgl2 hbq.size
              clear f1 f2 b1 b2
              go_wp2_with fail
              (refine wp_region_below (by kernel_rfl) (by kernel_rfl) ?_; (repeat (first | go_big_quiet_skip | (refine quietV (v := ?_) (by rfl) rfl (fun w' hbw => ?_) ?_; rotate_left; ((try dsimp only at hbw); have hbc := (bcell hbw).1; have hbf := (bcell hbw).2; go_simp; first | done | with_reducible rfl | fail); simp only [List.setIfInBounds_toArray, List.set_cons_zero, List.set_cons_succ]))); refine wpQuiet_nil ?_; intro wz hbz)
              go_wp2_with fail
              exact ⟨⟨i + 1, g, m, cp, by omega, by omega, by go_num, rfl, by rw [HST.out, HV.out]; exact own_keep (own_keep (own_keep HO.out hb2) hbq) hbz, bel_trans (bel_trans HB.out hbq) hbz⟩, by simp [intOf]; omega⟩
            · have HV := Lib.hid (HIN.out k HN.out (fun h => hsame (by have := h.2; rw [show k - 1 = j from by have := HJ.out; omega, HG.out] at this; injection this with h1 h2; exact ⟨h1, h2⟩)))
              have hne : (p == x && q == y) = false := by
                rw [Bool.and_eq_false_iff, beq_eq_false_iff_ne, beq_eq_false_iff_ne]
                by_cases h1 : p = x
                · exact .inr fun h2 => hsame ⟨h1, h2⟩
                · exact .inl h1
              clear hsame
              go_wp2_with fail
              (refine wp_region_below (by kernel_rfl) (by kernel_rfl) ?_; (repeat (first | go_big_quiet_skip | (refine quietV (v := ?_) (by rfl) rfl (fun w' hbw => ?_) ?_; rotate_left; ((try dsimp only at hbw); have hbc := (bcell hbw).1; have hbf := (bcell hbw).2; go_simp; first | done | with_reducible rfl | exact callsBB (l2Before_s x y p q _) HBF.out hbw); simp only [List.setIfInBounds_toArray, List.set_cons_zero, List.set_cons_succ]))); refine wpQuiet_nil ?_; intro wq hbq)
              have c1 : wq.cell? ⟨gx, ox + i * 2, none⟩ = some (.int .i64 x) := (hbq.cell hgx2).trans f1
              have c2 : wq.cell? ⟨gx, ox + i * 2 + 1, none⟩ = some (.int .i64 y) := (hbq.cell hgx2).trans f2
              have c3 : wq.cell? ⟨g, j * 2, none⟩ = some (.int .i64 p) := (hbq.cell hgl2).trans b1
              have c4 : wq.cell? ⟨g, j * 2 + 1, none⟩ = some (.int .i64 q) := (hbq.cell hgl2).trans b2
              have hgxq : gx < wq.heap.size := Nat.lt_of_lt_of_le hgx2 hbq.size
              have hglq : g < wq.heap.size := Nat.lt_of_lt_of_le hgl2 hbq.size
              clear f1 f2 b1 b2
              go_wp2_with fail
              (refine wp_region_below (by kernel_rfl) (by kernel_rfl) ?_; (repeat (first | go_big_quiet_skip | (refine quietV (v := ?_) (by rfl) rfl (fun w' hbw => ?_) ?_; rotate_left; ((try dsimp only at hbw); have hbc := (bcell hbw).1; have hbf := (bcell hbw).2; go_simp; first | done | with_reducible rfl | fail); simp only [List.setIfInBounds_toArray, List.set_cons_zero, List.set_cons_succ]))); refine wpQuiet_nil ?_; intro wz hbz)
              have f1 : wz.cell? ⟨gx, ox + i * 2, none⟩ = some (.int .i64 x) := (hbz.cell hgxq).trans c1
              have f2 : wz.cell? ⟨gx, ox + i * 2 + 1, none⟩ = some (.int .i64 y) := (hbz.cell hgxq).trans c2
              have hgxz : gx < wz.heap.size := Nat.lt_of_lt_of_le hgxq hbz.size
              replace HLR := Lib.hid ((HLR.out.below hbq).below hbz)
              replace HB := Lib.hid (bel_trans (bel_trans HB.out hbq) hbz)
              replace HBS : Hid (w.heap.size ≤ wz.heap.size) := (HB.out).size
              clear c1 c2 c3 c4
              go_wp2_with fail
              obtain ⟨i0, hi, hz0, hz1, hz2⟩ := info_parts infoC
              have hs1 : ∀ w', (Instr.slice 30 (.slice (some ⟨g, 0, none⟩) m cp) none (some (.int .i64 (k : Int))) none).run Try.prog w' = .ok (.slice (some ⟨g, 0, none⟩) k cp) w' := fun w' => run_uptoC w' g m cp k (by omega)
              have hs2 : ∀ w', (Instr.slice 30 (.slice (some ⟨g, 0, none⟩) m cp) (some (.int .i64 (k : Int))) none none).run Try.prog w' = .ok (.slice (some ⟨g, offC cp k, none⟩) (m - k) (cp - k)) w' := fun w' => run_fromC w' g m cp k (by omega)
              have R2 : Hid (Rd wz (some ⟨g, offC cp k, none⟩) (vC (l.drop k))) := Rd.fromC HLR.out HLM.out (by omega)
              have R1 : Hid (Rd wz (some ⟨g, 0, none⟩) (vC (l.take k))) := by show Rd _ _ _; rw [vC_take]; exact Rd.take HLR.out _
              have L1 : Hid ((l.take k).length = k) := by show (l.take k).length = k; rw [List.length_take, HLM.out]; omega
              have L2 : Hid ((l.drop k).length = m - k) := by show (l.drop k).length = m - k; rw [List.length_drop, HLM.out]
              have HI := Lib.hid hi
              have HZ0 := Lib.hid hz0
              have HZ1 := Lib.hid hz1
              have HZ2 := Lib.hid hz2
              clear hi hz0 hz1 hz2
              refine wp_region_rg 16 rfl (by kernel_rfl) ?_
              (refine rgT (i := 1) (v := ?_) rfl rfl (by kernel_rfl) (by kernel_rfl) (by kernel_rfl) (by rfl) (fun w' hcw => ?_) ?_; rotate_left; ((try dsimp only at hcw); have hbc := hcw.cells; go_simp; first | done | with_reducible rfl); simp only [List.setIfInBounds_toArray, List.set_cons_zero, List.set_cons_succ])
              (refine rgT (i := 2) (v := ?_) rfl rfl (by kernel_rfl) (by kernel_rfl) (by kernel_rfl) (by rfl) (fun w' hcw => ?_) ?_; rotate_left; ((try dsimp only at hcw); have hbc := hcw.cells; go_simp; first | done | with_reducible rfl); simp only [List.setIfInBounds_toArray, List.set_cons_zero, List.set_cons_succ])
              (refine rgT (i := 3) (v := ?_) rfl rfl (by kernel_rfl) (by kernel_rfl) (by kernel_rfl) (by rfl) (fun w' hcw => ?_) ?_; rotate_left; ((try dsimp only at hcw); have hbc := hcw.cells; go_simp; first | done | with_reducible rfl); simp only [List.setIfInBounds_toArray, List.set_cons_zero, List.set_cons_succ])
              (refine rgT (i := 5) (v := ?_) rfl rfl (by kernel_rfl) (by kernel_rfl) (by kernel_rfl) (by rfl) (fun w' hcw => ?_) ?_; rotate_left; ((try dsimp only at hcw); have hbc := hcw.cells; go_simp; first | done | with_reducible rfl); simp only [List.setIfInBounds_toArray, List.set_cons_zero, List.set_cons_succ])
              (refine rgT (i := 6) (v := ?_) rfl rfl (by kernel_rfl) (by kernel_rfl) (by kernel_rfl) (by rfl) (fun w' hcw => ?_) ?_; rotate_left; ((try dsimp only at hcw); have hbc := hcw.cells; go_simp; first | done | with_reducible rfl); simp only [List.setIfInBounds_toArray, List.set_cons_zero, List.set_cons_succ])
              (refine rgT (i := 7) (v := ?_) rfl rfl (by kernel_rfl) (by kernel_rfl) (by kernel_rfl) (by rfl) (fun w' hcw => ?_) ?_; rotate_left; ((try dsimp only at hcw); have hbc := hcw.cells; go_simp; first | done | with_reducible rfl); simp only [List.setIfInBounds_toArray, List.set_cons_zero, List.set_cons_succ])
              (refine rgT (i := 8) (v := ?_) rfl rfl (by kernel_rfl) (by kernel_rfl) (by kernel_rfl) (by rfl) (fun w' hcw => ?_) ?_; rotate_left; ((try dsimp only at hcw); have hbc := hcw.cells; go_simp; first | done | with_reducible rfl); simp only [List.setIfInBounds_toArray, List.set_cons_zero, List.set_cons_succ])
              (refine rgT (i := 11) (v := ?_) rfl rfl (by kernel_rfl) (by kernel_rfl) (by kernel_rfl) (by rfl) (fun w' hcw => ?_) ?_; rotate_left; ((try dsimp only at hcw); have hbc := hcw.cells; go_simp; first | done | with_reducible rfl); simp only [List.setIfInBounds_toArray, List.set_cons_zero, List.set_cons_succ])
              (refine rgT (i := 12) (v := ?_) rfl rfl (by kernel_rfl) (by kernel_rfl) (by kernel_rfl) (by rfl) (fun w' hcw => ?_) ?_; rotate_left; ((try dsimp only at hcw); have hbc := hcw.cells; go_simp; first | done | with_reducible rfl); simp only [List.setIfInBounds_toArray, List.set_cons_zero, List.set_cons_succ])
              (refine rgT (i := 13) (v := ?_) rfl rfl (by kernel_rfl) (by kernel_rfl) (by kernel_rfl) (by rfl) (fun w' hcw => ?_) ?_; rotate_left; ((try dsimp only at hcw); have hbc := hcw.cells; go_simp; first | done | with_reducible rfl); simp only [List.setIfInBounds_toArray, List.set_cons_zero, List.set_cons_succ])
              refine ins_tail (T := 30) (e := 55) (i := i0) (z := .agg #[.int .i64 0, .int .i64 0]) (size := 2) (bytes := 16) (i0 := 0) (iA := 4) (iN := 9) (iB := 10) (iD := 14) (iE := 15) (s0 := 45) (sA := 49) (sN := 54) (sB := 55) (sD := 59) (dE := 3) (t1 := 48) (t2 := 58) (xn := .tmp 53) (vn := .agg #[.int .i64 x, .int .i64 y]) (news := vC [(x, y)]) (vs1 := vC (l.take k)) (vs2 := vC (l.drop k)) (A1 := some ⟨g, 0, none⟩) (m1 := k) (c1 := cp) (A2 := some ⟨g, offC cp k, none⟩) (m2 := m - k) (c2 := cp - k) _ ?ht ?hi ?hz ?h1 ?h2 rfl (by omega) ⟨⟨_, rfl, rfl, rfl, fun a w => ?p0⟩, ⟨_, rfl, rfl, rfl, rfl⟩, ⟨_, rfl, rfl, rfl, fun a w h => ?pN⟩, ⟨_, rfl, rfl, rfl, rfl⟩, ⟨_, rfl, rfl, rfl, rfl⟩, ⟨_, rfl, rfl, rfl, rfl⟩⟩ ⟨by simp, by decide, by decide, by decide⟩ (fun a h => (h.eval (by decide)).trans rfl) (by kernel_rfl) (by kernel_rfl) (by kernel_rfl) (by kernel_rfl) (by kernel_rfl) (by decide) (by decide) (by kernel_rfl) (by kernel_rfl) (by kernel_rfl) (by kernel_rfl) rfl ?q1 ?l1 ?o1 rfl ?q2 ?l2 ?o2 ?ln ?on ?hm ?hb ?hQ
              case ht => exact Try.underlying30
              case hi => exact HI.out
              case hz => exact HZ0.out
              case h1 => exact HZ1.out
              case h2 => exact HZ2.out
              case p0 => simp [go_sem, execOp]
              case pN => (generalize Act.eval a = ρ at h ⊢; simp [go_sem, execOp, h, vC])
              case q1 => exact R1.out
              case l1 => rw [vC_length, L1.out] <;> omega
              case o1 => exact vC_one _
              case q2 => exact R2.out
              case l2 => rw [vC_length, L2.out] <;> omega
              case o2 => exact vC_one _
              case ln => rfl
              case on => exact vC_one _
              case hm => omega
              case hb => omega
              case hQ =>
                intro a' w' A' c' hfr hev how hex
                obtain ⟨v0, vA, vN, vB, vD, rfl⟩ := hfr.form hev
                rw [← vC_append, ← vC_append, ← HV.out, ← HST.out] at how
                obtain ⟨g', rfl, _, _⟩ := own_at how (by omega)
                have HOW := Lib.hid (own_base how HBS.out)
                clear how hev hfr
                refine NoPanic.normal ?_
                simp only [List.setIfInBounds_toArray, List.set_cons_zero, List.set_cons_succ]
                go_wp2
                exact ⟨⟨i + 1, g', k + 1 + (m - k), c', by omega, by omega, by go_num, by rfl, HOW.out, bel_trans HB.out hex⟩, by simp [intOf]; omega⟩
        · obtain rfl : k = 0 := by omega
          have HN : Hid (cutG befC l (x, y) m = 0) := HCUT.out
          have HV := Lib.hid (HIN.out 0 HN.out (fun h => absurd h.1 (by omega)))
          obtain ⟨k, hkz⟩ : ∃ k : Nat, 0 = k := ⟨0, rfl⟩
          have hkp : ¬ 0 < k := by omega
          have hkp2 : decide (0 < k) = false := by simp; omega
          have HKZ := Lib.hid hkz
          rw [hkz] at HV hk
          rw [show ((0 : Nat) : Int) = (k : Int) from by rw [hkz]]
          clear hkz
          go_wp2_with fail
          (refine wp_region_below (by kernel_rfl) (by kernel_rfl) ?_; (repeat (first | go_big_quiet_skip | (refine quietV (v := ?_) (by rfl) rfl (fun w' hbw => ?_) ?_; rotate_left; ((try dsimp only at hbw); have hbc := (bcell hbw).1; have hbf := (bcell hbw).2; go_simp; first | done | with_reducible rfl | fail); simp only [List.setIfInBounds_toArray, List.set_cons_zero, List.set_cons_succ]))); refine wpQuiet_nil ?_; intro wq hbq)
          go_wp2_with fail
          (refine wp_region_below (by kernel_rfl) (by kernel_rfl) ?_; (repeat (first | go_big_quiet_skip | (refine quietV (v := ?_) (by rfl) rfl (fun w' hbw => ?_) ?_; rotate_left; ((try dsimp only at hbw); have hbc := (bcell hbw).1; have hbf := (bcell hbw).2; go_simp; first | done | with_reducible rfl | fail); simp only [List.setIfInBounds_toArray, List.set_cons_zero, List.set_cons_succ]))); refine wpQuiet_nil ?_; intro wz hbz)
          have c1 : wz.cell? ⟨gx, ox + i * 2, none⟩ = some (.int .i64 x) := (hbz.cell (Nat.lt_of_lt_of_le hgx2 hbq.size)).trans ((hbq.cell hgx2).trans f1)
          have c2 : wz.cell? ⟨gx, ox + i * 2 + 1, none⟩ = some (.int .i64 y) := (hbz.cell (Nat.lt_of_lt_of_le hgx2 hbq.size)).trans ((hbq.cell hgx2).trans f2)
          have hgxz : gx < wz.heap.size := Nat.lt_of_lt_of_le hgx2 (Nat.le_trans hbq.size hbz.size)
          replace HLR := Lib.hid ((HLR.out.below hbq).below hbz)
          replace HB := Lib.hid (bel_trans (bel_trans HB.out hbq) hbz)
          replace HBS : Hid (w.heap.size ≤ wz.heap.size) := (HB.out).size
          clear f1 f2
          go_wp2_with fail
          obtain ⟨i0, hi, hz0, hz1, hz2⟩ := info_parts infoC
          have hs1 : ∀ w', (Instr.slice 30 (.slice (some ⟨g, 0, none⟩) m cp) none (some (.int .i64 (k : Int))) none).run Try.prog w' = .ok (.slice (some ⟨g, 0, none⟩) k cp) w' := fun w' => run_uptoC w' g m cp k (by omega)
          have hs2 : ∀ w', (Instr.slice 30 (.slice (some ⟨g, 0, none⟩) m cp) (some (.int .i64 (k : Int))) none none).run Try.prog w' = .ok (.slice (some ⟨g, offC cp k, none⟩) (m - k) (cp - k)) w' := fun w' => run_fromC w' g m cp k (by omega)
          have R2 : Hid (Rd wz (some ⟨g, offC cp k, none⟩) (vC (l.drop k))) := Rd.fromC HLR.out HLM.out (by omega)
          have R1 : Hid (Rd wz (some ⟨g, 0, none⟩) (vC (l.take k))) := by show Rd _ _ _; rw [vC_take]; exact Rd.take HLR.out _
          have L1 : Hid ((l.take k).length = k) := by show (l.take k).length = k; rw [List.length_take, HLM.out]; omega
          have L2 : Hid ((l.drop k).length = m - k) := by show (l.drop k).length = m - k; rw [List.length_drop, HLM.out]
          have HI := Lib.hid hi
          have HZ0 := Lib.hid hz0
          have HZ1 := Lib.hid hz1
          have HZ2 := Lib.hid hz2
          clear hi hz0 hz1 hz2
          refine wp_region_rg 16 rfl (by kernel_rfl) ?_
          (refine rgT (i := 1) (v := ?_) rfl rfl (by kernel_rfl) (by kernel_rfl) (by kernel_rfl) (by rfl) (fun w' hcw => ?_) ?_; rotate_left; ((try dsimp only at hcw); have hbc := hcw.cells; go_simp; first | done | with_reducible rfl); simp only [List.setIfInBounds_toArray, List.set_cons_zero, List.set_cons_succ])
          (refine rgT (i := 2) (v := ?_) rfl rfl (by kernel_rfl) (by kernel_rfl) (by kernel_rfl) (by rfl) (fun w' hcw => ?_) ?_; rotate_left; ((try dsimp only at hcw); have hbc := hcw.cells; go_simp; first | done | with_reducible rfl); simp only [List.setIfInBounds_toArray, List.set_cons_zero, List.set_cons_succ])
          (refine rgT (i := 3) (v := ?_) rfl rfl (by kernel_rfl) (by kernel_rfl) (by kernel_rfl) (by rfl) (fun w' hcw => ?_) ?_; rotate_left; ((try dsimp only at hcw); have hbc := hcw.cells; go_simp; first | done | with_reducible rfl); simp only [List.setIfInBounds_toArray, List.set_cons_zero, List.set_cons_succ])
          (refine rgT (i := 5) (v := ?_) rfl rfl (by kernel_rfl) (by kernel_rfl) (by kernel_rfl) (by rfl) (fun w' hcw => ?_) ?_; rotate_left; ((try dsimp only at hcw); have hbc := hcw.cells; go_simp; first | done | with_reducible rfl); simp only [List.setIfInBounds_toArray, List.set_cons_zero, List.set_cons_succ])
          (refine rgT (i := 6) (v := ?_) rfl rfl (by kernel_rfl) (by kernel_rfl) (by kernel_rfl) (by rfl) (fun w' hcw => ?_) ?_; rotate_left; ((try dsimp only at hcw); have hbc := hcw.cells; go_simp; first | done | with_reducible rfl); simp only [List.setIfInBounds_toArray, List.set_cons_zero, List.set_cons_succ])
          (refine rgT (i := 7) (v := ?_) rfl rfl (by kernel_rfl) (by kernel_rfl) (by kernel_rfl) (by rfl) (fun w' hcw => ?_) ?_; rotate_left; ((try dsimp only at hcw); have hbc := hcw.cells; go_simp; first | done | with_reducible rfl); simp only [List.setIfInBounds_toArray, List.set_cons_zero, List.set_cons_succ])
          (refine rgT (i := 8) (v := ?_) rfl rfl (by kernel_rfl) (by kernel_rfl) (by kernel_rfl) (by rfl) (fun w' hcw => ?_) ?_; rotate_left; ((try dsimp only at hcw); have hbc := hcw.cells; go_simp; first | done | with_reducible rfl); simp only [List.setIfInBounds_toArray, List.set_cons_zero, List.set_cons_succ])
          (refine rgT (i := 11) (v := ?_) rfl rfl (by kernel_rfl) (by kernel_rfl) (by kernel_rfl) (by rfl) (fun w' hcw => ?_) ?_; rotate_left; ((try dsimp only at hcw); have hbc := hcw.cells; go_simp; first | done | with_reducible rfl); simp only [List.setIfInBounds_toArray, List.set_cons_zero, List.set_cons_succ])
          (refine rgT (i := 12) (v := ?_) rfl rfl (by kernel_rfl) (by kernel_rfl) (by kernel_rfl) (by rfl) (fun w' hcw => ?_) ?_; rotate_left; ((try dsimp only at hcw); have hbc := hcw.cells; go_simp; first | done | with_reducible rfl); simp only [List.setIfInBounds_toArray, List.set_cons_zero, List.set_cons_succ])
          (refine rgT (i := 13) (v := ?_) rfl rfl (by kernel_rfl) (by kernel_rfl) (by kernel_rfl) (by rfl) (fun w' hcw => ?_) ?_; rotate_left; ((try dsimp only at hcw); have hbc := hcw.cells; go_simp; first | done | with_reducible rfl); simp only [List.setIfInBounds_toArray, List.set_cons_zero, List.set_cons_succ])
          refine ins_tail (T := 30) (e := 55) (i := i0) (z := .agg #[.int .i64 0, .int .i64 0]) (size := 2) (bytes := 16) (i0 := 0) (iA := 4) (iN := 9) (iB := 10) (iD := 14) (iE := 15) (s0 := 45) (sA := 49) (sN := 54) (sB := 55) (sD := 59) (dE := 3) (t1 := 48) (t2 := 58) (xn := .tmp 53) (vn := .agg #[.int .i64 x, .int .i64 y]) (news := vC [(x, y)]) (vs1 := vC (l.take k)) (vs2 := vC (l.drop k)) (A1 := some ⟨g, 0, none⟩) (m1 := k) (c1 := cp) (A2 := some ⟨g, offC cp k, none⟩) (m2 := m - k) (c2 := cp - k) _ ?ht ?hi ?hz ?h1 ?h2 rfl (by omega) ⟨⟨_, rfl, rfl, rfl, fun a w => ?p0⟩, ⟨_, rfl, rfl, rfl, rfl⟩, ⟨_, rfl, rfl, rfl, fun a w h => ?pN⟩, ⟨_, rfl, rfl, rfl, rfl⟩, ⟨_, rfl, rfl, rfl, rfl⟩, ⟨_, rfl, rfl, rfl, rfl⟩⟩ ⟨by simp, by decide, by decide, by decide⟩ (fun a h => (h.eval (by decide)).trans rfl) (by kernel_rfl) (by kernel_rfl) (by kernel_rfl) (by kernel_rfl) (by kernel_rfl) (by decide) (by decide) (by kernel_rfl) (by kernel_rfl) (by kernel_rfl) (by kernel_rfl) rfl ?q1 ?l1 ?o1 rfl ?q2 ?l2 ?o2 ?ln ?on ?hm ?hb ?hQ
          case ht => exact Try.underlying30
          case hi => exact HI.out
          case hz => exact HZ0.out
          case h1 => exact HZ1.out
          case h2 => exact HZ2.out
          case p0 => simp [go_sem, execOp]
          case pN => (generalize Act.eval a = ρ at h ⊢; simp [go_sem, execOp, h, vC])
          case q1 => exact R1.out
          case l1 => rw [vC_length, L1.out] <;> omega
          case o1 => exact vC_one _
          case q2 => exact R2.out
          case l2 => rw [vC_length, L2.out] <;> omega
          case o2 => exact vC_one _
          case ln => rfl
          case on => exact vC_one _
          case hm => omega
          case hb => omega
          case hQ =>
            intro a' w' A' c' hfr hev how hex
            obtain ⟨v0, vA, vN, vB, vD, rfl⟩ := hfr.form hev
            rw [← vC_append, ← vC_append, ← HV.out, ← HST.out] at how
            obtain ⟨g', rfl, _, _⟩ := own_at how (by omega)
            have HOW := Lib.hid (own_base how HBS.out)
            clear how hev hfr
            refine NoPanic.normal ?_
            simp only [List.setIfInBounds_toArray, List.set_cons_zero, List.set_cons_succ]
            go_wp2
            exact ⟨⟨i + 1, g', k + 1 + (m - k), c', by omega, by omega, by go_num, by rfl, HOW.out, bel_trans HB.out hex⟩, by simp [intOf]; omega⟩
    · have hin : i = n := by omega
      have hv : (xs.take i).foldl (putG befC) [] = sortC xs := by rw [List.take_of_length_le (by rw [HL.out]; omega)]; rfl
      rw [hv] at hown
      have HO := Lib.hid hown
      subst hin
      have hi1 : ¬ (i : Int) < (i : Int) := by omega
      clear hown hv
      go_wp2
      go_ret
      exact ⟨_, _, _, rfl, HO.out, hb⟩
end Go.Proofs.Ytagkopemcabkpaa

/- An append of cells by an operation taken alone. -/
namespace Go.Proofs.Ytagkopemcabkpaa
open Go.RowKit
set_option linter.unusedVariables false
section
variable (w : World) {ops : Array Oper} {rest : List Oper} {o : Oper} {a : Act} {Q : Exit → Act → World → Prop}
theorem wpC (s x : Operand) {K : Act → World → Prop} (ho : o.op = .call { callee := .builtin .append, args := #[s, x], argTypes := #[30, 30] })
    (base : Nat) (A : Option Addr) (n c : Nat) (l : List C) (hs : a.eval s = .slice A n c) (hown : w.ownsRow base 55 2 (.slice A n c) n (vC l))
    (A2 : Option Addr) (m c2 : Nat) (l2 : List C) (hx : a.eval x = .slice A2 m c2) (hr : Rd w A2 (vC l2)) (hl : l2.length = m) (hb : n + m ≤ 1099511627776) (hbase : base ≤ w.heap.size)
    (h : ∀ A' c' w', w'.ownsRow base 55 2 (.slice A' (n + m) c') (n + m) (vC (l ++ l2)) → w.grownBy w' (ob A) → (ob A' = ob A ∨ ob A' = some w.heap.size) → K (a.put o.dst (.slice A' (n + m) c')) w') :
    o.wp Try.prog a w K Q := by
  obtain ⟨i0, hi, hz0, hz1, hz2⟩ := info_parts infoC
  refine wp_app w s x _ ho base _ i0 _ 2 16 Try.underlying30 hi hz0 hz1 hz2 rfl (by omega) A n c _ hs hown A2 m c2 _ hx hr (by rw [vC_length, hl]) (vC_one _) (by unfold maxLen; omega) (by omega) hbase ?_
  intro A' c' w' h1
  rw [← vC_append] at h1
  exact h A' c' w' h1
end
end Go.Proofs.Ytagkopemcabkpaa

/- Cells moved to their corner: the reference. -/
namespace Go.Proofs.Ytagkopemcabkpaa
open Go.RowKit
set_option linter.unusedVariables false
attribute [local go_sem ↓] Go.wp_at_zero Go.wp_at_succ

set_option maxHeartbeats 3200000 in
theorem l2Corner_s (A : Option Addr) (n c : Nat) (xs : List C) (w : World) (hr : Rd w A (vC xs)) (hl : xs.length = n) (hn : n ≤ 1048576) (hs : ∀ d ∈ xs, small d) :
    Calls Try.prog 75 #[.slice A n c] w (RetS w 55 2 (vC (cornS xs))) := by
  have hms : 0 < n → (-1000 ≤ minTo (·.1) xs n ∧ minTo (·.1) xs n ≤ 1000) ∧ (-1000 ≤ minTo (·.2) xs n ∧ minTo (·.2) xs n ≤ 1000) := by
    intro h0
    have := minC_small (by omega) hs
    unfold minC at this
    rwa [hl] at this
  have hV : ∀ px py, (n = 0 ∧ px = 0 ∧ py = 0 ∨ 0 < n ∧ px = minTo (·.1) xs n ∧ py = minTo (·.2) xs n) → mv xs (-px) (-py) = cornS xs := by
    intro px py h
    rcases h with ⟨h1, _, _⟩ | ⟨h1, h2, h3⟩
    · rw [List.eq_nil_of_length_eq_zero (hl.trans h1)]; rfl
    · unfold cornS minC; rw [hl, h2, h3]
  have HV := Lib.hid hV
  have HL := Lib.hid hl
  have HS := Lib.hid hs
  have HMS := Lib.hid hms
  have HR := Lib.hid hr
  have hini := own_new w 55 2 0 #[] rfl (by simp [maxLen]) (base := w.heap.size) (Nat.le_refl _)
  have HI0 := Lib.hid hini
  clear hini hl hs hms hr hV
  go_enter Try.func75, Try.ntmps75
  go_wp2
  go_loopw [4, 5, 6] (fun e4 e5 e6 wr => ∃ (k : Nat) (px py : Int), k ≤ n ∧ e4 = .int .i64 px ∧ e5 = .int .i64 py ∧ e6 = .int .i64 k ∧ (k = 0 ∧ px = 0 ∧ py = 0 ∨ 0 < k ∧ px = minTo (·.1) xs k ∧ py = minTo (·.2) xs k) ∧ Below (w.alloc (.cells #[] 55)).heap.size (w.alloc (.cells #[] 55)) wr) (fun _ _ e6 _ => n - (intOf e6).toNat)
  case atStart => exact ⟨0, 0, 0, Nat.zero_le _, rfl, rfl, rfl, .inl ⟨rfl, rfl, rfl⟩, Below.refl _ _⟩
  case round =>
    obtain ⟨k, px, py, hk, rfl, rfl, rfl, hp, hb⟩ := hrel
    have HP := Lib.hid hp
    clear hp
    have hbw : Below w.heap.size w wr := (by (repeat (first | with_reducible exact Below.refl _ _ | with_reducible assumption | with_reducible apply bel_alloc | with_reducible apply bel_drew | with_reducible apply bel_drewN | ((with_reducible refine bel_set ?_ ?_); rotate_left; (simp <;> omega)) | (with_reducible refine bel_trans ?_ (by with_reducible assumption)))))
    by_cases hlt : k < n
    · have hkl : k < xs.length := by rw [HL.out]; exact hlt
      have hk0 : (0 : Int) ≤ (k : Int) := by omega
      have hk1 : (k : Int) < (n : Int) := by omega
      obtain ⟨g, off, hA, hg, d1, d2⟩ := RdC.at_ (HR.out.below hbw) hkl
      subst hA
      obtain ⟨p, hp⟩ : ∃ p, xs[k].1 = p := ⟨_, rfl⟩
      obtain ⟨q, hq⟩ : ∃ q, xs[k].2 = q := ⟨_, rfl⟩
      rw [hp] at d1
      rw [hq] at d2
      have S1 : Hid (minTo (·.1) xs (k + 1) = if p < minTo (·.1) xs k then p else minTo (·.1) xs k) := by show minTo (·.1) xs (k + 1) = _; rw [minTo, getD_in xs hkl, hp]
      have S2 : Hid (minTo (·.2) xs (k + 1) = if q < minTo (·.2) xs k then q else minTo (·.2) xs k) := by show minTo (·.2) xs (k + 1) = _; rw [minTo, getD_in xs hkl, hq]
      by_cases hz : k = 0
      · have M0 : Hid (minTo (·.1) xs k = p ∧ minTo (·.2) xs k = q) := by
          show _ ∧ _
          subst hz
          exact ⟨by show (xs.getD 0 default).1 = p; rw [getD_in xs hkl, hp], by show (xs.getD 0 default).2 = q; rw [getD_in xs hkl, hq]⟩
        have e0 : ((k : Int) == 0) = true := by simp [hz]
        clear hz hp hq
        have T1 : Hid (minTo (·.1) xs (k + 1) = p) := by show _ = _; rw [S1.out]; rw [show minTo (·.1) xs k = p from M0.out.1]; exact ite_self _
        have T2 : Hid (minTo (·.2) xs (k + 1) = q) := by show _ = _; rw [S2.out]; rw [show minTo (·.2) xs k = q from M0.out.2]; exact ite_self _
        go_wp2_with fail
        exact ⟨⟨k + 1, p, q, by omega, rfl, rfl, by go_num, .inr ⟨by omega, T1.out.symm, T2.out.symm⟩, hb⟩, by simp [intOf]; omega⟩
      · have e0 : ((k : Int) == 0) = false := by simp; omega
        have hkz : ¬ k = 0 := hz
        have hpp : px = minTo (·.1) xs k ∧ py = minTo (·.2) xs k := by
          rcases HP.out with ⟨h1, _, _⟩ | ⟨_, h2, h3⟩
          · exact absurd h1 hz
          · exact ⟨h2, h3⟩
        have HPX := Lib.hid hpp.1
        have HPY := Lib.hid hpp.2
        clear hz hp hq hpp
        by_cases h1 : p < px
        · by_cases h2 : q < py
          · have T1 : Hid (minTo (·.1) xs (k + 1) = p) := by show _ = _; rw [S1.out, ← HPX.out]; exact if_pos h1
            have T2 : Hid (minTo (·.2) xs (k + 1) = q) := by show _ = _; rw [S2.out, ← HPY.out]; exact if_pos h2
            go_wp2_with fail
            exact ⟨⟨k + 1, p, q, by omega, rfl, rfl, by go_num, .inr ⟨by omega, T1.out.symm, T2.out.symm⟩, hb⟩, by simp [intOf]; omega⟩
          · have h2d : decide (q < py) = false := by simp; omega
            have T1 : Hid (minTo (·.1) xs (k + 1) = p) := by show _ = _; rw [S1.out, ← HPX.out]; exact if_pos h1
            have T2 : Hid (minTo (·.2) xs (k + 1) = py) := by show _ = _; rw [S2.out, ← HPY.out]; exact if_neg h2
            go_wp2_with fail
            exact ⟨⟨k + 1, p, py, by omega, rfl, rfl, by go_num, .inr ⟨by omega, T1.out.symm, T2.out.symm⟩, hb⟩, by simp [intOf]; omega⟩
        · have h1d : decide (p < px) = false := by simp; omega
          by_cases h2 : q < py
          · have T1 : Hid (minTo (·.1) xs (k + 1) = px) := by show _ = _; rw [S1.out, ← HPX.out]; exact if_neg h1
            have T2 : Hid (minTo (·.2) xs (k + 1) = q) := by show _ = _; rw [S2.out, ← HPY.out]; exact if_pos h2
            go_wp2_with fail
            exact ⟨⟨k + 1, px, q, by omega, rfl, rfl, by go_num, .inr ⟨by omega, T1.out.symm, T2.out.symm⟩, hb⟩, by simp [intOf]; omega⟩
          · have h2d : decide (q < py) = false := by simp; omega
            have T1 : Hid (minTo (·.1) xs (k + 1) = px) := by show _ = _; rw [S1.out, ← HPX.out]; exact if_neg h1
            have T2 : Hid (minTo (·.2) xs (k + 1) = py) := by show _ = _; rw [S2.out, ← HPY.out]; exact if_neg h2
            go_wp2_with fail
            exact ⟨⟨k + 1, px, py, by omega, rfl, rfl, by go_num, .inr ⟨by omega, T1.out.symm, T2.out.symm⟩, hb⟩, by simp [intOf]; omega⟩
    · obtain rfl : k = n := by omega
      have hk1 : ¬ (k : Int) < (k : Int) := by omega
      have hbnd : -1000 ≤ px ∧ px ≤ 1000 ∧ -1000 ≤ py ∧ py ≤ 1000 := by
        rcases HP.out with ⟨_, h1, h2⟩ | ⟨h0, h1, h2⟩
        · omega
        · have := HMS.out h0
          rw [← h1, ← h2] at this
          omega
      obtain ⟨q1, q2, q3, q4⟩ := hbnd
      have HVV := Lib.hid (HV.out px py HP.out)
      have HO0 := Lib.hid (own_keep HI0.out hb)
      clear hb
      go_wp2_with fail
      go_loopw [7, 3] (fun e7 e3 wr2 => ∃ (j cq : Nat) (D : Option Addr), j ≤ k ∧ e7 = .int .i64 j ∧ e3 = .slice D j cq ∧ wr2.ownsRow w.heap.size 55 2 (.slice D j cq) j (vC (mv (xs.take j) (-px) (-py))) ∧ Below w.heap.size w wr2) (fun e7 _ _ => k - (intOf e7).toNat)
      case atStart => exact ⟨0, 0, _, Nat.zero_le _, rfl, rfl, HO0.out, hbw⟩
      case round =>
        clear hbw
        obtain ⟨j, cq, D, hj, rfl, rfl, hown, hb⟩ := hrel
        by_cases hlt : j < k
        · have hkl : j < xs.length := by rw [HL.out]; exact hlt
          have hj0 : (0 : Int) ≤ (j : Int) := by omega
          have hj1 : (j : Int) < (k : Int) := by omega
          obtain ⟨g, off, hA, hg0, d1, d2⟩ := RdC.at_ HR.out hkl
          subst hA
          have hg : g < wr.heap.size := Nat.lt_of_lt_of_le hg0 hb.size
          replace d1 := (hb.cell (p := ⟨g, off + j * 2, none⟩) hg0).trans d1
          replace d2 := (hb.cell (p := ⟨g, off + j * 2 + 1, none⟩) hg0).trans d2
          have hgD : ¬ (some g = ob D) := fun e => by have := (own_lt hown g e.symm).1; omega
          have hst := mv_take xs (-px) (-py) j hkl
          have hsm := HS.out _ (List.getElem_mem hkl)
          obtain ⟨p, hp⟩ : ∃ p, xs[j].1 = p := ⟨_, rfl⟩
          obtain ⟨q, hq⟩ : ∃ q, xs[j].2 = q := ⟨_, rfl⟩
          unfold small at hsm
          rw [hp, hq] at hsm hst
          rw [hp] at d1
          rw [hq] at d2
          have e1 : IntKind.i64.wrap (p - px) = p - px := Go.IntWalk.i64_in _ (by omega)
          have e2 : IntKind.i64.wrap (q - py) = q - py := Go.IntWalk.i64_in _ (by omega)
          rw [← Int.sub_eq_add_neg, ← Int.sub_eq_add_neg] at hst
          have HST := Lib.hid hst
          have HO := Lib.hid hown
          have hbs := hb.size
          clear hst hown hp hq hsm
          go_wp2_with fail
          (refine wp_region_tailN (C := Gr wr D) 16 (by kernel_rfl) (by kernel_rfl) (Gr.drawn _ _) (fun _ _ h k => h.ext k) ?_; simp only [List.take_succ_cons, List.take_zero, List.drop_succ_cons, List.drop_zero]; (repeat (first | (refine headSkip (by rfl) rfl ?_; simp only [List.setIfInBounds_toArray, List.set_cons_zero, List.set_cons_succ]) | (refine headV (v := ?_) (by rfl) rfl (fun w' hcw => ?_) ?_; rotate_left; ((try dsimp only at hcw); have hbc := hcw.cells; go_simp; first | done | with_reducible rfl | fail); simp only [List.setIfInBounds_toArray, List.set_cons_zero, List.set_cons_succ]))); unfold wpHead)
          (refine tailK (by rfl) (fun w3 hc3 he3 K hK => ?_); go_simp; refine hK _ _ (hc3.ext (by (repeat (first | with_reducible exact Below.refl _ _ | with_reducible assumption | with_reducible apply bel_alloc | with_reducible apply bel_drew | with_reducible apply bel_drewN | ((with_reducible refine bel_set ?_ ?_); rotate_left; (simp <;> omega)) | (with_reducible refine bel_trans ?_ (by with_reducible assumption)))))) ?_; clear hK K)
          (refine tailK (by rfl) (fun w4 hc4 he4 K hK => ?_); refine wpC _ _ _ rfl w.heap.size D j cq (mv (xs.take j) (-px) (-py)) rfl (own_keep ((own_keep HO.out he3).alloc _) he4) _ 1 1 [(p - px, q - py)] rfl (Rd.below (rd_newC _ _ _ _) he4) rfl (by omega) (by have h2 := he3.size; have h3 := he4.size; simp at h3; omega) ?_; intro A2 c2 w5 hown5 hg5 _; refine hK _ _ (Gr.trans hc4 hg5) ?_; clear hK K; simp only [Act.put, List.setIfInBounds_toArray, List.set_cons_zero, List.set_cons_succ])
          (refine tailK (by rfl) (fun w6 hc6 he6 K hK => ?_); go_simp; refine hK _ _ (hc6) ?_; clear hK K)
          (refine fun w7 hc7 he7 => NoPanic.normal ?_)
          have hb5 : Below w.heap.size w w5 := bel_app (bel_trans (bel_alloc (bel_trans hb he3) _) he4) hg5 (fun g' hg' => ((own_lt HO.out) g' hg').1)
          have HO3 := Lib.hid (own_keep (own_keep hown5 he6) he7)
          clear hown5
          go_wp2
          exact ⟨⟨j + 1, c2, A2, by omega, by go_num, rfl, by rw [HST.out]; exact HO3.out, bel_trans (bel_trans hb5 he6) he7⟩, by simp [intOf]; omega⟩
        · obtain rfl : j = k := by omega
          rw [List.take_of_length_le (by rw [HL.out]; omega), HVV.out] at hown
          have HO := Lib.hid hown
          have hj1 : ¬ (j : Int) < (j : Int) := by omega
          clear hown
          go_wp2
          go_ret
          exact ⟨_, _, _, rfl, HO.out, hb⟩
end Go.Proofs.Ytagkopemcabkpaa

/- The loops of a code. -/
namespace Go.Proofs.Ytagkopemcabkpaa
open Go.RowKit
/-- The loops of a code, the outer ones first. -/
def loopsIn : Code → List Code
  | .loop c => c :: loopsIn c
  | .seq a b => loopsIn a ++ loopsIn b
  | .block _ c => loopsIn c
  | .scope c => loopsIn c
  | .cond _ a b => loopsIn a ++ loopsIn b
  | _ => []
end Go.Proofs.Ytagkopemcabkpaa

/- The reference's draws of shapes. -/
namespace Go.Proofs.Ytagkopemcabkpaa
open Go.RowKit
set_option linter.unusedVariables false
attribute [local go_sem ↓] Go.wp_at_zero Go.wp_at_succ
theorem own_keptD {w w' : World} {base n c e size : Nat} {A : Option Addr} {xs : List Value} {row : Option Nat} (h : w.ownsRow base e size (.slice A n c) n xs) (hg : w.grownBy w' row) (hn : ∀ g, ob A = some g → row ≠ some g) : w'.ownsRow base e size (.slice A n c) n xs :=
  h.kept hg (by
    rw [ownBlock_slice]
    cases hA : ob A with
    | none => exact .inl rfl
    | some g => right; intro e; exact hn g hA e.symm)
theorem own_mono2D {w : World} {base base' e size n c : Nat} {A : Option Addr} {xs : List Value} (h : w.ownsRow base e size (.slice A n c) n xs) (hb : base' ≤ base) : w.ownsRow base' e size (.slice A n c) n xs := by
  refine ⟨h.1, ?_⟩
  rcases h.2 with hn | ⟨g, cap, cur, hv, hg, hgg, rest⟩
  · exact .inl hn
  · exact .inr ⟨g, cap, cur, hv, Nat.le_trans hb hg, hgg, rest⟩
theorem grown_trans {w w1 w2 : World} {row : Option Nat} (h : w.grownBy w1 row) (k : w1.grownBy w2 row) : w.grownBy w2 row :=
  ⟨k.os.trans h.os, k.tape.trans h.tape, k.output.trans h.output, Nat.le_trans h.size k.size, fun i hi hr => (k.block i (Nat.lt_of_lt_of_le hi h.size) hr).trans (h.block i hi hr)⟩
/-- Below base only the cursor's block is written. -/
structure FrG (base g : Nat) (w w' : World) : Prop where
  os : w'.os = w.os
  tape : w'.tape = w.tape
  output : w'.output = w.output
  size : w.heap.size ≤ w'.heap.size
  block : ∀ k, k < base → k ≠ g → w'.heap[k]? = w.heap[k]?
theorem FrG.refl (base g : Nat) (w : World) : FrG base g w w := ⟨rfl, rfl, rfl, Nat.le_refl _, fun _ _ _ => rfl⟩
theorem FrG.below {base g : Nat} {w w1 w2 : World} (h : FrG base g w w1) (k : Below w1.heap.size w1 w2) (hb : base ≤ w1.heap.size) : FrG base g w w2 :=
  ⟨k.os.trans h.os, k.tape.trans h.tape, k.output.trans h.output, Nat.le_trans h.size k.size, fun i hi hg => (k.block i (by omega)).trans (h.block i hi hg)⟩
theorem FrG.draw {base g : Nat} {w w1 w2 : World} (h : FrG base g w w1) (k : w1.grownBy w2 (some g)) (hb : base ≤ w1.heap.size) : FrG base g w w2 :=
  ⟨k.os.trans h.os, k.tape.trans h.tape, k.output.trans h.output, Nat.le_trans h.size k.size, fun i hi hg => (k.block i (by omega) (fun e => hg (by injection e))).trans (h.block i hi hg)⟩
theorem FrG.row {base g : Nat} {w w1 w2 : World} {row : Option Nat} (h : FrG base g w w1) (k : w1.grownBy w2 row) (hb : base ≤ w1.heap.size) (hr : ∀ b, row = some b → base ≤ b) : FrG base g w w2 :=
  ⟨k.os.trans h.os, k.tape.trans h.tape, k.output.trans h.output, Nat.le_trans h.size k.size, fun i hi hg => (k.block i (by omega) (fun e => by have := hr i e.symm; omega)).trans (h.block i hi hg)⟩
theorem FrG.grown {g : Nat} {w w1 : World} (h : FrG w.heap.size g w w1) : w.grownBy w1 (some g) := ⟨h.os, h.tape, h.output, h.size, fun k hk hg => h.block k hk (fun e => hg (by rw [e]))⟩
theorem Cur.row {w w' : World} {g : Nat} {A : Option Addr} {n c : Nat} {bs : List UInt8} {row : Option Nat} (h : Cur w g A n c bs) (k : w.grownBy w' row) (h1 : ∀ b, row = some b → b ≠ g) (h2 : 0 < n → ∀ b, row = some b → ob A ≠ some b) : Cur w' g A n c bs := by
  obtain ⟨i, x, hi, hB⟩ := h.blk
  refine ⟨⟨i, x, hi, hB.grown k (fun e => h1 g e.symm rfl)⟩, ?_, h.len, h.ne⟩
  by_cases h0 : 0 < n
  · exact h.rd.grown k (fun b e r => h2 h0 b r.symm e)
  · left
    have := h.len
    rw [List.eq_nil_of_length_eq_zero (by omega : bs.length = 0)]
    rfl
/-- A shape was drawn: cells near the board. -/
def RetShp (w : World) (g : Nat) (A : Option Addr) (n c : Nat) (bs : List UInt8) (e : Ending) (w' : World) : Prop :=
  ∃ D k cD xs, e = .returned (.slice D k cD) ∧ w'.ownsRow w.heap.size 55 2 (.slice D k cD) k (vC xs) ∧ 1 ≤ k ∧ k ≤ 7 ∧ Cur w' g A n c bs ∧ w.grownBy w' (some g)
noncomputable def growLp : Code := ((Try.f100.body.map loopsIn).getD []).getD 0 .skip
set_option maxRecDepth 100000 in
set_option maxHeartbeats 1600000 in
theorem growLoop {Q : Exit → Act → World → Prop} {s2 s3 s4 s7 s8 s9 s10 s11 s12 s13 s14 s15 s16 s17 s18 s19 s20 s21 s22 s23 s24 s25 s26 s27 s28 s29 s30 s31 s32 s33 s34 s35 s36 s37 s38 s39 s40 s41 s42 s43 s44 s45 s46 s47 s48 s49 s50 s51 s52 s53 s54 s55 s56 s57 s58 s59 s60 s61 s62 : Value} {A D : Option Addr} {n c g cD m base : Nat} {bs : List UInt8} {w : World}
    (hAb : 0 < n → ∀ b, ob A = some b → b < base) (hc : Cur w g A n c bs) (hn : n ≤ 1048576) (hm : 1 ≤ m) (hm7 : m ≤ 7) (hO : w.ownsRow base 55 2 (.slice D 1 cD) 1 (vC [(3, 3)])) (hgb : g < base) (hbase : base ≤ w.heap.size)
    (hexit : ∀ (v7 v8 v9 v12 v13 v14 v15 v16 v17 v18 v19 v20 v21 v22 v23 v24 v25 v26 v27 v28 v29 v30 v31 v32 v33 v34 v35 v36 v37 v38 v39 v40 v41 v42 v43 v44 v45 v46 v47 v48 v49 v50 v51 v52 v53 v54 v55 v56 v57 v58 v59 : Value) (D' : Option Addr) (k c' : Nat) (ys : List C) (w3 : World), w3.ownsRow base 55 2 (.slice D' k c') k (vC ys) → 1 ≤ k → k ≤ 7 → (∀ d ∈ ys, (0 ≤ d.1 ∧ d.1 ≤ 7) ∧ (0 ≤ d.2 ∧ d.2 ≤ 7)) → Cur w3 g A n c bs → FrG base g w w3 → Q (.exit 0) ⟨List.toArray ((.pointer (some ⟨g, 0, none⟩)) :: (.int .i64 (m : Int)) :: s2 :: s3 :: s4 :: (.slice D' k c') :: (.int .i64 (m : Int)) :: v7 :: v8 :: v9 :: s10 :: s11 :: v12 :: v13 :: v14 :: v15 :: v16 :: v17 :: v18 :: v19 :: v20 :: v21 :: v22 :: v23 :: v24 :: v25 :: v26 :: v27 :: v28 :: v29 :: v30 :: v31 :: v32 :: v33 :: v34 :: v35 :: v36 :: v37 :: v38 :: v39 :: v40 :: v41 :: v42 :: v43 :: v44 :: v45 :: v46 :: v47 :: v48 :: v49 :: v50 :: v51 :: v52 :: v53 :: v54 :: v55 :: v56 :: v57 :: v58 :: v59 :: s60 :: s61 :: s62 :: []), []⟩ w3) :
    Code.wp Try.prog (Code.loop growLp) Q ⟨List.toArray ((.pointer (some ⟨g, 0, none⟩)) :: (.int .i64 (m : Int)) :: s2 :: s3 :: s4 :: (.slice D 1 cD) :: (.int .i64 1) :: s7 :: s8 :: s9 :: s10 :: s11 :: s12 :: s13 :: s14 :: s15 :: s16 :: s17 :: s18 :: s19 :: s20 :: s21 :: s22 :: s23 :: s24 :: s25 :: s26 :: s27 :: s28 :: s29 :: s30 :: s31 :: s32 :: s33 :: s34 :: s35 :: s36 :: s37 :: s38 :: s39 :: s40 :: s41 :: s42 :: s43 :: s44 :: s45 :: s46 :: s47 :: s48 :: s49 :: s50 :: s51 :: s52 :: s53 :: s54 :: s55 :: s56 :: s57 :: s58 :: s59 :: s60 :: s61 :: s62 :: []), []⟩ w := by
  have HC0 := Lib.hid hc
  have HO0 := Lib.hid hO
  have HX := Lib.hid @hexit
  clear hc hO hexit
  conv => arg 2; arg 1; whnf
  go_loopw [6, 5] (fun e6 e5 wr => ∃ (i k cq : Nat) (E : Option Addr) (ys : List C), i ≤ m ∧ 1 ≤ i ∧ e6 = .int .i64 i ∧ e5 = .slice E k cq ∧ 1 ≤ k ∧ k ≤ i ∧ wr.ownsRow base 55 2 (.slice E k cq) k (vC ys) ∧ (∀ d ∈ ys, (0 ≤ d.1 ∧ d.1 ≤ 7) ∧ (0 ≤ d.2 ∧ d.2 ≤ 7)) ∧ Cur wr g A n c bs ∧ FrG base g w wr) (fun e6 _ _ => m - (intOf e6).toNat)
  case atStart => exact ⟨1, 1, cD, D, [(3, 3)], hm, Nat.le_refl _, rfl, rfl, Nat.le_refl _, Nat.le_refl _, HO0.out, by simp, HC0.out, FrG.refl _ _ _⟩
  case round =>
    clear HC0 HO0
    obtain ⟨i, k, cq, E, ys, hi, hi1', rfl, rfl, hk1, hki, hO, hin, hc, hfr⟩ := hrel
    have HO := Lib.hid hO
    have HIN := Lib.hid hin
    have HC := Lib.hid hc
    have HFR := Lib.hid hfr
    clear hO hin hc hfr
    by_cases hlt : i < m
    · have hi0 : (0 : Int) ≤ (i : Int) := by omega
      have hi1 : (i : Int) < (m : Int) := by omega
      go_wp2_with fail
      refine (l1Below_s A n c g k bs wr HC.out hn hk1 (by omega)).mono ?_
      rintro e w1 ⟨r, rfl, hr, hc1, hg1⟩
      have hEg : ∀ b, ob E = some b → b ≠ g := fun b e r => by have := (own_lt HO.out b e).1; omega
      have hO1 := own_keptD HO.out hg1 (fun b e r => hEg b e (by injection r with r; exact r.symm))
      have hyl : ys.length = k := by have := own_len hO1; rw [vC_length] at this; omega
      have hrl : r < ys.length := by omega
      have hr0 : (0 : Int) ≤ (r : Int) := by omega
      have hrk : (r : Int) < (k : Int) := by omega
      obtain ⟨ge, oe, hEe, hge, d1, d2⟩ := RdC.at_ (Rd.of_own hO1) hrl
      obtain ⟨px, hpx⟩ : ∃ px, ys[r].1 = px := ⟨_, rfl⟩
      obtain ⟨py, hpy⟩ : ∃ py, ys[r].2 = py := ⟨_, rfl⟩
      have hpin := HIN.out _ (List.getElem_mem hrl)
      rw [hpx] at d1 hpin
      rw [hpy] at d2 hpin
      have hbs1 : base ≤ wr.heap.size := Nat.le_trans hbase HFR.out.size
      have hbs2 : base ≤ w1.heap.size := Nat.le_trans hbs1 hg1.size
      have HFR1 := Lib.hid (HFR.out.draw hg1 hbs1)
      have HC1 := Lib.hid hc1
      have HO1 := Lib.hid hO1
      have HYL := Lib.hid hyl
      subst hEe
      clear hc1 hg1 hO1 hyl hpx hpy HFR HO HC hEg
      go_wp2_with fail
      have hbx := Blk.new w1 55 #[.int .i64 px, .int .i64 py]
      refine (l1Below_s A n c g 4 bs _ (HC1.out.below (bel_alloc (Below.refl _ _) _)) hn (by omega) (by omega)).mono ?_
      rintro e w2 ⟨d, rfl, hd, hc2, hg2⟩
      have hbx2 := hbx.grown hg2 (fun e => by injection e with e; omega)
      have x0 : w2.cell? ⟨w1.heap.size, 0, none⟩ = some (.int .i64 px) := by simpa using hbx2.cell 0
      have x1 : w2.cell? ⟨w1.heap.size, 1, none⟩ = some (.int .i64 py) := by simpa using hbx2.cell 1
      have xl := hbx2.lt
      have hws : (w1.alloc (.cells #[.int .i64 px, .int .i64 py] 55)).heap.size = w1.heap.size + 1 := by simp
      have HFR2 := Lib.hid ((HFR1.out.below (bel_alloc (Below.refl _ _) (.cells #[.int .i64 px, .int .i64 py] 55)) hbs2).draw hg2 (by omega))
      have HO2 := Lib.hid (own_keptD (own_keep HO1.out (bel_alloc (Below.refl _ _) (.cells #[.int .i64 px, .int .i64 py] 55))) hg2 (fun b e r => by have := (own_lt HO1.out b e).1; injection r with r; omega))
      have HC2 := Lib.hid hc2
      have hbs3 : base ≤ w2.heap.size := by have := hg2.size; omega
      obtain ⟨da, db, e1, e2, hd1, hd2⟩ : ∃ da db : Int, ((1 : Int) - (d : Int)).tmod 2 = da ∧ ((2 : Int) - (d : Int)).tmod 2 = db ∧ (-1 ≤ da ∧ da ≤ 1) ∧ (-1 ≤ db ∧ db ≤ 1) := by
        rcases (by omega : d = 0 ∨ d = 1 ∨ d = 2 ∨ d = 3) with rfl | rfl | rfl | rfl
        · exact ⟨1, 0, by decide, by decide, by omega, by omega⟩
        · exact ⟨0, 1, by decide, by decide, by omega, by omega⟩
        · exact ⟨-1, 0, by decide, by decide, by omega, by omega⟩
        · exact ⟨0, -1, by decide, by decide, by omega, by omega⟩
      obtain ⟨a0, ha0⟩ : ∃ a0, px + da = a0 := ⟨_, rfl⟩
      obtain ⟨b0, hb0⟩ : ∃ b0, py + db = b0 := ⟨_, rfl⟩
      have q1 : IntKind.i64.wrap ((1 : Int) - (d : Int)) = (1 : Int) - (d : Int) := Go.IntWalk.i64_in _ (by omega)
      have q2 : IntKind.i64.wrap ((2 : Int) - (d : Int)) = (2 : Int) - (d : Int) := Go.IntWalk.i64_in _ (by omega)
      have q3 : IntKind.i64.wrap a0 = a0 := Go.IntWalk.i64_in _ (by omega)
      have q4 : IntKind.i64.wrap b0 = b0 := Go.IntWalk.i64_in _ (by omega)
      have q5 : IntKind.i64.wrap da = da := Go.IntWalk.i64_in _ (by omega)
      have q6 : IntKind.i64.wrap db = db := Go.IntWalk.i64_in _ (by omega)
      have HPI := Lib.hid hpin
      clear hc2 hg2 hbx hbx2 HFR1 HO1 HC1 d1 d2 hge hd hpin hws
      go_wp2_with fail
      have hby := Blk.new w2 55 #[.int .i64 a0, .int .i64 b0]
      obtain ⟨w3, hw3⟩ : ∃ w3, w2.alloc (.cells #[.int .i64 a0, .int .i64 b0] 55) = w3 := ⟨_, rfl⟩
      have hb23 : Below w2.heap.size w2 w3 := by rw [← hw3]; exact bel_alloc (Below.refl _ _) _
      rw [hw3] at hby ⊢
      have HBY := Lib.hid hby
      have HB23 := Lib.hid hb23
      clear hby hb23 hw3 e1 e2 ha0 hb0 q1 q2 q3 q4 q5 q6 x0 x1 xl
      by_cases hin1 : 0 ≤ a0 ∧ a0 ≤ 7
      · refine (l1In_t a0 0 7 w3 hin1.1 hin1.2).mono ?_
        rintro e w4 ⟨rfl, hb4⟩
        have HB4 := Lib.hid (bel_trans HB23.out hb4)
        have hby4 := HBY.out.below hb4
        have y1 : w4.cell? ⟨w2.heap.size, 1, none⟩ = some (.int .i64 b0) := by simpa using hby4.cell 1
        have yl := hby4.lt
        have HBY4 := Lib.hid hby4
        clear hb4 hby4 HBY
        go_wp2_with fail
        by_cases hin2 : 0 ≤ b0 ∧ b0 ≤ 7
        · refine (l1In_t b0 0 7 w4 hin2.1 hin2.2).mono ?_
          rintro e w5 ⟨rfl, hb5⟩
          have HB5 := Lib.hid (bel_trans HB4.out hb5)
          have hby5 := HBY4.out.below hb5
          have z0 : w5.cell? ⟨w2.heap.size, 0, none⟩ = some (.int .i64 a0) := by simpa using hby5.cell 0
          have z1 : w5.cell? ⟨w2.heap.size, 1, none⟩ = some (.int .i64 b0) := by simpa using hby5.cell 1
          have zl := hby5.lt
          have HBY5 := Lib.hid hby5
          have HO5 := Lib.hid (own_keep HO2.out HB5.out)
          clear hb5 hby5 y1 yl HBY4
          go_wp2_with fail
          refine (HasCell_s _ k cq ys a0 b0 w5 (Rd.of_own HO5.out) HYL.out (by omega)).mono ?_
          rintro e w6 ⟨rfl, hb6⟩
          have HB6 := Lib.hid (bel_trans HB5.out hb6)
          have hby6 := HBY5.out.below hb6
          have z0 : w6.cell? ⟨w2.heap.size, 0, none⟩ = some (.int .i64 a0) := by simpa using hby6.cell 0
          have z1 : w6.cell? ⟨w2.heap.size, 1, none⟩ = some (.int .i64 b0) := by simpa using hby6.cell 1
          have zl := hby6.lt
          have HO6 := Lib.hid (own_keep HO5.out hb6)
          clear hb6 hby6 HO5
          cases hh : hasC ys a0 b0 with
          | true =>
            clear z0 z1 zl
            go_wp2_with fail
            exact ⟨⟨i + 1, k, cq, _, ys, by omega, by omega, by go_num, rfl, hk1, by omega, HO6.out, HIN.out, HC2.out.below HB6.out, HFR2.out.below HB6.out hbs3⟩, by simp [intOf]; omega⟩
          | false =>
            clear hh
            go_wp2_with (at_builtin; go_must (refine app_C _ rfl _ _ rfl base _ _ _ ys rfl (HO6.out.alloc _) _ _ _ [(a0, b0)] rfl (rd_newC _ _ _ _) rfl (by omega) (by have := HB6.out.size; simp; omega) ?_); intro D6 c6 w8 ho6 hg6 hat6; have HO8 := Lib.hid ho6; have HG8 := Lib.hid hg6; clear ho6 hg6 hat6)
            have hfr8 : FrG base g w w8 := ((HFR2.out.below HB6.out hbs3).below (bel_alloc (Below.refl _ _) _) (by have := HB6.out.size; omega)).row HG8.out (by have := HB6.out.size; simp; omega) (fun b e => (own_lt HO6.out b e).1)
            have hc8 : Cur w8 g A n c bs := ((HC2.out.below HB6.out).below (bel_alloc (Below.refl _ _) _)).row HG8.out (fun b e => by have := (own_lt HO6.out b e).1; omega) (fun h0 b e r => by have h1 := (own_lt HO6.out b e).1; have h2 := hAb h0 b r; omega)
            have hin8 : ∀ d ∈ ys ++ [(a0, b0)], (0 ≤ d.1 ∧ d.1 ≤ 7) ∧ (0 ≤ d.2 ∧ d.2 ≤ 7) := fun d hd => by
              rcases List.mem_append.1 hd with h | h
              · exact HIN.out d h
              · simp only [List.mem_singleton] at h; subst h; exact ⟨hin1, hin2⟩
            exact ⟨⟨i + 1, k + 1, c6, D6, _, by omega, by omega, by go_num, rfl, by omega, by omega, HO8.out, hin8, hc8, hfr8⟩, by simp [intOf]; omega⟩
        · refine (l1In_f b0 0 7 w4 hin2).mono ?_
          rintro e w5 ⟨rfl, hb5⟩
          have HB5 := Lib.hid (bel_trans HB4.out hb5)
          clear hb5 y1 yl HBY4
          go_wp2_with fail
          exact ⟨⟨i + 1, k, cq, _, ys, by omega, by omega, by go_num, rfl, hk1, by omega, own_keep HO2.out HB5.out, HIN.out, HC2.out.below HB5.out, HFR2.out.below HB5.out hbs3⟩, by simp [intOf]; omega⟩
      · refine (l1In_f a0 0 7 w3 hin1).mono ?_
        rintro e w4 ⟨rfl, hb4⟩
        have HB4 := Lib.hid (bel_trans HB23.out hb4)
        clear hb4
        go_wp2_with fail
        exact ⟨⟨i + 1, k, cq, _, ys, by omega, by omega, by go_num, rfl, hk1, by omega, own_keep HO2.out HB4.out, HIN.out, HC2.out.below HB4.out, HFR2.out.below HB4.out hbs3⟩, by simp [intOf]; omega⟩
    · obtain rfl : i = m := by omega
      have hi1 : ¬ (i : Int) < (i : Int) := by omega
      go_wp2_with fail
      exact HX.out _ _ _ _ _ _ _ _ _ _ _ _ _ _ _ _ _ _ _ _ _ _ _ _ _ _ _ _ _ _ _ _ _ _ _ _ _ _ _ _ _ _ _ _ _ _ _ _ _ _ _ _ _ _ _ _ HO.out hk1 (by omega) HIN.out HC.out HFR.out
theorem cornS_len2 (s : List C) : (cornS s).length = s.length := by unfold cornS; rw [mv_len]
set_option maxRecDepth 100000 in
set_option maxHeartbeats 1600000 in
theorem l2Grow_s (A : Option Addr) (n c g m : Nat) (bs : List UInt8) (w : World) (hc : Cur w g A n c bs) (hn : n ≤ 1048576) (hm : 1 ≤ m) (hm7 : m ≤ 7) :
    Calls Try.prog 100 #[.pointer (some ⟨g, 0, none⟩), .int .i64 (m : Int)] w (RetShp w g A n c bs) := by
  have hgl : g < w.heap.size := by obtain ⟨i, x, hi, hB⟩ := hc.blk; exact hB.lt
  have hAb : 0 < n → ∀ b, ob A = some b → b < w.heap.size := fun h0 b e => by
    obtain ⟨gb, off, hA, hgb, _⟩ := RdB.at_ hc.rd (show 0 < bs.length by rw [hc.len]; exact h0)
    subst hA
    simp only [ob, Option.map_some, Option.some.injEq] at e
    omega
  have HC := Lib.hid (hc.below (bel_alloc (Below.refl _ _) (.cells #[.int .i64 3, .int .i64 3] 55)))
  have HAB := Lib.hid hAb
  have HO0 : Hid ((w.alloc (.cells #[.int .i64 3, .int .i64 3] 55)).ownsRow w.heap.size 55 2 (.slice (some ⟨w.heap.size, 0, none⟩) 1 1) 1 (vC [((3 : Int), (3 : Int))])) := own_newC w 55 3 3 (Nat.le_refl _)
  clear hc hAb
  go_enter Try.func100, Try.ntmps100
  go_wp2_with fail
  refine growLoop HAB.out HC.out hn hm hm7 HO0.out hgl (by simp) ?_
  intro _ _ _ _ _ _ _ _ _ _ _ _ _ _ _ _ _ _ _ _ _ _ _ _ _ _ _ _ _ _ _ _ _ _ _ _ _ _ _ _ _ _ _ _ _ _ _ _ _ _ _ D k c' ys w3 hO hk1 hk7 hin hc3 hfr
  have HO := Lib.hid hO
  have HIN := Lib.hid hin
  have HC3 := Lib.hid hc3
  have hfr3 : FrG w.heap.size g w w3 := ⟨hfr.os, hfr.tape, hfr.output, Nat.le_trans (by simp) hfr.size, fun b hb hg => (hfr.block b hb hg).trans (Below.heap_alloc w _ b hb)⟩
  have HFR := Lib.hid hfr3
  have hyl : ys.length = k := by have := own_len hO; rw [vC_length] at this; omega
  have HYL := Lib.hid hyl
  clear hO hin hc3 hfr hfr3 hyl
  go_wp2_with fail
  refine (SortCells_s D k c' ys w3 (Rd.of_own HO.out) HYL.out (by omega)).mono ?_
  rintro e w4 ⟨D4, k4, c4, rfl, hO4, hb4⟩
  have hl4 : (sortC ys).length = k4 := by have := own_len hO4; rw [vC_length] at this; omega
  have hk4 := sortC_len ys
  have hk41 := sortC_ne (s := ys) (by rw [HYL.out]; omega)
  have HO4 := Lib.hid hO4
  have HB4 := Lib.hid hb4
  have HL4 := Lib.hid hl4
  have hk4b : 1 ≤ k4 ∧ k4 ≤ 7 := by have := HYL.out; omega
  have hsm : ∀ d ∈ sortC ys, small d := fun d hd => by
    have h := HIN.out d ((sortC_mem ys d).1 hd)
    unfold small
    omega
  have HSM := Lib.hid hsm
  clear hO4 hb4 hl4 hk4 hk41 hsm
  go_wp2_with fail
  refine (l2Corner_s D4 k4 c4 (sortC ys) w4 (Rd.of_own HO4.out) HL4.out (by omega) HSM.out).mono ?_
  rintro e w5 ⟨D5, k5, c5, rfl, hO5, hb5⟩
  obtain rfl : k5 = k4 := by have := own_len hO5; rw [vC_length, cornS_len2, HL4.out] at this; omega
  have hsz3 : w.heap.size ≤ w3.heap.size := HFR.out.size
  have hsz4 : w.heap.size ≤ w4.heap.size := Nat.le_trans hsz3 HB4.out.size
  have HO5 := Lib.hid (own_mono2D hO5 hsz4)
  have HC5 := Lib.hid ((HC3.out.below HB4.out).below hb5)
  have HF5 := Lib.hid ((HFR.out.below HB4.out hsz3).below hb5 hsz4).grown
  clear hO5 hb5
  go_wp2_with fail
  go_ret
  exact ⟨D5, k5, c5, _, rfl, HO5.out, by omega, by omega, HC5.out, HF5.out⟩
theorem l2Shape_s (A : Option Addr) (n c g : Nat) (bs : List UInt8) (w : World) (hc : Cur w g A n c bs) (hn : n ≤ 1048576) :
    Calls Try.prog 87 #[.pointer (some ⟨g, 0, none⟩)] w (RetShp w g A n c bs) := by
  have HC := Lib.hid hc
  clear hc
  go_enter Try.func87, Try.ntmps87
  go_wp2_with fail
  refine (l1Below_s A n c g 7 bs w HC.out hn (by omega) (by omega)).mono ?_
  rintro e w1 ⟨q, rfl, hq, hc1, hg1⟩
  have HC1 := Lib.hid hc1
  have HG1 := Lib.hid hg1
  obtain ⟨m, hm⟩ : ∃ m, 1 + q = m := ⟨_, rfl⟩
  have hmI : (1 : Int) + (q : Int) = (m : Int) := by omega
  have em : IntKind.i64.wrap (m : Int) = (m : Int) := Go.IntWalk.i64_in _ (by omega)
  have hm1 : 1 ≤ m ∧ m ≤ 7 := by omega
  clear hc1 hg1 hm hq
  go_wp2_with fail
  refine (l2Grow_s A n c g m bs w1 HC1.out hn hm1.1 hm1.2).mono ?_
  rintro e w2 ⟨D, k, cD, xs, rfl, hO, hk1, hk7, hc2, hg2⟩
  have HO := Lib.hid (own_mono2D hO HG1.out.size)
  have HC2 := Lib.hid hc2
  have HG2 := Lib.hid (grown_trans HG1.out hg2)
  clear hO hc2 hg2
  go_wp2_with fail
  go_ret
  exact ⟨D, k, cD, xs, rfl, HO.out, hk1, hk7, HC2.out, HG2.out⟩
end Go.Proofs.Ytagkopemcabkpaa

/- The reference's draws of lists of cells: shapes and their neighbours. -/
namespace Go.Proofs.Ytagkopemcabkpaa
open Go.RowKit
set_option linter.unusedVariables false
attribute [local go_sem ↓] Go.wp_at_zero Go.wp_at_succ
/-- A list of cells was drawn: it can be read. -/
def RetAny (w : World) (g : Nat) (A : Option Addr) (n c : Nat) (bs : List UInt8) (e : Ending) (w' : World) : Prop :=
  ∃ D k cD xs, e = .returned (.slice D k cD) ∧ Rd w' D (vC xs) ∧ xs.length = k ∧ k ≤ 8 ∧ k ≤ cD ∧ Cur w' g A n c bs ∧ w.grownBy w' (some g) ∧ ∀ b, ob D = some b → b ≠ g
theorem own_capD {w : World} {base e n c size : Nat} {A : Option Addr} {xs : List Value} (h : w.ownsRow base e size (.slice A n c) n xs) : n ≤ c := by
  rcases h.2 with ⟨hv, hn⟩ | ⟨g, cap, cur, hv, hb, hg, hnc, _⟩
  · omega
  · injection hv with h1 h2 h3
    omega
theorem own_someD {w : World} {base e n c size : Nat} {A : Option Addr} {xs : List Value} (h : w.ownsRow base e size (.slice A n c) n xs) (hn : 1 ≤ n) : ∃ g, A = some ⟨g, 0, none⟩ ∧ base ≤ g ∧ g < w.heap.size := by
  rcases h.2 with ⟨hv, h0⟩ | ⟨g, cap, cur, hv, hb, hg, hnc, _⟩
  · omega
  · injection hv with h1 h2 h3
    exact ⟨g, h1, hb, (Array.getElem?_eq_some_iff.1 hg).1⟩
theorem rd_tail {w : World} {g c : Nat} {xs : List C} (h : Rd w (some ⟨g, 0, none⟩) (vC xs)) (hl : xs.length ≤ c) (h1 : ¬c = 1) : Rd w (some ⟨g, 0 + 2, none⟩) (vC (xs.drop 1)) := by
  have h2 := Rd.drop h 2 (2 * c) (by rw [vC_length]; omega)
  rw [if_neg (by omega)] at h2
  have e2 : (some ⟨g, 0, none⟩ : Option Addr).map (·.add 2) = some ⟨g, 0 + 2, none⟩ := by simp only [Option.map_some]; unfold Addr.add; split <;> simp_all
  rw [e2] at h2
  cases xs with
  | nil => exact h2
  | cons x xs => exact h2
/-- One of a list's numbers was drawn. -/
def RetPick (w : World) (g : Nat) (A : Option Addr) (n c : Nat) (bs : List UInt8) (l : List Int) (e : Ending) (w' : World) : Prop :=
  ∃ v, e = .returned (.int .i64 v) ∧ v ∈ l ∧ Cur w' g A n c bs ∧ w.grownBy w' (some g)
set_option maxRecDepth 100000 in
theorem l1PickInt_s (A B : Option Addr) (n c g m d : Nat) (l : List Int) (bs : List UInt8) (w : World) (hc : Cur w g A n c bs) (hn : n ≤ 1048576) (hr : Rd w B (vI l)) (hl : l.length = m) (hm : 1 ≤ m) (hm2 : m ≤ 256) (hB : ∀ b, ob B = some b → b ≠ g) :
    Calls Try.prog 88 #[.pointer (some ⟨g, 0, none⟩), .slice B m d] w (RetPick w g A n c bs l) := by
  have HC := Lib.hid hc
  have HR := Lib.hid hr
  have HL := Lib.hid hl
  clear hc hr hl
  go_enter Try.func88, Try.ntmps88
  go_wp2_with fail
  refine (l1Below_s A n c g m bs w HC.out hn hm hm2).mono ?_
  rintro e w2 ⟨q, rfl, hq, hc2, hg2⟩
  have hr2 := HR.out.grown hg2 (fun b e r => hB b e (Option.some.inj r))
  obtain ⟨g1, o1, rfl, hg1, hx⟩ := RdI.at_ hr2 (show q < l.length by rw [HL.out]; exact hq)
  have HM := Lib.hid (List.getElem_mem (show q < l.length by rw [HL.out]; exact hq))
  obtain ⟨v, hv⟩ : ∃ v, l[q]'(by rw [HL.out]; exact hq) = v := ⟨_, rfl⟩
  rw [hv] at hx HM
  have hq0 : (0 : Int) ≤ (q : Int) := by omega
  have hq1 : (q : Int) < (m : Int) := by omega
  have HC2 := Lib.hid hc2
  have HG2 := Lib.hid hg2
  clear hc2 hg2 hr2 hv hq
  go_wp2_with fail
  go_ret
  exact ⟨v, rfl, HM.out, HC2.out, HG2.out⟩
set_option maxRecDepth 100000 in
set_option maxHeartbeats 1600000 in
theorem l2Any_s (A : Option Addr) (n c g : Nat) (bs : List UInt8) (w : World) (hc : Cur w g A n c bs) (hn : n ≤ 1048576) :
    Calls Try.prog 63 #[.pointer (some ⟨g, 0, none⟩)] w (RetAny w g A n c bs) := by
  have hgl : g < w.heap.size := by obtain ⟨i, x, hi, hB⟩ := hc.blk; exact hB.lt
  have hAb : 0 < n → ∀ b, ob A = some b → b < w.heap.size := fun h0 b e => by
    obtain ⟨gb, off, hA, hgb, _⟩ := RdB.at_ hc.rd (show 0 < bs.length by rw [hc.len]; exact h0)
    subst hA
    simp only [ob, Option.map_some, Option.some.injEq] at e
    omega
  have HC := Lib.hid hc
  have HAB := Lib.hid hAb
  clear hc hAb
  go_enter Try.func63, Try.ntmps63
  go_wp2_with fail
  refine (l2Shape_s A n c g bs w HC.out hn).mono ?_
  rintro e w1 ⟨D, k, cD, xs, rfl, hO, hk1, hk7, hc1, hg1⟩
  have HO1 := Lib.hid hO
  have HC1 := Lib.hid hc1
  have HG1 := Lib.hid hg1
  have hxl : xs.length = k := by have := own_len hO; rw [vC_length] at this; omega
  have HXL := Lib.hid hxl
  have hcap := own_capD hO
  clear hO hc1 hg1 hxl
  go_wp2_with fail
  refine (l1Below_s A n c g 12 bs w1 HC1.out hn (by omega) (by omega)).mono ?_
  rintro e w2 ⟨q, rfl, hq, hc2, hg2⟩
  have hDg : ∀ b, ob D = some b → b ≠ g := fun b e => by have := (own_lt HO1.out b e).1; omega
  have HDG := Lib.hid hDg
  have HO2 := Lib.hid (own_keptD HO1.out hg2 (fun b e r => hDg b e (by injection r with r; exact r.symm)))
  have HC2 := Lib.hid hc2
  have HG2 := Lib.hid (grown_trans HG1.out hg2)
  have hsz2 : w.heap.size ≤ w2.heap.size := HG2.out.size
  clear hc2 hg2 HO1 HC1 HG1 hDg
  by_cases h0 : q = 0
  · have e0 : ((q : Int) == 0) = true := by simp [h0]
    clear h0 hq
    go_wp2_with fail
    refine (l1Below_s A n c g 9 bs w2 HC2.out hn (by omega) (by omega)).mono ?_
    rintro e w3 ⟨q1, rfl, hq1, hc3, hg3⟩
    have HC3 := Lib.hid hc3
    have HG3 := Lib.hid (grown_trans HG2.out hg3)
    have HO3 := Lib.hid (own_keptD HO2.out hg3 (fun b e r => HDG.out b e (by injection r with r; exact r.symm)))
    have w1' : IntKind.i64.wrap ((q1 : Int) - 1) = (q1 : Int) - 1 := Go.IntWalk.i64_in _ (by omega)
    clear hc3 hg3
    go_wp2_with fail
    refine (l1Below_s A n c g 9 bs w3 HC3.out hn (by omega) (by omega)).mono ?_
    rintro e w4 ⟨q2, rfl, hq2, hc4, hg4⟩
    have HC4 := Lib.hid hc4
    have HG4 := Lib.hid (grown_trans HG3.out hg4)
    have HO4 := Lib.hid (own_keptD HO3.out hg4 (fun b e r => HDG.out b e (by injection r with r; exact r.symm)))
    have hsz4 : w.heap.size ≤ w4.heap.size := HG4.out.size
    clear hc4 hg4
    go_wp2_with (at_builtin; go_must (refine app_C _ rfl _ _ rfl w.heap.size _ _ _ xs rfl (HO4.out.alloc _) _ _ _ [((q1 : Int) - 1, (q2 : Int))] rfl (rd_newC _ _ _ _) rfl (by omega) (by simp; omega) ?_); intro D6 c6 w8 ho6 hg6 hat6; have HO8 := Lib.hid ho6; have HG8 := Lib.hid hg6; clear ho6 hg6 hat6)
    go_ret
    have hlt : ∀ b, ob D = some b → w.heap.size ≤ b := fun b e => (own_lt HO4.out b e).1
    have hfr : FrG w.heap.size g w w8 := (((FrG.refl _ g w).draw HG4.out (Nat.le_refl _)).below (bel_alloc (Below.refl _ _) _) hsz4).row HG8.out (by simp; omega) hlt
    have hc8 : Cur w8 g A n c bs := (HC4.out.below (bel_alloc (Below.refl _ _) _)).row HG8.out (fun b e => HDG.out b e) (fun h0 b e r => by have h1 := hlt b e; have h2 := HAB.out h0 b r; omega)
    exact ⟨D6, k + 1, c6, _, rfl, Rd.of_own HO8.out, by have := HXL.out; simp; omega, by omega, own_capD HO8.out, hc8, hfr.grown, fun b e => by have := (own_lt HO8.out b e).1; omega⟩
  · have e0 : ((q : Int) == 0) = false := by simp only [beq_eq_false_iff_ne]; omega
    by_cases h1 : q = 1
    · have e1 : ((q : Int) == 1) = true := by simp [h1]
      clear h0 h1 hq
      go_wp2_with fail
      refine (l1Below_s A n c g 8 bs w2 HC2.out hn (by omega) (by omega)).mono ?_
      rintro e w3 ⟨q1, rfl, hq1, hc3, hg3⟩
      have HC3 := Lib.hid hc3
      have HG3 := Lib.hid (grown_trans HG2.out hg3)
      have HO3 := Lib.hid (own_keptD HO2.out hg3 (fun b e r => HDG.out b e (by injection r with r; exact r.symm)))
      clear hc3 hg3
      go_wp2_with fail
      refine (l1Below_s A n c g 8 bs w3 HC3.out hn (by omega) (by omega)).mono ?_
      rintro e w4 ⟨q2, rfl, hq2, hc4, hg4⟩
      have HC4 := Lib.hid hc4
      have HG4 := Lib.hid (grown_trans HG3.out hg4)
      have HO4 := Lib.hid (own_keptD HO3.out hg4 (fun b e r => HDG.out b e (by injection r with r; exact r.symm)))
      have hsz4 : w.heap.size ≤ w4.heap.size := HG4.out.size
      clear hc4 hg4
      go_wp2_with (at_builtin; go_must (refine app_C _ rfl _ _ rfl w.heap.size _ _ _ xs rfl (HO4.out.alloc _) _ _ _ [((q1 : Int), (q2 : Int))] rfl (rd_newC _ _ _ _) rfl (by omega) (by simp; omega) ?_); intro D6 c6 w8 ho6 hg6 hat6; have HO8 := Lib.hid ho6; have HG8 := Lib.hid hg6; clear ho6 hg6 hat6)
      have hlt : ∀ b, ob D = some b → w.heap.size ≤ b := fun b e => (own_lt HO4.out b e).1
      have HFR := Lib.hid ((((FrG.refl _ g w).draw HG4.out (Nat.le_refl _)).below (bel_alloc (Below.refl _ _) _) hsz4).row HG8.out (by simp; omega) hlt)
      have HC8 := Lib.hid (Cur.row (HC4.out.below (bel_alloc (Below.refl _ _) _)) HG8.out (fun b e => HDG.out b e) (fun h0 b e r => by have h1 := hlt b e; have h2 := HAB.out h0 b r; omega))
      have hsz8 : w.heap.size ≤ w8.heap.size := HFR.out.size
      refine (SortCells_s D6 (k + 1) c6 (xs ++ [((q1 : Int), (q2 : Int))]) w8 (Rd.of_own HO8.out) (by have := HXL.out; simp; omega) (by omega)).mono ?_
      rintro e w9 ⟨D9, k9, c9, rfl, ho9, hb9⟩
      have hl9 := own_len ho9
      have hx9 : (sortC (xs ++ [((q1 : Int), (q2 : Int))])).length ≤ k + 1 := by have h1 := sortC_len (xs ++ [((q1 : Int), (q2 : Int))]); have := HXL.out; simp at h1; omega
      rw [vC_length] at hl9
      have HO9 := Lib.hid ho9
      have HB9 := Lib.hid hb9
      have HX9 := Lib.hid hx9
      clear ho9 hb9 hx9
      go_wp2_with fail
      go_ret
      exact ⟨D9, k9, c9, _, rfl, Rd.of_own HO9.out, by omega, by have := HX9.out; omega, own_capD HO9.out, HC8.out.below HB9.out, (HFR.out.below HB9.out hsz8).grown, fun b e => by have := (own_lt HO9.out b e).1; omega⟩
    · have e1 : ((q : Int) == 1) = false := by simp only [beq_eq_false_iff_ne]; omega
      by_cases h2 : q = 2
      · have e2 : ((q : Int) == 2) = true := by simp [h2]
        clear h0 h1 h2 hq
        obtain ⟨gD, hD, hgD, hgl2⟩ := own_someD HO2.out hk1
        subst hD
        go_wp2_with fail
        · have e1 : k = 1 := by omega
          go_ret
          exact ⟨_, k - 1, _, [], rfl, .inl rfl, by rw [e1]; rfl, by omega, by omega, HC2.out, HG2.out, fun b e => by simp only [ob, Option.map_some, Option.some.injEq] at e; omega⟩
        · go_ret
          exact ⟨_, k - 1, cD - 1, xs.drop 1, rfl, rd_tail (Rd.of_own HO2.out) (by rw [HXL.out]; exact hcap) h, by rw [List.length_drop, HXL.out], by omega, by omega, HC2.out, HG2.out, fun b e => by simp only [ob, Option.map_some, Option.some.injEq] at e; omega⟩
      · have e2 : ((q : Int) == 2) = false := by simp only [beq_eq_false_iff_ne]; omega
        by_cases h3 : q = 3
        · have e3 : ((q : Int) == 3) = true := by simp [h3]
          clear h0 h1 h2 h3 hq
          obtain ⟨gD, hD, hgD, hgl2⟩ := own_someD HO2.out hk1
          subst hD
          go_wp2_with fail
          refine (l1PickInt_s A (some ⟨w2.heap.size, 0, none⟩) n c g 3 3 [-1, 8, 9223372036854775807] bs _ (HC2.out.below (bel_alloc (Below.refl _ _) _)) hn (rd_new w2 3 _) rfl (by omega) (by omega) (fun b e => by simp only [ob, Option.map_some, Option.some.injEq] at e; omega)).mono ?_
          rintro e w3 ⟨v, rfl, hv, hc3, hg3⟩
          have HC3 := Lib.hid hc3
          have HFR3 := Lib.hid (((FrG.refl w.heap.size g w).draw HG2.out (Nat.le_refl _)).below (bel_alloc (Below.refl _ _) (.cells #[.int .i64 (-1), .int .i64 8, .int .i64 9223372036854775807] 3)) hsz2)
          have HO3 := Lib.hid (own_keptD (own_keep HO2.out (bel_alloc (Below.refl _ _) (.cells #[.int .i64 (-1), .int .i64 8, .int .i64 9223372036854775807] 3))) hg3 (fun b e r => HDG.out b e (by injection r with r; exact r.symm)))
          have HFR4 := Lib.hid (HFR3.out.draw hg3 (by simp; omega))
          have hbx : w3.frozen? ⟨gD, 0, none⟩ = false := HO3.out.frozenAt 0
          obtain ⟨u, hbc⟩ : ∃ u, w3.cell? ⟨gD, 0, none⟩ = some u := by
            obtain ⟨g1, o1, e1, _, a1, a2⟩ := RdC.at_ (Rd.of_own HO3.out) (show 0 < xs.length by rw [HXL.out]; omega)
            simp only [Option.some.injEq, Addr.mk.injEq, and_true] at e1
            obtain ⟨rfl, rfl⟩ := e1
            exact ⟨_, a1⟩
          clear hc3 hg3
          go_wp2_with fail
          have hst := (HO3.out.stored 0 (.int .i64 v)).1
          have hk := grown_set (World.grownBy.refl w3 (some gD)) (p := ⟨gD, 0, none⟩) rfl (.int .i64 v)
          have hsz3 : w.heap.size ≤ w3.heap.size := HFR4.out.size
          have hc4 : Cur (w3.setCell ⟨gD, 0, none⟩ (.int .i64 v)) g A n c bs := HC3.out.row hk (fun b e => by have := HDG.out gD rfl; injection e with e; omega) (fun h0 b e r => by have h2 := HAB.out h0 b r; injection e with e; omega)
          have hf4 := (HFR4.out.row hk hsz3 (fun b e => by injection e with e; omega)).grown
          obtain ⟨x, ys, rfl⟩ : ∃ x ys, xs = x :: ys := by
            cases xs with
            | nil => have := HXL.out; simp at this; omega
            | cons x ys => exact ⟨x, ys, rfl⟩
          go_ret
          exact ⟨_, k, cD, (v, x.2) :: ys, rfl, Rd.of_own hst, by rw [← HXL.out]; rfl, by omega, hcap, hc4, hf4, fun b e => by simp only [ob, Option.map_some, Option.some.injEq] at e; omega⟩
        · have e3 : ((q : Int) == 3) = false := by simp only [beq_eq_false_iff_ne]; omega
          clear h0 h1 h2 h3 hq
          go_wp2_with fail
          go_ret
          exact ⟨D, k, cD, _, rfl, Rd.of_own HO2.out, HXL.out, by omega, hcap, HC2.out, HG2.out, HDG.out⟩
end Go.Proofs.Ytagkopemcabkpaa

/- The draws of the law on growth. -/
namespace Go.Proofs.Ytagkopemcabkpaa
open Go.RowKit
set_option linter.unusedVariables false
attribute [local go_sem ↓] Go.wp_at_zero Go.wp_at_succ
/-- A number below a bound, less one; nothing that was there is written. -/
def RetNd (w : World) (m : Nat) (e : Ending) (w' : World) : Prop := ∃ q : Nat, e = .returned (.int .i64 ((q : Int) - 1)) ∧ q < m ∧ Below w.heap.size w w'
/-- A short list of cells; nothing that was there is written. -/
def RetCl (w : World) (e : Ending) (w' : World) : Prop := ∃ D k cD xs, e = .returned (.slice D k cD) ∧ Rd w' D (vC xs) ∧ xs.length = k ∧ k ≤ 1048576 ∧ k ≤ cD ∧ Below w.heap.size w w'
theorem grown_newD {w w1 w2 : World} {g : Nat} (h : Below w.heap.size w w1) (hg : w.heap.size ≤ g) (k : w1.grownBy w2 (some g)) : Below w.heap.size w w2 := h.grown k h.size (fun g' e => by injection e with e; omega)
theorem DrawCountByGrowth_s (A : Option Addr) (n c : Nat) (bs : List UInt8) (w : World) (hr : Rd w A (vB bs)) (hl : bs.length = n) (hn : n ≤ 1048576) :
    Calls Try.prog 38 #[.slice A n c] w (RetNd w 7) := by
  go_enter Try.func38, Try.ntmps38
  go_wp2_with fail
  refine (l1New_s A n c bs w hr hl hn).mono ?_
  rintro e w1 ⟨g, rfl, hc, hg, hb⟩
  have HC := Lib.hid hc
  have HB := Lib.hid hb
  clear hc hb hr hl
  go_wp2_with fail
  refine (l1Below_s A n c g 7 bs w1 HC.out hn (by omega) (by omega)).mono ?_
  rintro e w2 ⟨q, rfl, hq, hc2, hg2⟩
  have HG2 := Lib.hid hg2
  have eq1 : IntKind.i64.wrap ((q : Int) - 1) = (q : Int) - 1 := Go.IntWalk.i64_in _ (by omega)
  clear hc2 hg2
  go_wp2_with fail
  go_ret
  exact ⟨q, rfl, hq, grown_newD HB.out hg HG2.out⟩
theorem DrawCountByRows_s (A : Option Addr) (n c : Nat) (bs : List UInt8) (w : World) (hr : Rd w A (vB bs)) (hl : bs.length = n) (hn : n ≤ 1048576) :
    Calls Try.prog 39 #[.slice A n c] w (RetNd w 5) := by
  go_enter Try.func39, Try.ntmps39
  go_wp2_with fail
  refine (l1New_s A n c bs w hr hl hn).mono ?_
  rintro e w1 ⟨g, rfl, hc, hg, hb⟩
  have HC := Lib.hid hc
  have HB := Lib.hid hb
  clear hc hb hr hl
  go_wp2_with fail
  refine (l1Below_s A n c g 5 bs w1 HC.out hn (by omega) (by omega)).mono ?_
  rintro e w2 ⟨q, rfl, hq, hc2, hg2⟩
  have HG2 := Lib.hid hg2
  have eq1 : IntKind.i64.wrap ((q : Int) - 1) = (q : Int) - 1 := Go.IntWalk.i64_in _ (by omega)
  clear hc2 hg2
  go_wp2_with fail
  go_ret
  exact ⟨q, rfl, hq, grown_newD HB.out hg HG2.out⟩
theorem DrawCountRowConvex_s (A : Option Addr) (n c : Nat) (bs : List UInt8) (w : World) (hr : Rd w A (vB bs)) (hl : bs.length = n) (hn : n ≤ 1048576) :
    Calls Try.prog 32 #[.slice A n c] w (RetNd w 15) := by
  go_enter Try.func32, Try.ntmps32
  go_wp2_with fail
  refine (l1New_s A n c bs w hr hl hn).mono ?_
  rintro e w1 ⟨g, rfl, hc, hg, hb⟩
  have HC := Lib.hid hc
  have HB := Lib.hid hb
  clear hc hb hr hl
  go_wp2_with fail
  refine (l1Below_s A n c g 15 bs w1 HC.out hn (by omega) (by omega)).mono ?_
  rintro e w2 ⟨q, rfl, hq, hc2, hg2⟩
  have HG2 := Lib.hid hg2
  have eq1 : IntKind.i64.wrap ((q : Int) - 1) = (q : Int) - 1 := Go.IntWalk.i64_in _ (by omega)
  clear hc2 hg2
  go_wp2_with fail
  go_ret
  exact ⟨q, rfl, hq, grown_newD HB.out hg HG2.out⟩
theorem DrawGrowthSteps_s (A : Option Addr) (n c : Nat) (bs : List UInt8) (w : World) (hr : Rd w A (vB bs)) (hl : bs.length = n) (hn : n ≤ 1048576) :
    Calls Try.prog 25 #[.slice A n c] w (RetCl w) := by
  go_enter Try.func25, Try.ntmps25
  go_wp2_with fail
  refine (l1New_s A n c bs w hr hl hn).mono ?_
  rintro e w1 ⟨g, rfl, hc, hg, hb⟩
  have HC := Lib.hid hc
  have HB := Lib.hid hb
  clear hc hb hr hl
  go_wp2_with fail
  refine (l2Any_s A n c g bs w1 HC.out hn).mono ?_
  rintro e w2 ⟨D, k, cD, xs, rfl, hr2, hl2, hk8, hkc, hc2, hg2, hdg⟩
  have HG2 := Lib.hid hg2
  have HR2 := Lib.hid hr2
  have HL2 := Lib.hid hl2
  clear hc2 hg2 hr2 hl2
  go_wp2_with fail
  go_ret
  exact ⟨D, k, cD, xs, rfl, HR2.out, HL2.out, by omega, hkc, grown_newD HB.out hg HG2.out⟩
theorem l1Once_s (A : Option Addr) (n c g k : Nat) (bs : List UInt8) (w : World) (hc : Cur w g A n c bs) (hn : n ≤ 1048576) (hk1 : 1 ≤ k) (hk : k ≤ 256) :
    Calls Try.prog 46 #[.pointer (some ⟨g, 0, none⟩), .int .i64 (k : Int)] w (fun e w' => ∃ b : Bool, e = .returned (.bool b) ∧ Cur w' g A n c bs ∧ w.grownBy w' (some g)) := by
  go_enter Try.func46, Try.ntmps46
  go_wp2_with fail
  refine (l1Below_s A n c g k bs w hc hn hk1 hk).mono ?_
  rintro e w2 ⟨q, rfl, hq, hc2, hg2⟩
  have HC2 := Lib.hid hc2
  have HG2 := Lib.hid hg2
  clear hc2 hg2 hc
  go_wp2_with fail
  go_ret
  exact ⟨_, rfl, HC2.out, HG2.out⟩
theorem DrawIsGrowth_s (A : Option Addr) (n c : Nat) (bs : List UInt8) (w : World) (hr : Rd w A (vB bs)) (hl : bs.length = n) (hn : n ≤ 1048576) :
    Calls Try.prog 37 #[.slice A n c] w (RetCl w) := by
  go_enter Try.func37, Try.ntmps37
  go_wp2_with fail
  refine (l1New_s A n c bs w hr hl hn).mono ?_
  rintro e w1 ⟨g, rfl, hc, hg, hb⟩
  have HC := Lib.hid hc
  have HB := Lib.hid hb
  clear hc hb hr hl
  go_wp2_with fail
  refine (l2Any_s A n c g bs w1 HC.out hn).mono ?_
  rintro e w2 ⟨D, k, cD, xs, rfl, hr2, hl2, hk8, hkc, hc2, hg2, hdg⟩
  have HG2 := Lib.hid (grown_newD HB.out hg hg2)
  have HR2 := Lib.hid hr2
  have HL2 := Lib.hid hl2
  have HC2 := Lib.hid hc2
  have HDG := Lib.hid hdg
  have hgl : g < w2.heap.size := by obtain ⟨i, x, hi, hB⟩ := hc2.blk; exact hB.lt
  clear hc2 hg2 hr2 hl2 hdg HC HB
  go_wp2_with fail
  refine (GrowthSteps_s D k cD xs w2 HR2.out HL2.out (by omega)).mono ?_
  rintro e w3 ⟨D3, k3, c3, rfl, ho3, hb3⟩
  have HO3 := Lib.hid ho3
  have HC3 := Lib.hid (HC2.out.below hb3)
  have HR3 := Lib.hid (HR2.out.below hb3)
  have HB3 := Lib.hid (bel_trans HG2.out hb3)
  clear ho3 hb3 HC2 HR2 HG2
  cases hi : isConn xs with
  | false =>
    clear hi
    go_wp2_with fail
    go_ret
    exact ⟨D, k, cD, xs, rfl, HR3.out, HL2.out, by omega, hkc, HB3.out⟩
  | true =>
    clear hi
    go_wp2_with fail
    refine (l1Once_s A n c g 3 bs w3 HC3.out hn (by omega) (by omega)).mono ?_
    rintro e w4 ⟨b, rfl, hc4, hg4⟩
    have HG4 := Lib.hid hg4
    have hl3 := own_len HO3.out
    rw [vC_length] at hl3
    have hbig := growSteps_len xs
    have HB4 := Lib.hid (grown_newD HB3.out hg HG4.out)
    have HX := Lib.hid (by omega : (growSteps xs).length = k3 ∧ k3 ≤ 1048576)
    clear hc4 hg4 hl3 hbig
    cases b with
    | false =>
      go_wp2_with fail
      go_ret
      exact ⟨D3, k3, c3, _, rfl, (Rd.of_own HO3.out).grown HG4.out (fun b e r => by have := (own_lt HO3.out b e).1; have := Option.some.inj r; omega), HX.out.1, HX.out.2, own_capD HO3.out, HB4.out⟩
    | true =>
      go_wp2_with fail
      go_ret
      exact ⟨D, k, cD, xs, rfl, HR3.out.grown HG4.out (fun b e r => HDG.out b e (Option.some.inj r)), HL2.out, by omega, hkc, HB4.out⟩
end Go.Proofs.Ytagkopemcabkpaa

/- Slices of shapes: read, owned. -/
namespace Go.Proofs.Ytagkopemcabkpaa
open Go.RowKit
set_option linter.unusedVariables false
/-- A slice header whose memory is a block of cells that reads as f. -/
def CRow (w : World) (x : H) (f : List C) : Prop := f.length = x.2.1 ∧ Rd w x.1 (vC f) ∧ ∀ g, ob x.1 = some g → ∃ cur z, w.heap[g]? = some (.cells cur 55 z)
/-- A slice of shapes that reads as F. -/
structure RdF (w : World) (A : Option Addr) (n : Nat) (hs : List H) (F : List (List C)) : Prop where
  top : Rd w A (vS hs)
  hlen : hs.length = n
  flen : F.length = n
  row : ∀ (i : Nat) x f, hs[i]? = some x → F[i]? = some f → CRow w x f
/-- .. and whose own block is the call's own. -/
structure OwnF (base : Nat) (w : World) (A : Option Addr) (n c : Nat) (hs : List H) (F : List (List C)) : Prop where
  own : w.ownsRow base 30 1 (.slice A n c) n (vS hs)
  flen : F.length = n
  row : ∀ (i : Nat) x f, hs[i]? = some x → F[i]? = some f → CRow w x f
section
variable {w w' : World} {x : H} {f : List C} {A : Option Addr} {n c base : Nat} {hs : List H} {F : List (List C)}
theorem CRow.lt (h : CRow w x f) : ∀ g, ob x.1 = some g → g < w.heap.size := fun g e => by
  obtain ⟨cur, z, h1⟩ := h.2.2 g e
  exact (Array.getElem?_eq_some_iff.1 h1).1
theorem CRow.below (h : CRow w x f) (hb : Below w.heap.size w w') : CRow w' x f :=
  ⟨h.1, h.2.1.below hb, fun g e => by obtain ⟨cur, z, h1⟩ := h.2.2 g e; exact ⟨cur, z, (hb.block g (Array.getElem?_eq_some_iff.1 h1).1).trans h1⟩⟩
theorem CRow.of_own (h : w.ownsRow base 55 2 (.slice A n c) n (vC f)) : CRow w (A, n, c) f := by
  refine ⟨by have := own_len h; rw [vC_length] at this; show f.length = n; omega, Rd.of_own h, fun g e => ?_⟩
  rcases h.2 with ⟨hv, _⟩ | ⟨g', cap, cur, hv, _, hg, _⟩
  · injection hv with hA
    subst hA
    simp [ob] at e
  · injection hv with hA
    subst hA
    simp only [ob, Option.map_some, Option.some.injEq] at e
    subst e
    exact ⟨cur, _, hg⟩
/-- A row of cells lies apart from a block of headers. -/
theorem CRow.apart (h : CRow w x f) {A : Option Addr} {n c base : Nat} {vs : List Value} {sz : Nat} (ho : w.ownsRow base 30 sz (.slice A n c) n vs) : ∀ g, ob x.1 = some g → ob A ≠ some g := by
  intro g e ea
  obtain ⟨cur, z, h1⟩ := h.2.2 g e
  rcases ho.2 with ⟨hv, _⟩ | ⟨g', cap, cur', hv, _, hg, _⟩
  · injection hv with hA
    subst hA
    simp [ob] at ea
  · injection hv with hA
    subst hA
    simp only [ob, Option.map_some, Option.some.injEq] at ea
    subst ea
    rw [h1] at hg
    injection hg with hg
    injection hg with _ h3
    exact absurd h3 (by decide)
theorem CRow.grown {row : Option Nat} (h : CRow w x f) (hg : w.grownBy w' row) (hn : ∀ g, ob x.1 = some g → row ≠ some g) : CRow w' x f :=
  ⟨h.1, h.2.1.grown hg (fun g e r => hn g (by simpa using e) r.symm), fun g e => by
    obtain ⟨cur, z, h1⟩ := h.2.2 g e
    exact ⟨cur, z, (hg.block g (Array.getElem?_eq_some_iff.1 h1).1 (fun r => hn g e r.symm)).trans h1⟩⟩
theorem OwnF.hlen (h : OwnF base w A n c hs F) : hs.length = n := by have := own_len h.own; rw [vS_length] at this; omega
theorem OwnF.rd (h : OwnF base w A n c hs F) : RdF w A n hs F := ⟨Rd.of_own h.own, h.hlen, h.flen, h.row⟩
theorem RdF.below (h : RdF w A n hs F) (hb : Below w.heap.size w w') : RdF w' A n hs F := ⟨h.top.below hb, h.hlen, h.flen, fun i x f a b => (h.row i x f a b).below hb⟩
theorem OwnF.below (h : OwnF base w A n c hs F) (hb : Below w.heap.size w w') : OwnF base w' A n c hs F := ⟨own_keep h.own hb, h.flen, fun i x f a b => (h.row i x f a b).below hb⟩
theorem OwnF.mono {base' : Nat} (h : OwnF base w A n c hs F) (hb : base' ≤ base) : OwnF base' w A n c hs F := ⟨own_base h.own hb, h.flen, h.row⟩
theorem OwnF.nil (base : Nat) (w : World) : OwnF base w none 0 0 [] [] := ⟨own_nil _ _ _ _, rfl, fun i x f a => by simp at a⟩
theorem OwnF.none_ (h : w.ownsRow base 30 1 (.slice A 0 c) 0 []) : OwnF base w A 0 c [] [] := ⟨h, rfl, fun i x f a => by simp at a⟩
theorem RdF.at_ (h : RdF w A n hs F) {k : Nat} (hk : k < n) : ∃ (x : H) (f : List C) (g off : Nat), hs[k]? = some x ∧ F[k]? = some f ∧ A = some ⟨g, off, none⟩ ∧ g < w.heap.size ∧ w.cell? ⟨g, off + k, none⟩ = some (.slice x.1 x.2.1 x.2.2) ∧ CRow w x f := by
  have a : k < hs.length := by rw [h.hlen]; exact hk
  have b : k < F.length := by rw [h.flen]; exact hk
  obtain ⟨g, off, e, hg, c1⟩ := RdS.at_ h.top a
  exact ⟨hs[k], F[k], g, off, List.getElem?_eq_getElem a, List.getElem?_eq_getElem b, e, hg, c1, h.row k _ _ (List.getElem?_eq_getElem a) (List.getElem?_eq_getElem b)⟩
end
/-- A result that is a slice of shapes of the call's own. -/
def RetF (w : World) (F : List (List C)) (e : Ending) (w' : World) : Prop :=
  ∃ A n c hs, e = .returned (.slice A n c) ∧ OwnF w.heap.size w' A n c hs F ∧ Below w.heap.size w w'
/-- The place in an ordered list. -/
theorem countP_cut {α : Type} {p : α → Bool} {F : List α} {k : Nat} (hk : k ≤ F.length) (h1 : ∀ (t : Nat) x, t < k → F[t]? = some x → p x = true) (h2 : ∀ (t : Nat) x, k ≤ t → F[t]? = some x → p x = false) : F.countP p = k := by
  have e : F.countP p = (F.take k).countP p + (F.drop k).countP p := by rw [← List.countP_append, List.take_append_drop]
  have e1 : (F.take k).countP p = k := by
    have : (F.take k).countP p = (F.take k).length := by
      rw [List.countP_eq_length]
      intro x hx
      obtain ⟨i, hi, rfl⟩ := List.mem_iff_getElem.1 hx
      rw [List.length_take] at hi
      exact h1 i _ (by omega) (by rw [List.getElem_take]; exact List.getElem?_eq_getElem (by omega))
    rw [this, List.length_take]
    omega
  have e2 : (F.drop k).countP p = 0 := by
    rw [List.countP_eq_zero]
    intro x hx
    obtain ⟨i, hi, rfl⟩ := List.mem_iff_getElem.1 hx
    rw [List.length_drop] at hi
    rw [List.getElem_drop]
    simpa using h2 (k + i) _ (by omega) (List.getElem?_eq_getElem (by omega))
  omega
end Go.Proofs.Ytagkopemcabkpaa

/- Shapes compared: both sides. -/
namespace Go.Proofs.Ytagkopemcabkpaa
open Go.RowKit
set_option linter.unusedVariables false
attribute [local go_sem ↓] Go.wp_at_zero Go.wp_at_succ
set_option maxHeartbeats 1600000 in
theorem CompareShapes_i (A B : Option Addr) (n c m d : Nat) (xs ys : List C) (w : World) (hr : Rd w A (vC xs)) (hr2 : Rd w B (vC ys)) (hl : xs.length = n) (hl2 : ys.length = m) (hn : n ≤ 1099511627776) (hm : m ≤ 1099511627776) :
    Calls Try.prog 125 #[.slice A n c, .slice B m d] w (Ret w (.int .i64 (cmpS xs ys))) := by
  rcases Nat.lt_trichotomy n m with hlt | heq | hgt
  · have HV : Hid (cmpS xs ys = -1) := cmpS_len (by omega)
    have h1 : (n : Int) < (m : Int) := by omega
    have h2 : ((n : Int) != (m : Int)) = true := by rw [bne_iff_ne]; omega
    clear hl hl2
    go_enter Try.func125, Try.ntmps125
    go_wp2
    go_ret
    exact ⟨by rw [HV.out]; rfl, (by (repeat (first | with_reducible exact Below.refl _ _ | with_reducible assumption | with_reducible apply bel_alloc | with_reducible apply bel_drew | with_reducible apply bel_drewN | ((with_reducible refine bel_set ?_ ?_); rotate_left; (simp <;> omega)) | (with_reducible refine bel_trans ?_ (by with_reducible assumption)))))⟩
  · subst heq
    have HLL : Hid (xs.length = ys.length) := hl.trans hl2.symm
    have HL := Lib.hid hl
    have HL2 := Lib.hid hl2
    have h1 : decide ((n : Int) < (n : Int)) = false := by simp
    clear hl hl2
    go_enter Try.func125, Try.ntmps125
    go_wp2
    go_loopw [20] (fun e5 wr => ∃ k : Nat, k ≤ n ∧ e5 = .int .i64 k ∧ xs.take k = ys.take k ∧ Below w.heap.size w wr) (fun e5 _ => n - (intOf e5).toNat)
    case atStart => exact ⟨0, Nat.zero_le _, rfl, rfl, Below.refl _ _⟩
    case round =>
      obtain ⟨k, hk, rfl, htk, hb⟩ := hrel
      have HT := Lib.hid htk
      clear htk
      by_cases hkn : k < n
      · have hk1 : k < xs.length := by rw [HL.out]; exact hkn
        have hk2 : k < ys.length := by rw [HL2.out]; exact hkn
        have hk0 : (0 : Int) ≤ (k : Int) := by omega
        have hkI : (k : Int) < (n : Int) := by omega
        obtain ⟨g1, o1, rfl, hg1, a1, a2⟩ := RdC.at_ (hr.below hb) hk1
        obtain ⟨g2, o2, rfl, hg2, b1, b2⟩ := RdC.at_ (hr2.below hb) hk2
        obtain ⟨x, hx⟩ : ∃ x, xs[k].1 = x := ⟨_, rfl⟩
        obtain ⟨y, hy⟩ : ∃ y, xs[k].2 = y := ⟨_, rfl⟩
        obtain ⟨p, hp⟩ : ∃ p, ys[k].1 = p := ⟨_, rfl⟩
        obtain ⟨q, hq⟩ : ∃ q, ys[k].2 = q := ⟨_, rfl⟩
        have hxy : xs[k] = (x, y) := Prod.ext hx hy
        have hpq : ys[k] = (p, q) := Prod.ext hp hq
        rw [hx] at a1
        rw [hy] at a2
        rw [hp] at b1
        rw [hq] at b2
        have HAT := Lib.hid (cmpS_at HLL.out hk1 HT.out (x, y) (p, q) hxy hpq)
        have HST : Hid ((x, y) = (p, q) → xs.take (k + 1) = ys.take (k + 1)) := fun e => take_eq_step hk1 hk2 HT.out (by rw [hxy, hpq, e])
        clear hx hy hp hq hxy hpq
        cases h3 : befC (x, y) (p, q) with
        | true =>
          have HV := Lib.hid (HAT.out.1 h3)
          have H3 := Lib.hid h3
          clear h3
          go_wp2_with fail
          (refine wp_region_below (by kernel_rfl) (by kernel_rfl) ?_; (repeat (first | go_big_quiet_skip | (refine quietV (v := ?_) (by rfl) rfl (fun w' hbw => ?_) ?_; rotate_left; ((try dsimp only at hbw); have hbc := (bcell hbw).1; have hbf := (bcell hbw).2; go_simp; first | done | with_reducible rfl | exact callsBB (before_i x y p q _) H3.out hbw); simp only [List.setIfInBounds_toArray, List.set_cons_zero, List.set_cons_succ]))); refine wpQuiet_nil ?_; intro wq hbq)
          go_wp2_with fail
          go_ret
          exact ⟨by rw [HV.out]; rfl, (by (repeat (first | with_reducible exact Below.refl _ _ | with_reducible assumption | with_reducible apply bel_alloc | with_reducible apply bel_drew | with_reducible apply bel_drewN | ((with_reducible refine bel_set ?_ ?_); rotate_left; (simp <;> omega)) | (with_reducible refine bel_trans ?_ (by with_reducible assumption)))))⟩
        | false =>
          have H3 := Lib.hid h3
          cases h4 : befC (p, q) (x, y) with
          | true =>
            have HV := Lib.hid (HAT.out.2 h4)
            have H4 := Lib.hid h4
            clear h3 h4
            go_wp2_with fail
            (refine wp_region_below (by kernel_rfl) (by kernel_rfl) ?_; (repeat (first | go_big_quiet_skip | (refine quietV (v := ?_) (by rfl) rfl (fun w' hbw => ?_) ?_; rotate_left; ((try dsimp only at hbw); have hbc := (bcell hbw).1; have hbf := (bcell hbw).2; go_simp; first | done | with_reducible rfl | exact callsBB (before_i x y p q _) H3.out hbw); simp only [List.setIfInBounds_toArray, List.set_cons_zero, List.set_cons_succ]))); refine wpQuiet_nil ?_; intro wq hbq)
            have c1 := (hbq.cell hg1).trans a1
            have c2 := (hbq.cell hg1).trans a2
            have c3 := (hbq.cell hg2).trans b1
            have c4 := (hbq.cell hg2).trans b2
            have hg3 : g1 < wq.heap.size := Nat.lt_of_lt_of_le hg1 hbq.size
            have hg4 : g2 < wq.heap.size := Nat.lt_of_lt_of_le hg2 hbq.size
            clear a1 a2 b1 b2 hg1 hg2
            go_wp2_with fail
            (refine wp_region_below (by kernel_rfl) (by kernel_rfl) ?_; (repeat (first | go_big_quiet_skip | (refine quietV (v := ?_) (by rfl) rfl (fun w' hbw => ?_) ?_; rotate_left; ((try dsimp only at hbw); have hbc := (bcell hbw).1; have hbf := (bcell hbw).2; go_simp; first | done | with_reducible rfl | exact callsBB (before_i p q x y _) H4.out hbw); simp only [List.setIfInBounds_toArray, List.set_cons_zero, List.set_cons_succ]))); refine wpQuiet_nil ?_; intro wz hbz)
            go_wp2_with fail
            go_ret
            exact ⟨by rw [HV.out]; rfl, bel_trans (bel_trans hb hbq) hbz⟩
          | false =>
            have HE := Lib.hid (befC_sto.tot h3 h4)
            have H4 := Lib.hid h4
            clear h3 h4
            go_wp2_with fail
            (refine wp_region_below (by kernel_rfl) (by kernel_rfl) ?_; (repeat (first | go_big_quiet_skip | (refine quietV (v := ?_) (by rfl) rfl (fun w' hbw => ?_) ?_; rotate_left; ((try dsimp only at hbw); have hbc := (bcell hbw).1; have hbf := (bcell hbw).2; go_simp; first | done | with_reducible rfl | exact callsBB (before_i x y p q _) H3.out hbw); simp only [List.setIfInBounds_toArray, List.set_cons_zero, List.set_cons_succ]))); refine wpQuiet_nil ?_; intro wq hbq)
            have c1 := (hbq.cell hg1).trans a1
            have c2 := (hbq.cell hg1).trans a2
            have c3 := (hbq.cell hg2).trans b1
            have c4 := (hbq.cell hg2).trans b2
            have hg3 : g1 < wq.heap.size := Nat.lt_of_lt_of_le hg1 hbq.size
            have hg4 : g2 < wq.heap.size := Nat.lt_of_lt_of_le hg2 hbq.size
            clear a1 a2 b1 b2 hg1 hg2
            go_wp2_with fail
            (refine wp_region_below (by kernel_rfl) (by kernel_rfl) ?_; (repeat (first | go_big_quiet_skip | (refine quietV (v := ?_) (by rfl) rfl (fun w' hbw => ?_) ?_; rotate_left; ((try dsimp only at hbw); have hbc := (bcell hbw).1; have hbf := (bcell hbw).2; go_simp; first | done | with_reducible rfl | exact callsBB (before_i p q x y _) H4.out hbw); simp only [List.setIfInBounds_toArray, List.set_cons_zero, List.set_cons_succ]))); refine wpQuiet_nil ?_; intro wz hbz)
            go_wp2_with fail
            exact ⟨⟨k + 1, by omega, by go_num, HST.out HE.out, bel_trans (bel_trans hb hbq) hbz⟩, by simp [intOf]; omega⟩
      · have hkn2 : k = n := by omega
        have HV : Hid (cmpS xs ys = 0) := by
          show cmpS xs ys = 0
          rw [take_eq_all HLL.out (by rw [HL.out]; omega) HT.out]
          exact cmpS_eq _
        subst hkn2
        have hk1 : ¬ (k : Int) < (k : Int) := by omega
        go_wp2
        go_ret
        exact ⟨by rw [HV.out]; rfl, hb⟩
  · have HV : Hid (cmpS xs ys = 1) := cmpS_len2 (by omega)
    have h1 : decide ((n : Int) < (m : Int)) = false := by simp; omega
    have h2 : ((n : Int) != (m : Int)) = true := by rw [bne_iff_ne]; omega
    have h3 : (n : Int) > (m : Int) := by omega
    clear hl hl2
    go_enter Try.func125, Try.ntmps125
    go_wp2
    go_ret
    exact ⟨by rw [HV.out]; rfl, (by (repeat (first | with_reducible exact Below.refl _ _ | with_reducible assumption | with_reducible apply bel_alloc | with_reducible apply bel_drew | with_reducible apply bel_drewN | ((with_reducible refine bel_set ?_ ?_); rotate_left; (simp <;> omega)) | (with_reducible refine bel_trans ?_ (by with_reducible assumption)))))⟩
set_option maxHeartbeats 1600000 in
theorem CompareShapes_s (A B : Option Addr) (n c m d : Nat) (xs ys : List C) (w : World) (hr : Rd w A (vC xs)) (hr2 : Rd w B (vC ys)) (hl : xs.length = n) (hl2 : ys.length = m) (hn : n ≤ 1099511627776) (hm : m ≤ 1099511627776) :
    Calls Try.prog 95 #[.slice A n c, .slice B m d] w (Ret w (.int .i64 (cmpS xs ys))) := by
  rcases Nat.lt_trichotomy n m with hlt | heq | hgt
  · have HV : Hid (cmpS xs ys = -1) := cmpS_len (by omega)
    have h1 : (n : Int) < (m : Int) := by omega
    have h2 : ((n : Int) != (m : Int)) = true := by rw [bne_iff_ne]; omega
    clear hl hl2
    go_enter Try.func95, Try.ntmps95
    go_wp2
    go_ret
    exact ⟨by rw [HV.out]; rfl, (by (repeat (first | with_reducible exact Below.refl _ _ | with_reducible assumption | with_reducible apply bel_alloc | with_reducible apply bel_drew | with_reducible apply bel_drewN | ((with_reducible refine bel_set ?_ ?_); rotate_left; (simp <;> omega)) | (with_reducible refine bel_trans ?_ (by with_reducible assumption)))))⟩
  · subst heq
    have HLL : Hid (xs.length = ys.length) := hl.trans hl2.symm
    have HL := Lib.hid hl
    have HL2 := Lib.hid hl2
    have h1 : decide ((n : Int) < (n : Int)) = false := by simp
    clear hl hl2
    go_enter Try.func95, Try.ntmps95
    go_wp2
    go_loopw [5] (fun e5 wr => ∃ k : Nat, k ≤ n ∧ e5 = .int .i64 k ∧ xs.take k = ys.take k ∧ Below w.heap.size w wr) (fun e5 _ => n - (intOf e5).toNat)
    case atStart => exact ⟨0, Nat.zero_le _, rfl, rfl, Below.refl _ _⟩
    case round =>
      obtain ⟨k, hk, rfl, htk, hb⟩ := hrel
      have HT := Lib.hid htk
      clear htk
      by_cases hkn : k < n
      · have hk1 : k < xs.length := by rw [HL.out]; exact hkn
        have hk2 : k < ys.length := by rw [HL2.out]; exact hkn
        have hk0 : (0 : Int) ≤ (k : Int) := by omega
        have hkI : (k : Int) < (n : Int) := by omega
        obtain ⟨g1, o1, rfl, hg1, a1, a2⟩ := RdC.at_ (hr.below hb) hk1
        obtain ⟨g2, o2, rfl, hg2, b1, b2⟩ := RdC.at_ (hr2.below hb) hk2
        obtain ⟨x, hx⟩ : ∃ x, xs[k].1 = x := ⟨_, rfl⟩
        obtain ⟨y, hy⟩ : ∃ y, xs[k].2 = y := ⟨_, rfl⟩
        obtain ⟨p, hp⟩ : ∃ p, ys[k].1 = p := ⟨_, rfl⟩
        obtain ⟨q, hq⟩ : ∃ q, ys[k].2 = q := ⟨_, rfl⟩
        have hxy : xs[k] = (x, y) := Prod.ext hx hy
        have hpq : ys[k] = (p, q) := Prod.ext hp hq
        rw [hx] at a1
        rw [hy] at a2
        rw [hp] at b1
        rw [hq] at b2
        have HAT := Lib.hid (cmpS_at HLL.out hk1 HT.out (x, y) (p, q) hxy hpq)
        have HST : Hid ((x, y) = (p, q) → xs.take (k + 1) = ys.take (k + 1)) := fun e => take_eq_step hk1 hk2 HT.out (by rw [hxy, hpq, e])
        clear hx hy hp hq hxy hpq
        by_cases hsame : x = p ∧ y = q
        · obtain ⟨rfl, rfl⟩ := hsame
          go_wp2_with fail
          (refine wp_region_below (by kernel_rfl) (by kernel_rfl) ?_; (repeat (first | go_big_quiet_skip | (refine quietV (v := ?_) (by rfl) rfl (fun w' hbw => ?_) ?_; rotate_left; ((try dsimp only at hbw); have hbc := (bcell hbw).1; have hbf := (bcell hbw).2; go_simp; first | done | with_reducible rfl | fail); simp only [List.setIfInBounds_toArray, List.set_cons_zero, List.set_cons_succ]))); refine wpQuiet_nil ?_; intro wq hbq)
          go_wp2_with fail
          exact ⟨⟨k + 1, by omega, by go_num, HST.out (by simp), bel_trans hb hbq⟩, by simp [intOf]; omega⟩
        · have hne : (x == p && y == q) = false := by
            rw [Bool.and_eq_false_iff, beq_eq_false_iff_ne, beq_eq_false_iff_ne]
            by_cases h1 : x = p
            · exact .inr fun h2 => hsame ⟨h1, h2⟩
            · exact .inl h1
          cases h3 : befC (x, y) (p, q) with
          | true =>
            have HV := Lib.hid (HAT.out.1 h3)
            have H3 := Lib.hid h3
            clear h3 hsame
            go_wp2_with fail
            (refine wp_region_below (by kernel_rfl) (by kernel_rfl) ?_; (repeat (first | go_big_quiet_skip | (refine quietV (v := ?_) (by rfl) rfl (fun w' hbw => ?_) ?_; rotate_left; ((try dsimp only at hbw); have hbc := (bcell hbw).1; have hbf := (bcell hbw).2; go_simp; first | done | with_reducible rfl | fail); simp only [List.setIfInBounds_toArray, List.set_cons_zero, List.set_cons_succ]))); refine wpQuiet_nil ?_; intro wq hbq)
            have c1 := (hbq.cell hg1).trans a1
            have c2 := (hbq.cell hg1).trans a2
            have c3 := (hbq.cell hg2).trans b1
            have c4 := (hbq.cell hg2).trans b2
            have hg3 : g1 < wq.heap.size := Nat.lt_of_lt_of_le hg1 hbq.size
            have hg4 : g2 < wq.heap.size := Nat.lt_of_lt_of_le hg2 hbq.size
            clear a1 a2 b1 b2 hg1 hg2
            go_wp2_with fail
            (refine wp_region_below (by kernel_rfl) (by kernel_rfl) ?_; (repeat (first | go_big_quiet_skip | (refine quietV (v := ?_) (by rfl) rfl (fun w' hbw => ?_) ?_; rotate_left; ((try dsimp only at hbw); have hbc := (bcell hbw).1; have hbf := (bcell hbw).2; go_simp; first | done | with_reducible rfl | exact callsBB (l2Before_s x y p q _) H3.out hbw); simp only [List.setIfInBounds_toArray, List.set_cons_zero, List.set_cons_succ]))); refine wpQuiet_nil ?_; intro wz hbz)
            go_wp2_with fail
            go_ret
            exact ⟨by rw [HV.out]; rfl, bel_trans (bel_trans hb hbq) hbz⟩
          | false =>
            have HV : Hid (cmpS xs ys = 1) := HAT.out.2 (by
              cases h4 : befC (p, q) (x, y) with
              | true => rfl
              | false => exact absurd (befC_sto.tot h3 h4) (fun e => hsame (by injection e with e1 e2; exact ⟨e1, e2⟩)))
            have H3 := Lib.hid h3
            clear h3 hsame
            go_wp2_with fail
            (refine wp_region_below (by kernel_rfl) (by kernel_rfl) ?_; (repeat (first | go_big_quiet_skip | (refine quietV (v := ?_) (by rfl) rfl (fun w' hbw => ?_) ?_; rotate_left; ((try dsimp only at hbw); have hbc := (bcell hbw).1; have hbf := (bcell hbw).2; go_simp; first | done | with_reducible rfl | fail); simp only [List.setIfInBounds_toArray, List.set_cons_zero, List.set_cons_succ]))); refine wpQuiet_nil ?_; intro wq hbq)
            have c1 := (hbq.cell hg1).trans a1
            have c2 := (hbq.cell hg1).trans a2
            have c3 := (hbq.cell hg2).trans b1
            have c4 := (hbq.cell hg2).trans b2
            have hg3 : g1 < wq.heap.size := Nat.lt_of_lt_of_le hg1 hbq.size
            have hg4 : g2 < wq.heap.size := Nat.lt_of_lt_of_le hg2 hbq.size
            clear a1 a2 b1 b2 hg1 hg2
            go_wp2_with fail
            (refine wp_region_below (by kernel_rfl) (by kernel_rfl) ?_; (repeat (first | go_big_quiet_skip | (refine quietV (v := ?_) (by rfl) rfl (fun w' hbw => ?_) ?_; rotate_left; ((try dsimp only at hbw); have hbc := (bcell hbw).1; have hbf := (bcell hbw).2; go_simp; first | done | with_reducible rfl | exact callsBB (l2Before_s x y p q _) H3.out hbw); simp only [List.setIfInBounds_toArray, List.set_cons_zero, List.set_cons_succ]))); refine wpQuiet_nil ?_; intro wz hbz)
            go_wp2_with fail
            go_ret
            exact ⟨by rw [HV.out]; rfl, bel_trans (bel_trans hb hbq) hbz⟩
      · have hkn2 : k = n := by omega
        have HV : Hid (cmpS xs ys = 0) := by
          show cmpS xs ys = 0
          rw [take_eq_all HLL.out (by rw [HL.out]; omega) HT.out]
          exact cmpS_eq _
        subst hkn2
        have hk1 : ¬ (k : Int) < (k : Int) := by omega
        go_wp2
        go_ret
        exact ⟨by rw [HV.out]; rfl, hb⟩
  · have HV : Hid (cmpS xs ys = 1) := cmpS_len2 (by omega)
    have h1 : decide ((n : Int) < (m : Int)) = false := by simp; omega
    have h2 : ((n : Int) != (m : Int)) = true := by rw [bne_iff_ne]; omega
    have h3 : (n : Int) > (m : Int) := by omega
    clear hl hl2
    go_enter Try.func95, Try.ntmps95
    go_wp2
    go_ret
    exact ⟨by rw [HV.out]; rfl, (by (repeat (first | with_reducible exact Below.refl _ _ | with_reducible assumption | with_reducible apply bel_alloc | with_reducible apply bel_drew | with_reducible apply bel_drewN | ((with_reducible refine bel_set ?_ ?_); rotate_left; (simp <;> omega)) | (with_reducible refine bel_trans ?_ (by with_reducible assumption)))))⟩
set_option maxHeartbeats 800000 in
theorem EqualShapes_i (A B : Option Addr) (n c m d : Nat) (xs ys : List C) (w : World) (hr : Rd w A (vC xs)) (hr2 : Rd w B (vC ys)) (hl : xs.length = n) (hl2 : ys.length = m) (hn : n ≤ 1099511627776) (hm : m ≤ 1099511627776) :
    Calls Try.prog 126 #[.slice A n c, .slice B m d] w (Ret w (.bool (decide (xs = ys)))) := by
  by_cases heq : n = m
  · subst heq
    have HLL : Hid (xs.length = ys.length) := hl.trans hl2.symm
    have HL := Lib.hid hl
    have HL2 := Lib.hid hl2
    have h1 : ((n : Int) != (n : Int)) = false := by simp
    clear hl hl2
    go_enter Try.func126, Try.ntmps126
    go_wp2
    go_loopw [13] (fun e5 wr => ∃ k : Nat, k ≤ n ∧ e5 = .int .i64 k ∧ xs.take k = ys.take k ∧ Below w.heap.size w wr) (fun e5 _ => n - (intOf e5).toNat)
    case atStart => exact ⟨0, Nat.zero_le _, rfl, rfl, Below.refl _ _⟩
    case round =>
      obtain ⟨k, hk, rfl, htk, hb⟩ := hrel
      have HT := Lib.hid htk
      clear htk
      by_cases hkn : k < n
      · have hk1 : k < xs.length := by rw [HL.out]; exact hkn
        have hk2 : k < ys.length := by rw [HL2.out]; exact hkn
        have hk0 : (0 : Int) ≤ (k : Int) := by omega
        have hkI : (k : Int) < (n : Int) := by omega
        obtain ⟨g1, o1, rfl, hg1, a1, a2⟩ := RdC.at_ (hr.below hb) hk1
        obtain ⟨g2, o2, rfl, hg2, b1, b2⟩ := RdC.at_ (hr2.below hb) hk2
        obtain ⟨x, hx⟩ : ∃ x, xs[k].1 = x := ⟨_, rfl⟩
        obtain ⟨y, hy⟩ : ∃ y, xs[k].2 = y := ⟨_, rfl⟩
        obtain ⟨p, hp⟩ : ∃ p, ys[k].1 = p := ⟨_, rfl⟩
        obtain ⟨q, hq⟩ : ∃ q, ys[k].2 = q := ⟨_, rfl⟩
        have hxy : xs[k] = (x, y) := Prod.ext hx hy
        have hpq : ys[k] = (p, q) := Prod.ext hp hq
        rw [hx] at a1
        rw [hy] at a2
        rw [hp] at b1
        rw [hq] at b2
        have HST : Hid ((x, y) = (p, q) → xs.take (k + 1) = ys.take (k + 1)) := fun e => take_eq_step hk1 hk2 HT.out (by rw [hxy, hpq, e])
        have HNE : Hid ((x, y) ≠ (p, q) → xs ≠ ys) := fun e h => e (by subst h; rw [← hxy, ← hpq])
        clear hx hy hp hq hxy hpq
        by_cases hsame : x = p ∧ y = q
        · obtain ⟨rfl, rfl⟩ := hsame
          go_wp2_with fail
          (refine wp_region_below (by kernel_rfl) (by kernel_rfl) ?_; (repeat (first | go_big_quiet_skip | (refine quietV (v := ?_) (by rfl) rfl (fun w' hbw => ?_) ?_; rotate_left; ((try dsimp only at hbw); have hbc := (bcell hbw).1; have hbf := (bcell hbw).2; go_simp; first | done | with_reducible rfl | fail); simp only [List.setIfInBounds_toArray, List.set_cons_zero, List.set_cons_succ]))); refine wpQuiet_nil ?_; intro wq hbq)
          go_wp2_with fail
          exact ⟨⟨k + 1, by omega, by go_num, HST.out (by simp), bel_trans hb hbq⟩, by simp [intOf]; omega⟩
        · have hne : (x == p && y == q) = false := by
            rw [Bool.and_eq_false_iff, beq_eq_false_iff_ne, beq_eq_false_iff_ne]
            by_cases h1 : x = p
            · exact .inr fun h2 => hsame ⟨h1, h2⟩
            · exact .inl h1
          have HV : Hid (decide (xs = ys) = false) := decide_eq_false (HNE.out (fun e => hsame (by injection e with e1 e2; exact ⟨e1, e2⟩)))
          clear hsame
          go_wp2_with fail
          (refine wp_region_below (by kernel_rfl) (by kernel_rfl) ?_; (repeat (first | go_big_quiet_skip | (refine quietV (v := ?_) (by rfl) rfl (fun w' hbw => ?_) ?_; rotate_left; ((try dsimp only at hbw); have hbc := (bcell hbw).1; have hbf := (bcell hbw).2; go_simp; first | done | with_reducible rfl | fail); simp only [List.setIfInBounds_toArray, List.set_cons_zero, List.set_cons_succ]))); refine wpQuiet_nil ?_; intro wq hbq)
          go_wp2_with fail
          go_ret
          exact ⟨by rw [HV.out]; rfl, bel_trans hb hbq⟩
      · have hkn2 : k = n := by omega
        have HV : Hid (decide (xs = ys) = true) := decide_eq_true (take_eq_all HLL.out (by rw [HL.out]; omega) HT.out)
        subst hkn2
        have hk1 : ¬ (k : Int) < (k : Int) := by omega
        go_wp2
        go_ret
        exact ⟨by rw [HV.out]; rfl, hb⟩
  · have HV : Hid (decide (xs = ys) = false) := decide_eq_false (fun e => heq (by rw [← hl, ← hl2, e]))
    have h2 : ((n : Int) != (m : Int)) = true := by rw [bne_iff_ne]; omega
    clear hl hl2
    go_enter Try.func126, Try.ntmps126
    go_wp2
    go_ret
    exact ⟨by rw [HV.out]; rfl, (by (repeat (first | with_reducible exact Below.refl _ _ | with_reducible assumption | with_reducible apply bel_alloc | with_reducible apply bel_drew | with_reducible apply bel_drewN | ((with_reducible refine bel_set ?_ ?_); rotate_left; (simp <;> omega)) | (with_reducible refine bel_trans ?_ (by with_reducible assumption)))))⟩
set_option maxHeartbeats 800000 in
theorem EqualShapes_s (A B : Option Addr) (n c m d : Nat) (xs ys : List C) (w : World) (hr : Rd w A (vC xs)) (hr2 : Rd w B (vC ys)) (hl : xs.length = n) (hl2 : ys.length = m) (hn : n ≤ 1099511627776) (hm : m ≤ 1099511627776) :
    Calls Try.prog 28 #[.slice A n c, .slice B m d] w (Ret w (.bool (decide (xs = ys)))) := by
  by_cases heq : n = m
  · subst heq
    have HLL : Hid (xs.length = ys.length) := hl.trans hl2.symm
    have HL := Lib.hid hl
    have HL2 := Lib.hid hl2
    have h1 : ((n : Int) != (n : Int)) = false := by simp
    clear hl hl2
    go_enter Try.func28, Try.ntmps28
    go_wp2
    go_loopw [5] (fun e5 wr => ∃ k : Nat, k ≤ n ∧ e5 = .int .i64 k ∧ xs.take k = ys.take k ∧ Below w.heap.size w wr) (fun e5 _ => n - (intOf e5).toNat)
    case atStart => exact ⟨0, Nat.zero_le _, rfl, rfl, Below.refl _ _⟩
    case round =>
      obtain ⟨k, hk, rfl, htk, hb⟩ := hrel
      have HT := Lib.hid htk
      clear htk
      by_cases hkn : k < n
      · have hk1 : k < xs.length := by rw [HL.out]; exact hkn
        have hk2 : k < ys.length := by rw [HL2.out]; exact hkn
        have hk0 : (0 : Int) ≤ (k : Int) := by omega
        have hkI : (k : Int) < (n : Int) := by omega
        obtain ⟨g1, o1, rfl, hg1, a1, a2⟩ := RdC.at_ (hr.below hb) hk1
        obtain ⟨g2, o2, rfl, hg2, b1, b2⟩ := RdC.at_ (hr2.below hb) hk2
        obtain ⟨x, hx⟩ : ∃ x, xs[k].1 = x := ⟨_, rfl⟩
        obtain ⟨y, hy⟩ : ∃ y, xs[k].2 = y := ⟨_, rfl⟩
        obtain ⟨p, hp⟩ : ∃ p, ys[k].1 = p := ⟨_, rfl⟩
        obtain ⟨q, hq⟩ : ∃ q, ys[k].2 = q := ⟨_, rfl⟩
        have hxy : xs[k] = (x, y) := Prod.ext hx hy
        have hpq : ys[k] = (p, q) := Prod.ext hp hq
        rw [hx] at a1
        rw [hy] at a2
        rw [hp] at b1
        rw [hq] at b2
        have HST : Hid ((x, y) = (p, q) → xs.take (k + 1) = ys.take (k + 1)) := fun e => take_eq_step hk1 hk2 HT.out (by rw [hxy, hpq, e])
        have HNE : Hid ((x, y) ≠ (p, q) → xs ≠ ys) := fun e h => e (by subst h; rw [← hxy, ← hpq])
        clear hx hy hp hq hxy hpq
        by_cases hsame : x = p ∧ y = q
        · obtain ⟨rfl, rfl⟩ := hsame
          go_wp2_with fail
          (refine wp_region_below (by kernel_rfl) (by kernel_rfl) ?_; (repeat (first | go_big_quiet_skip | (refine quietV (v := ?_) (by rfl) rfl (fun w' hbw => ?_) ?_; rotate_left; ((try dsimp only at hbw); have hbc := (bcell hbw).1; have hbf := (bcell hbw).2; go_simp; first | done | with_reducible rfl | fail); simp only [List.setIfInBounds_toArray, List.set_cons_zero, List.set_cons_succ]))); refine wpQuiet_nil ?_; intro wq hbq)
          go_wp2_with fail
          exact ⟨⟨k + 1, by omega, by go_num, HST.out (by simp), bel_trans hb hbq⟩, by simp [intOf]; omega⟩
        · have hne : (x == p && y == q) = false := by
            rw [Bool.and_eq_false_iff, beq_eq_false_iff_ne, beq_eq_false_iff_ne]
            by_cases h1 : x = p
            · exact .inr fun h2 => hsame ⟨h1, h2⟩
            · exact .inl h1
          have HV : Hid (decide (xs = ys) = false) := decide_eq_false (HNE.out (fun e => hsame (by injection e with e1 e2; exact ⟨e1, e2⟩)))
          clear hsame
          go_wp2_with fail
          (refine wp_region_below (by kernel_rfl) (by kernel_rfl) ?_; (repeat (first | go_big_quiet_skip | (refine quietV (v := ?_) (by rfl) rfl (fun w' hbw => ?_) ?_; rotate_left; ((try dsimp only at hbw); have hbc := (bcell hbw).1; have hbf := (bcell hbw).2; go_simp; first | done | with_reducible rfl | fail); simp only [List.setIfInBounds_toArray, List.set_cons_zero, List.set_cons_succ]))); refine wpQuiet_nil ?_; intro wq hbq)
          go_wp2_with fail
          go_ret
          exact ⟨by rw [HV.out]; rfl, bel_trans hb hbq⟩
      · have hkn2 : k = n := by omega
        have HV : Hid (decide (xs = ys) = true) := decide_eq_true (take_eq_all HLL.out (by rw [HL.out]; omega) HT.out)
        subst hkn2
        have hk1 : ¬ (k : Int) < (k : Int) := by omega
        go_wp2
        go_ret
        exact ⟨by rw [HV.out]; rfl, hb⟩
  · have HV : Hid (decide (xs = ys) = false) := decide_eq_false (fun e => heq (by rw [← hl, ← hl2, e]))
    have h2 : ((n : Int) != (m : Int)) = true := by rw [bne_iff_ne]; omega
    clear hl hl2
    go_enter Try.func28, Try.ntmps28
    go_wp2
    go_ret
    exact ⟨by rw [HV.out]; rfl, (by (repeat (first | with_reducible exact Below.refl _ _ | with_reducible assumption | with_reducible apply bel_alloc | with_reducible apply bel_drew | with_reducible apply bel_drewN | ((with_reducible refine bel_set ?_ ?_); rotate_left; (simp <;> omega)) | (with_reducible refine bel_trans ?_ (by with_reducible assumption)))))⟩
end Go.Proofs.Ytagkopemcabkpaa

/- A shape put into an ordered list, once: the reference. -/
namespace Go.Proofs.Ytagkopemcabkpaa
open Go.RowKit
set_option linter.unusedVariables false
attribute [local go_sem ↓] Go.wp_at_zero Go.wp_at_succ

theorem infoF2 : (Try.prog.info? 30).map (fun i => (i.zero, i.size, i.bytes)) = some (some (.slice none 0 0), 1, 24) := by kernel_rfl
def offF2 (c k : Nat) : Nat := if c = k then 0 else k
theorem run_uptoF (w : World) (g m c k : Nat) (hk : k ≤ c) : (Instr.slice 46 (.slice (some ⟨g, 0, none⟩) m c) none (some (.int .i64 (k : Int))) none).run Try.prog w = .ok (.slice (some ⟨g, 0, none⟩) k c) w := by
  have h2 : (k : Int) ≤ (c : Int) := by omega
  simp [go_sem, h2]
theorem run_fromF2 (w : World) (g m c k : Nat) (hk : k ≤ m) : (Instr.slice 46 (.slice (some ⟨g, 0, none⟩) m c) (some (.int .i64 (k : Int))) none none).run Try.prog w = .ok (.slice (some ⟨g, offF2 c k, none⟩) (m - k) (c - k)) w := by
  have h1 : (0 : Int) ≤ (k : Int) := by omega
  have h2 : (k : Int) ≤ (m : Int) := by omega
  unfold offF2
  by_cases hc : c = k
  · subst hc
    simp [go_sem, h2]
  · simp [go_sem, h2, hc]
theorem Rd.fromF {w : World} {g c k m : Nat} {l : List H} (h : Rd w (some ⟨g, 0, none⟩) (vS l)) (hl : l.length = m) (hmc : m ≤ c) : Rd w (some ⟨g, offF2 c k, none⟩) (vS (l.drop k)) := by
  have h2 := Rd.drop h k c (by rw [vS_length]; omega)
  rw [show vS (l.drop k) = (vS l).drop k from by simp [vS]]
  unfold offF2
  split
  · next e => rw [if_pos e] at h2; exact h2
  · next e =>
    rw [if_neg e] at h2
    have e2 : (some ⟨g, 0, none⟩ : Option Addr).map (·.add k) = some ⟨g, k, none⟩ := by simp only [Option.map_some]; unfold Addr.add; split <;> simp_all
    rw [e2] at h2
    exact h2
theorem ins_rows2 {α β : Type} {hs : List α} {F : List β} {k : Nat} (hl : hs.length = F.length) (hk : k ≤ F.length) {x0 : α} {f : β} (i : Nat) (x : α) (y : β) (h1 : (hs.take k ++ [x0] ++ hs.drop k)[i]? = some x) (h2 : (F.take k ++ [f] ++ F.drop k)[i]? = some y) :
    (∃ j : Nat, hs[j]? = some x ∧ F[j]? = some y) ∨ (x = x0 ∧ y = f) := by
  have e1 : (hs.take k).length = k := by rw [List.length_take]; omega
  have e2 : (F.take k).length = k := by rw [List.length_take]; omega
  rw [List.append_assoc] at h1 h2
  rcases Nat.lt_trichotomy i k with h | h | h
  · rw [List.getElem?_append_left (by omega), List.getElem?_take_of_lt h] at h1 h2
    exact .inl ⟨i, h1, h2⟩
  · subst h
    rw [List.getElem?_append_right (by omega), e1, Nat.sub_self] at h1
    rw [List.getElem?_append_right (by omega), e2, Nat.sub_self] at h2
    simp at h1 h2
    exact .inr ⟨h1.symm, h2.symm⟩
  · obtain ⟨j, rfl⟩ : ∃ j, i = k + 1 + j := ⟨i - (k + 1), by omega⟩
    rw [List.getElem?_append_right (by omega), e1, show k + 1 + j - k = j + 1 from by omega] at h1
    rw [List.getElem?_append_right (by omega), e2, show k + 1 + j - k = j + 1 from by omega] at h2
    simp only [List.singleton_append, List.getElem?_cons_succ, List.getElem?_drop] at h1 h2
    exact .inl ⟨_, h1, h2⟩
theorem cmpS_lt (s t : List C) : decide (cmpS s t < 0) = ltS s t := by
  have := cmpS_neg s t
  cases h : ltS s t with
  | true =>
    unfold cmpS
    rw [h]
    rfl
  | false =>
    unfold cmpS
    rw [h]
    simp only [Bool.false_eq_true, if_false]
    split <;> rfl
/-- The list with the shape put in: nothing that was there has turned. -/
def PutS (base : Nat) (w : World) (F : List (List C)) (e : Ending) (w' : World) : Prop :=
  ∃ g n c hs, e = .returned (.slice (some ⟨g, 0, none⟩) n c) ∧ OwnF base w' (some ⟨g, 0, none⟩) n c hs F ∧ Below w.heap.size w w'
set_option maxRecDepth 100000 in
set_option maxHeartbeats 3200000 in
theorem l3Put_s (g m cp : Nat) (hs : List H) (F : List (List C)) (B : Option Addr) (mb d : Nat) (f : List C) (base : Nat) (w : World) (ho : OwnF base w (some ⟨g, 0, none⟩) m cp hs F) (hf : CRow w (B, mb, d) f)
    (hl : ∀ x ∈ F, x.length ≤ 1048576) (hmb : mb ≤ 1048576) (hm : m ≤ 1073741824) (hb0 : base ≤ w.heap.size) :
    Calls Try.prog 72 #[.slice (some ⟨g, 0, none⟩) m cp, .slice B mb d] w (PutS base w (putG ltS F f)) := by
  have hmc : m ≤ cp ∧ cp ≤ 9223372036854775807 := by
    rcases ho.own.2 with ⟨h, _⟩ | ⟨g', cap, cur, hv, _, _, h1, h2, _⟩
    · cases h
    · injection hv with _ _ h3
      unfold maxLen at h2
      omega
  obtain ⟨hmc1, hmc2⟩ := hmc
  have hcm : cutG ltS F f F.length = cutG ltS F f m := by rw [ho.flen]
  have HIN : Hid (∀ k', cutG ltS F f m = k' → ¬ (0 < k' ∧ F.getD (k' - 1) default = f) → putG ltS F f = F.take k' ++ [f] ++ F.drop k') := fun k' h1 h2 => putG_new (hcm.trans h1) h2
  have HSM : Hid (∀ k', cutG ltS F f m = k' → 0 < k' → F.getD (k' - 1) default = f → putG ltS F f = F) := fun k' h1 h2 h3 => putG_same (hcm.trans h1) h2 h3
  have HO := Lib.hid ho
  have HF := Lib.hid hf
  have HL := Lib.hid hl
  have HFL := Lib.hid ho.flen
  clear ho hf hl hcm
  go_enter Try.func72, Try.ntmps72
  go_wp2
  go_loopw [5] (fun e5 wr => ∃ k : Nat, k ≤ m ∧ e5 = .int .i64 k ∧ cutG ltS F f m = cutG ltS F f k ∧ Below w.heap.size w wr) (fun e5 _ => (intOf e5).toNat)
  case atStart => exact ⟨m, Nat.le_refl _, rfl, rfl, Below.refl _ _⟩
  case round =>
    obtain ⟨k, hk, rfl, hcut, hb⟩ := hrel
    have HCUT := Lib.hid hcut
    clear hcut
    by_cases hk0 : 0 < k
    · obtain ⟨j, hjk⟩ : ∃ j, k = j + 1 := ⟨k - 1, by omega⟩
      obtain ⟨x, t, g', off, hsx, hfx, he, hg, c1, hrow⟩ := (HO.out.below hb).rd.at_ (show j < m by omega)
      simp only [Option.some.injEq, Addr.mk.injEq, and_true] at he
      obtain ⟨rfl, rfl⟩ := he
      rw [Nat.zero_add] at c1
      have hgd : F.getD j default = t := by rw [List.getD_eq_getElem?_getD, hfx]; rfl
      have htl := HL.out t (List.mem_of_getElem? hfx)
      obtain ⟨C1, m1, k1⟩ := x
      have h1 : t.length = m1 := hrow.1
      have H1 := Lib.hid h1
      have HR := Lib.hid hrow
      have hm1 : m1 ≤ 1048576 := by omega
      have HG := Lib.hid hgd
      have hj1 : (k : Int) - 1 = (j : Int) := by omega
      have hj0 : (0 : Int) ≤ (j : Int) := by omega
      have hjw : IntKind.i64.wrap (j : Int) = (j : Int) := Go.IntWalk.i64_in _ (by omega)
      have hjm : (j : Int) < (m : Int) := by omega
      have hkp : (k : Int) > 0 := by omega
      have HJ := Lib.hid hjk
      dsimp only at c1
      clear hgd hsx hfx hrow h1 htl hjk
      cases hlt : ltS f t with
      | true =>
        have HN : Hid (cutG ltS F f m = cutG ltS F f j) := by show _ = _; rw [HCUT.out, HJ.out]; show (if ltS f (F.getD j default) = true then _ else _) = _; rw [HG.out, if_pos hlt]
        have hcl := cmpS_lt f t
        obtain ⟨v, hv⟩ : ∃ v, cmpS f t = v := ⟨_, rfl⟩
        rw [hv, hlt] at hcl
        have hvl : v < 0 := by simpa using hcl
        have HV := Lib.hid hv
        clear hv hlt hcl
        go_wp2_with fail
        refine (CompareShapes_s B C1 mb d m1 k1 f t _ (HF.out.below hb).2.1 HR.out.2.1 HF.out.1 H1.out (by omega) (by omega)).mono ?_
        rw [HV.out]
        rintro e w1 ⟨rfl, hb1⟩
        go_wp2_with fail
        exact ⟨⟨j, by omega, rfl, HN.out, bel_trans hb hb1⟩, by simp [intOf]; have := HJ.out; omega⟩
      | false =>
        have HN : Hid (cutG ltS F f m = k) := by show _ = _; rw [HCUT.out, HJ.out]; show (if ltS f (F.getD j default) = true then _ else _) = _; rw [HG.out, if_neg (by rw [hlt]; simp)]
        have hcl := cmpS_lt f t
        obtain ⟨v, hv⟩ : ∃ v, cmpS f t = v := ⟨_, rfl⟩
        rw [hv, hlt] at hcl
        have hvl : ¬ v < 0 := by simpa using hcl
        have HVV := Lib.hid hv
        clear hv hlt
        by_cases htf : t = f
        · have HV := Lib.hid (HSM.out k HN.out hk0 (by rw [show k - 1 = j from by have := HJ.out; omega, HG.out, htf]))
          have HD : Hid (decide (t = f) = true) := decide_eq_true htf
          clear htf
          go_wp2_with fail
          refine (CompareShapes_s B C1 mb d m1 k1 f t _ (HF.out.below hb).2.1 HR.out.2.1 HF.out.1 H1.out (by omega) (by omega)).mono ?_
          rw [HVV.out]
          rintro e w1 ⟨rfl, hb1⟩
          have c2 := (hb1.cell hg).trans c1
          have hg2 : g < w1.heap.size := Nat.lt_of_lt_of_le hg hb1.size
          clear c1
          go_wp2_with fail
          refine (EqualShapes_s C1 B m1 k1 mb d t f _ (HR.out.below hb1).2.1 ((HF.out.below hb).below hb1).2.1 H1.out HF.out.1 (by omega) (by omega)).mono ?_
          rw [HD.out]
          rintro e w2 ⟨rfl, hb2⟩
          go_wp2_with fail
          go_ret
          exact ⟨g, m, cp, hs, rfl, by rw [HV.out]; exact HO.out.below (bel_trans hb (bel_trans hb1 hb2)), bel_trans hb (bel_trans hb1 hb2)⟩
        · have HV := Lib.hid (HIN.out k HN.out (fun h => htf (by have := h.2; rw [show k - 1 = j from by have := HJ.out; omega, HG.out] at this; exact this)))
          have HD : Hid (decide (t = f) = false) := decide_eq_false htf
          clear htf
          go_wp2_with fail
          refine (CompareShapes_s B C1 mb d m1 k1 f t _ (HF.out.below hb).2.1 HR.out.2.1 HF.out.1 H1.out (by omega) (by omega)).mono ?_
          rw [HVV.out]
          rintro e w1 ⟨rfl, hb1⟩
          have c2 := (hb1.cell hg).trans c1
          have hg2 : g < w1.heap.size := Nat.lt_of_lt_of_le hg hb1.size
          clear c1
          go_wp2_with fail
          refine (EqualShapes_s C1 B m1 k1 mb d t f _ (HR.out.below hb1).2.1 ((HF.out.below hb).below hb1).2.1 H1.out HF.out.1 (by omega) (by omega)).mono ?_
          rw [HD.out]
          rintro e w2 ⟨rfl, hb2⟩
          have hbb : Below w.heap.size w w2 := bel_trans hb (bel_trans hb1 hb2)
          clear c2
          obtain ⟨i0, hi, hz0, hz1, hz2⟩ := info_parts infoF2
          have hs1 : ∀ w', (Instr.slice 46 (.slice (some ⟨g, 0, none⟩) m cp) none (some (.int .i64 (k : Int))) none).run Try.prog w' = .ok (.slice (some ⟨g, 0, none⟩) k cp) w' := fun w' => run_uptoF w' g m cp k (by omega)
          have hs2 : ∀ w', (Instr.slice 46 (.slice (some ⟨g, 0, none⟩) m cp) (some (.int .i64 (k : Int))) none none).run Try.prog w' = .ok (.slice (some ⟨g, offF2 cp k, none⟩) (m - k) (cp - k)) w' := fun w' => run_fromF2 w' g m cp k (by omega)
          have R2 : Hid (Rd w2 (some ⟨g, offF2 cp k, none⟩) (vS (hs.drop k))) := Rd.fromF (Rd.of_own (HO.out.below hbb).own) (HO.out.hlen) (by omega)
          have R1 : Hid (Rd w2 (some ⟨g, 0, none⟩) (vS (hs.take k))) := by
            show Rd _ _ _
            rw [show vS (hs.take k) = (vS hs).take k from by simp [vS]]
            exact Rd.take (Rd.of_own (HO.out.below hbb).own) _
          have L1 : Hid ((hs.take k).length = k) := by show (hs.take k).length = k; rw [List.length_take, HO.out.hlen]; omega
          have L2 : Hid ((hs.drop k).length = m - k) := by show (hs.drop k).length = m - k; rw [List.length_drop, HO.out.hlen]
          have HB := Lib.hid hbb
          have HI := Lib.hid hi
          have HZ0 := Lib.hid hz0
          have HZ1 := Lib.hid hz1
          have HZ2 := Lib.hid hz2
          clear hi hz0 hz1 hz2
          go_wp2_with fail
          refine wp_region_rg 13 rfl (by kernel_rfl) ?_
          (refine rgT (i := 1) (v := ?_) rfl rfl (by kernel_rfl) (by kernel_rfl) (by kernel_rfl) (by rfl) (fun w' hcw => ?_) ?_; rotate_left; ((try dsimp only at hcw); have hbc := hcw.cells; go_simp; first | done | with_reducible rfl); simp only [List.setIfInBounds_toArray, List.set_cons_zero, List.set_cons_succ])
          (refine rgT (i := 2) (v := ?_) rfl rfl (by kernel_rfl) (by kernel_rfl) (by kernel_rfl) (by rfl) (fun w' hcw => ?_) ?_; rotate_left; ((try dsimp only at hcw); have hbc := hcw.cells; go_simp; first | done | with_reducible rfl); simp only [List.setIfInBounds_toArray, List.set_cons_zero, List.set_cons_succ])
          (refine rgT (i := 3) (v := ?_) rfl rfl (by kernel_rfl) (by kernel_rfl) (by kernel_rfl) (by rfl) (fun w' hcw => ?_) ?_; rotate_left; ((try dsimp only at hcw); have hbc := hcw.cells; go_simp; first | done | with_reducible rfl); simp only [List.setIfInBounds_toArray, List.set_cons_zero, List.set_cons_succ])
          (refine rgT (i := 5) (v := ?_) rfl rfl (by kernel_rfl) (by kernel_rfl) (by kernel_rfl) (by rfl) (fun w' hcw => ?_) ?_; rotate_left; ((try dsimp only at hcw); have hbc := hcw.cells; go_simp; first | done | with_reducible rfl); simp only [List.setIfInBounds_toArray, List.set_cons_zero, List.set_cons_succ])
          (refine rgT (i := 8) (v := ?_) rfl rfl (by kernel_rfl) (by kernel_rfl) (by kernel_rfl) (by rfl) (fun w' hcw => ?_) ?_; rotate_left; ((try dsimp only at hcw); have hbc := hcw.cells; go_simp; first | done | with_reducible rfl); simp only [List.setIfInBounds_toArray, List.set_cons_zero, List.set_cons_succ])
          (refine rgT (i := 9) (v := ?_) rfl rfl (by kernel_rfl) (by kernel_rfl) (by kernel_rfl) (by rfl) (fun w' hcw => ?_) ?_; rotate_left; ((try dsimp only at hcw); have hbc := hcw.cells; go_simp; first | done | with_reducible rfl); simp only [List.setIfInBounds_toArray, List.set_cons_zero, List.set_cons_succ])
          (refine rgT (i := 10) (v := ?_) rfl rfl (by kernel_rfl) (by kernel_rfl) (by kernel_rfl) (by rfl) (fun w' hcw => ?_) ?_; rotate_left; ((try dsimp only at hcw); have hbc := hcw.cells; go_simp; first | done | with_reducible rfl); simp only [List.setIfInBounds_toArray, List.set_cons_zero, List.set_cons_succ])
          refine ins_tail (T := 46) (e := 30) (i := i0) (z := .slice none 0 0) (size := 1) (bytes := 24) (i0 := 0) (iA := 4) (iN := 6) (iB := 7) (iD := 11) (iE := 12) (s0 := 34) (sA := 38) (sN := 40) (sB := 41) (sD := 45) (dE := 4) (t1 := 37) (t2 := 44) (xn := .tmp 39) (vn := .slice B mb d) (news := vS [(B, mb, d)]) (vs1 := vS (hs.take k)) (vs2 := vS (hs.drop k)) (A1 := some ⟨g, 0, none⟩) (m1 := k) (c1 := cp) (A2 := some ⟨g, offF2 cp k, none⟩) (m2 := m - k) (c2 := cp - k) _ ?ht ?hi ?hz ?h1 ?h2 rfl (by omega) ⟨⟨_, rfl, rfl, rfl, fun a w => ?p0⟩, ⟨_, rfl, rfl, rfl, rfl⟩, ⟨_, rfl, rfl, rfl, fun a w h => ?pN⟩, ⟨_, rfl, rfl, rfl, rfl⟩, ⟨_, rfl, rfl, rfl, rfl⟩, ⟨_, rfl, rfl, rfl, rfl⟩⟩ ⟨by simp, by decide, by decide, by decide⟩ (fun a h => (h.eval (by decide)).trans rfl) (by kernel_rfl) (by kernel_rfl) (by kernel_rfl) (by kernel_rfl) (by kernel_rfl) (by decide) (by decide) (by kernel_rfl) (by kernel_rfl) (by kernel_rfl) (by kernel_rfl) rfl ?q1 ?l1 ?o1 rfl ?q2 ?l2 ?o2 ?ln ?on ?hm ?hb ?hQ
          case ht => exact Try.underlying46
          case hi => exact HI.out
          case hz => exact HZ0.out
          case h1 => exact HZ1.out
          case h2 => exact HZ2.out
          case p0 => simp [go_sem, execOp]
          case pN => (generalize Act.eval a = ρ at h ⊢; simp [go_sem, execOp, h, vS, hd])
          case q1 => exact R1.out
          case l1 => rw [vS_length, L1.out] <;> omega
          case o1 => exact vS_one _
          case q2 => exact R2.out
          case l2 => rw [vS_length, L2.out] <;> omega
          case o2 => exact vS_one _
          case ln => rfl
          case on => exact vS_one _
          case hm => omega
          case hb => omega
          case hQ =>
            intro a' w' A' c' hfr hev how hex
            obtain ⟨v0, vA, vN, vB, vD, rfl⟩ := hfr.form hev
            rw [← vS_append, ← vS_append] at how
            obtain ⟨g', rfl, _, _⟩ := own_at how (by omega)
            have HOW := Lib.hid (own_base (base' := base) how (Nat.le_trans hb0 HB.out.size))
            clear how hev hfr
            refine NoPanic.normal ?_
            simp only [List.setIfInBounds_toArray, List.set_cons_zero, List.set_cons_succ]
            go_wp2
            go_ret
            refine ⟨g', k + 1 + (m - k), c', hs.take k ++ [(B, mb, d)] ++ hs.drop k, rfl, ⟨HOW.out, ?_, ?_⟩, bel_trans HB.out hex⟩
            · rw [HV.out]; simp only [List.length_append, List.length_take, List.length_drop, List.length_cons, List.length_nil, HFL.out]; omega
            · intro i x t h1 h2
              rw [HV.out] at h2
              rcases ins_rows2 (by rw [HO.out.hlen, HFL.out]) (by rw [HFL.out]; exact hk) i x t h1 h2 with ⟨j, h3, h4⟩ | ⟨h3, h4⟩
              · exact ((HO.out.row j x t h3 h4).below HB.out).below hex
              · subst h3 h4
                exact (HF.out.below HB.out).below hex
    · obtain rfl : k = 0 := by omega
      have HN : Hid (cutG ltS F f m = 0) := HCUT.out
      have HV := Lib.hid (HIN.out 0 HN.out (fun h => absurd h.1 (by omega)))
      obtain ⟨k, hkz⟩ : ∃ k : Nat, 0 = k := ⟨0, rfl⟩
      have hkp : ¬ 0 < k := by omega
      have hkp2 : decide (0 < k) = false := by simp; omega
      have HKZ := Lib.hid hkz
      rw [hkz] at HV hk
      rw [show ((0 : Nat) : Int) = (k : Int) from by rw [hkz]]
      clear hkz hk0
      obtain ⟨i0, hi, hz0, hz1, hz2⟩ := info_parts infoF2
      have hs1 : ∀ w', (Instr.slice 46 (.slice (some ⟨g, 0, none⟩) m cp) none (some (.int .i64 (k : Int))) none).run Try.prog w' = .ok (.slice (some ⟨g, 0, none⟩) k cp) w' := fun w' => run_uptoF w' g m cp k (by omega)
      have hs2 : ∀ w', (Instr.slice 46 (.slice (some ⟨g, 0, none⟩) m cp) (some (.int .i64 (k : Int))) none none).run Try.prog w' = .ok (.slice (some ⟨g, offF2 cp k, none⟩) (m - k) (cp - k)) w' := fun w' => run_fromF2 w' g m cp k (by omega)
      have R2 : Hid (Rd wr (some ⟨g, offF2 cp k, none⟩) (vS (hs.drop k))) := Rd.fromF (Rd.of_own (HO.out.below hb).own) (HO.out.hlen) (by omega)
      have R1 : Hid (Rd wr (some ⟨g, 0, none⟩) (vS (hs.take k))) := by
        show Rd _ _ _
        rw [show vS (hs.take k) = (vS hs).take k from by simp [vS]]
        exact Rd.take (Rd.of_own (HO.out.below hb).own) _
      have L1 : Hid ((hs.take k).length = k) := by show (hs.take k).length = k; rw [List.length_take, HO.out.hlen]; omega
      have L2 : Hid ((hs.drop k).length = m - k) := by show (hs.drop k).length = m - k; rw [List.length_drop, HO.out.hlen]
      have HB := Lib.hid hb
      have HI := Lib.hid hi
      have HZ0 := Lib.hid hz0
      have HZ1 := Lib.hid hz1
      have HZ2 := Lib.hid hz2
      clear hi hz0 hz1 hz2
      go_wp2_with fail
      refine wp_region_rg 13 rfl (by kernel_rfl) ?_
      (refine rgT (i := 1) (v := ?_) rfl rfl (by kernel_rfl) (by kernel_rfl) (by kernel_rfl) (by rfl) (fun w' hcw => ?_) ?_; rotate_left; ((try dsimp only at hcw); have hbc := hcw.cells; go_simp; first | done | with_reducible rfl); simp only [List.setIfInBounds_toArray, List.set_cons_zero, List.set_cons_succ])
      (refine rgT (i := 2) (v := ?_) rfl rfl (by kernel_rfl) (by kernel_rfl) (by kernel_rfl) (by rfl) (fun w' hcw => ?_) ?_; rotate_left; ((try dsimp only at hcw); have hbc := hcw.cells; go_simp; first | done | with_reducible rfl); simp only [List.setIfInBounds_toArray, List.set_cons_zero, List.set_cons_succ])
      (refine rgT (i := 3) (v := ?_) rfl rfl (by kernel_rfl) (by kernel_rfl) (by kernel_rfl) (by rfl) (fun w' hcw => ?_) ?_; rotate_left; ((try dsimp only at hcw); have hbc := hcw.cells; go_simp; first | done | with_reducible rfl); simp only [List.setIfInBounds_toArray, List.set_cons_zero, List.set_cons_succ])
      (refine rgT (i := 5) (v := ?_) rfl rfl (by kernel_rfl) (by kernel_rfl) (by kernel_rfl) (by rfl) (fun w' hcw => ?_) ?_; rotate_left; ((try dsimp only at hcw); have hbc := hcw.cells; go_simp; first | done | with_reducible rfl); simp only [List.setIfInBounds_toArray, List.set_cons_zero, List.set_cons_succ])
      (refine rgT (i := 8) (v := ?_) rfl rfl (by kernel_rfl) (by kernel_rfl) (by kernel_rfl) (by rfl) (fun w' hcw => ?_) ?_; rotate_left; ((try dsimp only at hcw); have hbc := hcw.cells; go_simp; first | done | with_reducible rfl); simp only [List.setIfInBounds_toArray, List.set_cons_zero, List.set_cons_succ])
      (refine rgT (i := 9) (v := ?_) rfl rfl (by kernel_rfl) (by kernel_rfl) (by kernel_rfl) (by rfl) (fun w' hcw => ?_) ?_; rotate_left; ((try dsimp only at hcw); have hbc := hcw.cells; go_simp; first | done | with_reducible rfl); simp only [List.setIfInBounds_toArray, List.set_cons_zero, List.set_cons_succ])
      (refine rgT (i := 10) (v := ?_) rfl rfl (by kernel_rfl) (by kernel_rfl) (by kernel_rfl) (by rfl) (fun w' hcw => ?_) ?_; rotate_left; ((try dsimp only at hcw); have hbc := hcw.cells; go_simp; first | done | with_reducible rfl); simp only [List.setIfInBounds_toArray, List.set_cons_zero, List.set_cons_succ])
      refine ins_tail (T := 46) (e := 30) (i := i0) (z := .slice none 0 0) (size := 1) (bytes := 24) (i0 := 0) (iA := 4) (iN := 6) (iB := 7) (iD := 11) (iE := 12) (s0 := 34) (sA := 38) (sN := 40) (sB := 41) (sD := 45) (dE := 4) (t1 := 37) (t2 := 44) (xn := .tmp 39) (vn := .slice B mb d) (news := vS [(B, mb, d)]) (vs1 := vS (hs.take k)) (vs2 := vS (hs.drop k)) (A1 := some ⟨g, 0, none⟩) (m1 := k) (c1 := cp) (A2 := some ⟨g, offF2 cp k, none⟩) (m2 := m - k) (c2 := cp - k) _ ?ht ?hi ?hz ?h1 ?h2 rfl (by omega) ⟨⟨_, rfl, rfl, rfl, fun a w => ?p0⟩, ⟨_, rfl, rfl, rfl, rfl⟩, ⟨_, rfl, rfl, rfl, fun a w h => ?pN⟩, ⟨_, rfl, rfl, rfl, rfl⟩, ⟨_, rfl, rfl, rfl, rfl⟩, ⟨_, rfl, rfl, rfl, rfl⟩⟩ ⟨by simp, by decide, by decide, by decide⟩ (fun a h => (h.eval (by decide)).trans rfl) (by kernel_rfl) (by kernel_rfl) (by kernel_rfl) (by kernel_rfl) (by kernel_rfl) (by decide) (by decide) (by kernel_rfl) (by kernel_rfl) (by kernel_rfl) (by kernel_rfl) rfl ?q1 ?l1 ?o1 rfl ?q2 ?l2 ?o2 ?ln ?on ?hm ?hb ?hQ
      case ht => exact Try.underlying46
      case hi => exact HI.out
      case hz => exact HZ0.out
      case h1 => exact HZ1.out
      case h2 => exact HZ2.out
      case p0 => simp [go_sem, execOp]
      case pN => (generalize Act.eval a = ρ at h ⊢; simp [go_sem, execOp, h, vS, hd])
      case q1 => exact R1.out
      case l1 => rw [vS_length, L1.out] <;> omega
      case o1 => exact vS_one _
      case q2 => exact R2.out
      case l2 => rw [vS_length, L2.out] <;> omega
      case o2 => exact vS_one _
      case ln => rfl
      case on => exact vS_one _
      case hm => omega
      case hb => omega
      case hQ =>
        intro a' w' A' c' hfr hev how hex
        obtain ⟨v0, vA, vN, vB, vD, rfl⟩ := hfr.form hev
        rw [← vS_append, ← vS_append] at how
        obtain ⟨g', rfl, _, _⟩ := own_at how (by omega)
        have HOW := Lib.hid (own_base (base' := base) how (Nat.le_trans hb0 HB.out.size))
        clear how hev hfr
        refine NoPanic.normal ?_
        simp only [List.setIfInBounds_toArray, List.set_cons_zero, List.set_cons_succ]
        go_wp2
        go_ret
        refine ⟨g', k + 1 + (m - k), c', hs.take k ++ [(B, mb, d)] ++ hs.drop k, rfl, ⟨HOW.out, ?_, ?_⟩, bel_trans HB.out hex⟩
        · rw [HV.out]; simp only [List.length_append, List.length_take, List.length_drop, List.length_cons, List.length_nil, HFL.out]; omega
        · intro i x t h1 h2
          rw [HV.out] at h2
          rcases ins_rows2 (by rw [HO.out.hlen, HFL.out]) (by rw [HFL.out]; exact hk) i x t h1 h2 with ⟨j, h3, h4⟩ | ⟨h3, h4⟩
          · exact ((HO.out.row j x t h3 h4).below HB.out).below hex
          · subst h3 h4
            exact (HF.out.below HB.out).below hex
end Go.Proofs.Ytagkopemcabkpaa

/- Cells and shapes turned, the orientations of a shape: the reference. -/
namespace Go.Proofs.Ytagkopemcabkpaa
open Go.RowKit
set_option linter.unusedVariables false
attribute [local go_sem ↓] Go.wp_at_zero Go.wp_at_succ

set_option maxHeartbeats 1600000 in
theorem l3Apply_s (x y : Int) (m : Nat) (w : World) (hq : in7 1000 (x, y)) (hm : m < 8) :
    Calls Try.prog 85 #[.agg #[.int .i64 x, .int .i64 y], .int .i64 (m : Int)] w (Ret w (.agg #[.int .i64 (motC m (x, y)).1, .int .i64 (motC m (x, y)).2])) := by
  obtain ⟨r, hr⟩ : ∃ r, m % 4 = r := ⟨_, rfl⟩
  have hr4 : r < 4 := by omega
  have hmr : (m : Int) % 4 = (r : Int) := by omega
  have hm0 : (0 : Int) ≤ (m : Int) := by omega
  have hm7 : (m : Int) ≤ 7 := by omega
  obtain ⟨⟨h1, h2⟩, h3, h4⟩ := id hq
  simp only at h1 h2 h3 h4
  have HOK := Lib.hid (in7_flip hq m)
  have HC : Hid (motC m (x, y) = rotC r (flipC m (x, y))) := by show motC m (x, y) = _; unfold motC; rw [hr]
  have ex : IntKind.i64.wrap (-x) = -x := Go.IntWalk.i64_in _ (by omega)
  clear hr hq
  by_cases h4m : 4 ≤ m
  · have HST : Hid (rotC 0 (flipC m (x, y)) = (-x, y)) := by show flipC m (x, y) = _; unfold flipC; rw [if_pos h4m]
    have h4i : (m : Int) ≥ 4 := by omega
    go_enter Try.func85, Try.ntmps85
    go_wp2
    go_loopw [5] (fun e13 wr => ∃ (j : Nat) (x' y' : Int), j ≤ r ∧ e13 = .int .i64 j ∧ rotC j (flipC m (x, y)) = (x', y') ∧ Blk wr w.heap.size 55 #[.int .i64 x', .int .i64 y'] ∧ Blk wr (w.heap.size + 1) 55 #[.int .i64 0, .int .i64 0] ∧ Below w.heap.size w wr) (fun e13 _ => r - (intOf e13).toNat)
    case atStart =>
      have hb1 : Blk ((w.alloc (.cells #[.int .i64 (-x), .int .i64 y] 55)).alloc (.cells #[.int .i64 0, .int .i64 0] 55)) w.heap.size 55 #[.int .i64 (-x), .int .i64 y] := (Blk.new w 55 #[.int .i64 (-x), .int .i64 y]).alloc _
      have hb2 : Blk ((w.alloc (.cells #[.int .i64 (-x), .int .i64 y] 55)).alloc (.cells #[.int .i64 0, .int .i64 0] 55)) (w.heap.size + 1) 55 #[.int .i64 0, .int .i64 0] := by
        have h := Blk.new (w.alloc (.cells #[.int .i64 (-x), .int .i64 y] 55)) 55 #[.int .i64 0, .int .i64 0]
        rw [show (w.alloc (.cells #[.int .i64 (-x), .int .i64 y] 55)).heap.size = w.heap.size + 1 from by simp] at h
        exact h
      exact ⟨0, (-x), y, Nat.zero_le _, rfl, HST.out, hb1, hb2, (by (repeat (first | with_reducible exact Below.refl _ _ | with_reducible assumption | with_reducible apply bel_alloc | with_reducible apply bel_drew | with_reducible apply bel_drewN | ((with_reducible refine bel_set ?_ ?_); rotate_left; (simp <;> omega)) | (with_reducible refine bel_trans ?_ (by with_reducible assumption)))))⟩
    case round =>
      obtain ⟨j, x', y', hj, rfl, hrot, hB, hB2, hb⟩ := hrel
      have ho : in7 1000 (x', y') := by rw [← hrot]; exact in7_rot HOK.out j
      obtain ⟨⟨k1, k2⟩, k3, k4⟩ := ho
      simp only at k1 k2 k3 k4
      have en : IntKind.i64.wrap (-y') = -y' := Go.IntWalk.i64_in _ (by omega)
      have c0 : wr.cell? ⟨w.heap.size, 0, none⟩ = some (.int .i64 x') := by simpa using hB.cell 0
      have c1 : wr.cell? ⟨w.heap.size, 1, none⟩ = some (.int .i64 y') := by simpa using hB.cell 1
      have f0 := hB.frozen 0
      have f1 := hB.frozen 1
      have d0 : wr.cell? ⟨w.heap.size + 1, 0, none⟩ = some (.int .i64 0) := by simpa using hB2.cell 0
      have d1 : wr.cell? ⟨w.heap.size + 1, 1, none⟩ = some (.int .i64 0) := by simpa using hB2.cell 1
      have fd0 := hB2.frozen 0
      have fd1 := hB2.frozen 1
      by_cases hlt : j < r
      · have hj1 : (j : Int) < (r : Int) := by omega
        have HR : Hid (rotC (j + 1) (flipC m (x, y)) = (-y', x')) := by show (-(rotC j _).2, (rotC j _).1) = _; rw [hrot]
        have hS : Blk ((wr.setCell ⟨w.heap.size, 0, none⟩ (.int .i64 (-y'))).setCell ⟨w.heap.size, 1, none⟩ (.int .i64 x')) w.heap.size 55 #[.int .i64 (-y'), .int .i64 x'] := by simpa using (hB.set_ 0 (.int .i64 (-y'))).set_ 1 (.int .i64 x')
        have hS2 : Blk ((wr.setCell ⟨w.heap.size, 0, none⟩ (.int .i64 (-y'))).setCell ⟨w.heap.size, 1, none⟩ (.int .i64 x')) (w.heap.size + 1) 55 #[.int .i64 0, .int .i64 0] := (hB2.far (by simp) _).far (by simp) _
        have HS := Lib.hid hS
        have HS2 := Lib.hid hS2
        clear hrot hB hB2 hS hS2
        go_wp2
        exact ⟨⟨j + 1, -y', x', by omega, by go_num, HR.out, HS.out, HS2.out, (by (repeat (first | with_reducible exact Below.refl _ _ | with_reducible assumption | with_reducible apply bel_alloc | with_reducible apply bel_drew | with_reducible apply bel_drewN | ((with_reducible refine bel_set ?_ ?_); rotate_left; (simp <;> omega)) | (with_reducible refine bel_trans ?_ (by with_reducible assumption)))))⟩, by simp [intOf]; omega⟩
      · have hjr : j = r := by omega
        subst hjr
        have HV : Hid (motC m (x, y) = (x', y')) := by show motC m (x, y) = _; rw [HC.out, hrot]
        have hj1 : ¬ (j : Int) < (j : Int) := by omega
        clear hrot hB hB2
        go_wp2
        exact bodyPost_ret (v := .agg #[.int .i64 x', .int .i64 y']) (by simp [results, Try.results85, go_sem, d0, d1]) rfl ⟨by rw [HV.out], (by (repeat (first | with_reducible exact Below.refl _ _ | with_reducible assumption | with_reducible apply bel_alloc | with_reducible apply bel_drew | with_reducible apply bel_drewN | ((with_reducible refine bel_set ?_ ?_); rotate_left; (simp <;> omega)) | (with_reducible refine bel_trans ?_ (by with_reducible assumption)))))⟩
  · have HST : Hid (rotC 0 (flipC m (x, y)) = (x, y)) := by show flipC m (x, y) = _; unfold flipC; rw [if_neg h4m]
    have h4i : ¬ (m : Int) ≥ 4 := by omega
    go_enter Try.func85, Try.ntmps85
    go_wp2
    go_loopw [5] (fun e13 wr => ∃ (j : Nat) (x' y' : Int), j ≤ r ∧ e13 = .int .i64 j ∧ rotC j (flipC m (x, y)) = (x', y') ∧ Blk wr w.heap.size 55 #[.int .i64 x', .int .i64 y'] ∧ Blk wr (w.heap.size + 1) 55 #[.int .i64 0, .int .i64 0] ∧ Below w.heap.size w wr) (fun e13 _ => r - (intOf e13).toNat)
    case atStart =>
      have hb1 : Blk ((w.alloc (.cells #[.int .i64 x, .int .i64 y] 55)).alloc (.cells #[.int .i64 0, .int .i64 0] 55)) w.heap.size 55 #[.int .i64 x, .int .i64 y] := (Blk.new w 55 #[.int .i64 x, .int .i64 y]).alloc _
      have hb2 : Blk ((w.alloc (.cells #[.int .i64 x, .int .i64 y] 55)).alloc (.cells #[.int .i64 0, .int .i64 0] 55)) (w.heap.size + 1) 55 #[.int .i64 0, .int .i64 0] := by
        have h := Blk.new (w.alloc (.cells #[.int .i64 x, .int .i64 y] 55)) 55 #[.int .i64 0, .int .i64 0]
        rw [show (w.alloc (.cells #[.int .i64 x, .int .i64 y] 55)).heap.size = w.heap.size + 1 from by simp] at h
        exact h
      exact ⟨0, x, y, Nat.zero_le _, rfl, HST.out, hb1, hb2, (by (repeat (first | with_reducible exact Below.refl _ _ | with_reducible assumption | with_reducible apply bel_alloc | with_reducible apply bel_drew | with_reducible apply bel_drewN | ((with_reducible refine bel_set ?_ ?_); rotate_left; (simp <;> omega)) | (with_reducible refine bel_trans ?_ (by with_reducible assumption)))))⟩
    case round =>
      obtain ⟨j, x', y', hj, rfl, hrot, hB, hB2, hb⟩ := hrel
      have ho : in7 1000 (x', y') := by rw [← hrot]; exact in7_rot HOK.out j
      obtain ⟨⟨k1, k2⟩, k3, k4⟩ := ho
      simp only at k1 k2 k3 k4
      have en : IntKind.i64.wrap (-y') = -y' := Go.IntWalk.i64_in _ (by omega)
      have c0 : wr.cell? ⟨w.heap.size, 0, none⟩ = some (.int .i64 x') := by simpa using hB.cell 0
      have c1 : wr.cell? ⟨w.heap.size, 1, none⟩ = some (.int .i64 y') := by simpa using hB.cell 1
      have f0 := hB.frozen 0
      have f1 := hB.frozen 1
      have d0 : wr.cell? ⟨w.heap.size + 1, 0, none⟩ = some (.int .i64 0) := by simpa using hB2.cell 0
      have d1 : wr.cell? ⟨w.heap.size + 1, 1, none⟩ = some (.int .i64 0) := by simpa using hB2.cell 1
      have fd0 := hB2.frozen 0
      have fd1 := hB2.frozen 1
      by_cases hlt : j < r
      · have hj1 : (j : Int) < (r : Int) := by omega
        have HR : Hid (rotC (j + 1) (flipC m (x, y)) = (-y', x')) := by show (-(rotC j _).2, (rotC j _).1) = _; rw [hrot]
        have hS : Blk ((wr.setCell ⟨w.heap.size, 0, none⟩ (.int .i64 (-y'))).setCell ⟨w.heap.size, 1, none⟩ (.int .i64 x')) w.heap.size 55 #[.int .i64 (-y'), .int .i64 x'] := by simpa using (hB.set_ 0 (.int .i64 (-y'))).set_ 1 (.int .i64 x')
        have hS2 : Blk ((wr.setCell ⟨w.heap.size, 0, none⟩ (.int .i64 (-y'))).setCell ⟨w.heap.size, 1, none⟩ (.int .i64 x')) (w.heap.size + 1) 55 #[.int .i64 0, .int .i64 0] := (hB2.far (by simp) _).far (by simp) _
        have HS := Lib.hid hS
        have HS2 := Lib.hid hS2
        clear hrot hB hB2 hS hS2
        go_wp2
        exact ⟨⟨j + 1, -y', x', by omega, by go_num, HR.out, HS.out, HS2.out, (by (repeat (first | with_reducible exact Below.refl _ _ | with_reducible assumption | with_reducible apply bel_alloc | with_reducible apply bel_drew | with_reducible apply bel_drewN | ((with_reducible refine bel_set ?_ ?_); rotate_left; (simp <;> omega)) | (with_reducible refine bel_trans ?_ (by with_reducible assumption)))))⟩, by simp [intOf]; omega⟩
      · have hjr : j = r := by omega
        subst hjr
        have HV : Hid (motC m (x, y) = (x', y')) := by show motC m (x, y) = _; rw [HC.out, hrot]
        have hj1 : ¬ (j : Int) < (j : Int) := by omega
        clear hrot hB hB2
        go_wp2
        exact bodyPost_ret (v := .agg #[.int .i64 x', .int .i64 y']) (by simp [results, Try.results85, go_sem, d0, d1]) rfl ⟨by rw [HV.out], (by (repeat (first | with_reducible exact Below.refl _ _ | with_reducible assumption | with_reducible apply bel_alloc | with_reducible apply bel_drew | with_reducible apply bel_drewN | ((with_reducible refine bel_set ?_ ?_); rotate_left; (simp <;> omega)) | (with_reducible refine bel_trans ?_ (by with_reducible assumption)))))⟩
theorem map_takeS {α β : Type} (f : α → β) (xs : List α) (k : Nat) (hk : k < xs.length) : (xs.take (k + 1)).map f = (xs.take k).map f ++ [f xs[k]] := by
  rw [List.take_succ_eq_append_getElem hk, List.map_append]; rfl
set_option maxHeartbeats 1600000 in
theorem l3Turn_s (A : Option Addr) (n c : Nat) (xs : List C) (m : Nat) (w : World) (hr : Rd w A (vC xs)) (hl : xs.length = n) (hs : isShape xs = true) (hm : m < 8) :
    Calls Try.prog 62 #[.slice A n c, .int .i64 (m : Int)] w (RetS w 55 2 (vC (turnV xs m))) := by
  have hn8 := shape_len hs
  have hti := turn_in hs m
  have hob := shape_onB hs
  rw [hl] at hn8
  obtain ⟨hn1, hn8⟩ := hn8
  have HL := Lib.hid hl
  have HR := Lib.hid hr
  have HTI := Lib.hid hti
  have HOB := Lib.hid hob
  clear hl hr hs hti hob
  go_enter Try.func62, Try.ntmps62
  have HI0 := Lib.hid (own_new w 55 2 0 #[] rfl (by simp [maxLen]) (Nat.le_refl _))
  go_wp2
  go_loopw [6, 5] (fun e10 e5 wr => ∃ (k cq : Nat) (D : Option Addr), k ≤ n ∧ e10 = .int .i64 k ∧ e5 = .slice D k cq ∧ wr.ownsRow w.heap.size 55 2 (.slice D k cq) k (vC ((xs.take k).map (motC m))) ∧ Below w.heap.size w wr) (fun e10 _ _ => n - (intOf e10).toNat)
  case atStart => exact ⟨0, 0, _, Nat.zero_le _, rfl, rfl, HI0.out, bel_alloc (Below.refl _ _) _⟩
  case round =>
    clear HI0
    obtain ⟨k, cq, D, hk, rfl, rfl, hown, hb⟩ := hrel
    by_cases hlt : k < n
    · have hkl : k < xs.length := by rw [HL.out]; exact hlt
      have hk0 : (0 : Int) ≤ (k : Int) := by omega
      have hk1 : (k : Int) < (n : Int) := by omega
      obtain ⟨g, off, hA, hg, d1, d2⟩ := RdC.at_ (HR.out.below hb) hkl
      subst hA
      have hst := map_takeS (motC m) xs k hkl
      have h7 := in7_onB (HOB.out _ (List.getElem_mem hkl))
      obtain ⟨p, hp⟩ : ∃ p, xs[k].1 = p := ⟨_, rfl⟩
      obtain ⟨q, hq⟩ : ∃ q, xs[k].2 = q := ⟨_, rfl⟩
      rw [show xs[k] = (p, q) from Prod.ext hp hq] at hst h7
      rw [hp] at d1
      rw [hq] at d2
      have hK : in7 1000 (p, q) := by unfold in7 at h7 ⊢; simp only at h7 ⊢; omega
      obtain ⟨⟨x', y'⟩, hxy⟩ : ∃ z, motC m (p, q) = z := ⟨_, rfl⟩
      rw [hxy] at hst
      have HCA : Hid (∀ w0, Calls Try.prog 85 #[.agg #[.int .i64 p, .int .i64 q], .int .i64 (m : Int)] w0 (Ret w0 (.agg #[.int .i64 x', .int .i64 y']))) := fun w0 => by
        have h := l3Apply_s p q m w0 hK hm
        rw [hxy] at h
        exact h
      have HST := Lib.hid hst
      have HO := Lib.hid hown
      clear hst hown hp hq h7 hxy hK
      go_wp2_with fail
      refine (HCA.out _).mono ?_
      rintro e w2 ⟨rfl, hb2⟩
      have hb02 := bel_trans hb hb2
      have HO2 := Lib.hid (own_keep HO.out hb2)
      have hbz := hb02.size
      clear d1 d2
      go_wp2_with (at_builtin; go_must (refine app_C _ rfl _ _ rfl w.heap.size _ _ _ _ rfl (HO2.out.alloc _) _ _ _ [(x', y')] rfl (rd_newC _ _ _ _) rfl (by omega) (by simp; omega) ?_); intro D2 cp2 w8 ho8 hg8 hat8; have HO8 := Lib.hid ho8; have HG8 := Lib.hid hg8; clear ho8 hg8 hat8)
      exact ⟨⟨k + 1, cp2, D2, by omega, by go_num, rfl, by rw [HST.out]; exact HO8.out, bel_app (bel_alloc hb02 _) HG8.out (fun g' hg1 => ((own_lt HO2.out) g' hg1).1)⟩, by simp [intOf]; omega⟩
    · obtain rfl : k = n := by omega
      rw [List.take_of_length_le (by rw [HL.out]; omega)] at hown
      have HO := Lib.hid hown
      have hk1 : ¬ (k : Int) < (k : Int) := by omega
      clear hown
      go_wp2_with fail
      refine (SortCells_s D k cq (xs.map (motC m)) _ (Rd.of_own HO.out) (by rw [List.length_map]; exact HL.out) (by omega)).mono ?_
      rintro e w2 ⟨E, q, ce, rfl, hO2, hb2⟩
      have hql : (sortC (xs.map (motC m))).length = q := by have := own_len hO2; rw [vC_length] at this; omega
      have hq8 : q ≤ 8 := by have := sortC_len (xs.map (motC m)); rw [List.length_map, HL.out] at this; omega
      have HO2 := Lib.hid hO2
      have HQL := Lib.hid hql
      clear hO2 hql
      go_wp2_with fail
      refine (l2Corner_s E q ce (sortC (xs.map (motC m))) _ (Rd.of_own HO2.out) HQL.out (by omega) (fun d hd => by have := HTI.out d ((sortC_mem _ _).1 hd); unfold in7 at this; unfold small; omega)).mono ?_
      rintro e w3 ⟨G, q3, cg, rfl, hO3, hb3⟩
      have HV : Hid (turnV xs m = cornS (sortC (xs.map (motC m)))) := by show cornI _ = _; exact corn_eq (by rw [List.length_map, HL.out]; omega)
      have HO3 := Lib.hid hO3
      have hbz := (bel_trans hb hb2).size
      clear hO3
      go_wp2_with fail
      go_ret
      exact ⟨G, q3, cg, rfl, by rw [HV.out]; exact own_base HO3.out hbz, bel_trans (bel_trans hb hb2) hb3⟩
end Go.Proofs.Ytagkopemcabkpaa

/- What the laws on drawn values share: bytes opened, sizes, lists compared. -/
namespace Go.Proofs.Ytagkopemcabkpaa
open Go.ChangeShapes Go.WideShapes Go.ChangeAt Go.RowKit
set_option linter.unusedVariables false
attribute [local go_sem ↓] Go.wp_at_zero Go.wp_at_succ
section
variable {H : Type} {enc : TypeId × Value → H}
theorem cellsB : Try.prog.cellsOf 5 = 1 := by kernel_rfl
set_option maxRecDepth 100000 in
theorem openB {W : World} {r : Reach} {b0 : Nat} {t : TypeId} (ht : Try.prog.underlying t = some (.slice 5)) {base : Nat} {spare : Nat → Bool} {held : Bool} {v : Value} {d : DataW H} {p : List MemPlace} (hv : Value.okWide Try.prog W r b0 t v) (h : DataW.Trod enc Try.prog W base spare held t v d p) :
    ∃ A n c xs, v = .slice A n c ∧ Rd W A (vB xs) ∧ xs.length = n ∧ n ≤ maxLen := by
  obtain ⟨a0, len, cap, rfl⟩ := okWide_slice ht hv
  obtain ⟨fuel, hf⟩ := h
  rcases open_ints ht Try.underlying5 cellsB hf with ⟨hcs, hx⟩ | ⟨a, len', cap', zs, hcs, _, hl, hm, hz, hx, hcell, hwz⟩
  · simp [Value.cells] at hcs
    obtain ⟨rfl, rfl, rfl⟩ := hcs
    exact ⟨none, 0, 0, [], rfl, .inl rfl, rfl, Nat.zero_le _⟩
  · simp [Value.cells] at hcs
    obtain ⟨rfl, rfl, rfl⟩ := hcs
    have hzl : len ≤ zs.length := by rw [hz]; split <;> omega
    have hrng : ∀ z ∈ zs, 0 ≤ z ∧ z < 256 := fun z hz2 => by
      have := hwz z hz2
      simp [Lit.wf, IntKind.min, IntKind.max, IntKind.bits, IntKind.signed] at this
      omega
    refine ⟨_, _, _, (zs.take len).map (fun z => UInt8.ofNat z.toNat), rfl, ?_, by rw [List.length_map, List.length_take]; omega, by omega⟩
    by_cases h0 : 0 < zs.length
    · obtain ⟨ab, ao, spot⟩ := a
      have hspot : spot = none := by simpa [Addr.add] using World.cell?_spot (hcell 0 h0)
      subst hspot
      refine .inr ⟨ab, ao, rfl, fun j u hu => ?_⟩
      simp only [vB, List.getElem?_map, Option.map_eq_some_iff] at hu
      obtain ⟨x, ⟨z, hz1, rfl⟩, rfl⟩ := hu
      have hjl : j < len := by
        rcases Nat.lt_or_ge j len with h | h
        · exact h
        · rw [List.getElem?_eq_none (by rw [List.length_take]; omega)] at hz1; cases hz1
      rw [List.getElem?_take_of_lt hjl] at hz1
      have h3 := hcell j (by omega)
      have h4 := hrng z (List.mem_of_getElem? hz1)
      rw [show (⟨ab, ao + j, none⟩ : Addr) = (⟨ab, ao, none⟩ : Addr).add j from by simp [Addr.add], h3, List.getD_eq_getElem?_getD, hz1]
      have e : ((UInt8.ofNat z.toNat).toNat : Int) = z := by
        rw [UInt8.toNat_ofNat_of_lt' (by show z.toNat < 256; omega)]
        omega
      rw [e]
      rfl
    · left
      rw [List.eq_nil_of_length_eq_zero (by omega : zs.length = 0)]
      simp [vB]
end
theorem big_l (A : Option Addr) (n c : Nat) (w : World) : Calls Try.prog 5 #[.slice A n c] w (Ret w (.bool (decide ((n : Int) > 1048576)))) := by
  go_enter Try.func5, Try.ntmps5
  go_wp2_with fail
  go_ret
  exact ⟨rfl, Below.refl _ _⟩
set_option maxHeartbeats 800000 in
theorem sameInts_t (A A2 : Option Addr) (n c n2 c2 : Nat) (xs : List Int) (w : World) (h : Rd w A (vI xs)) (h2 : Rd w A2 (vI xs)) (hl : xs.length = n) (hl2 : xs.length = n2) (hn : n ≤ 1099511627776) :
    Calls Try.prog 9 #[.slice A n c, .slice A2 n2 c2] w (Ret w (.bool true)) := by
  obtain rfl : n = n2 := hl.symm.trans hl2
  have HL := Lib.hid hl
  have H1 := Lib.hid h
  have H2 := Lib.hid h2
  have hne : ((n : Int) != (n : Int)) = false := by simp
  clear hl hl2 h h2
  go_enter Try.func9, Try.ntmps9
  go_wp2_with fail
  go_loopw [5] (fun e5 wr => ∃ j : Nat, j ≤ n ∧ e5 = .int .i64 j ∧ Below w.heap.size w wr) (fun e5 _ => n - (intOf e5).toNat)
  case atStart => exact ⟨0, Nat.zero_le _, rfl, Below.refl _ _⟩
  case round =>
    obtain ⟨j, hj, rfl, hb⟩ := hrel
    by_cases hlt : j < n
    · have hj0 : (0 : Int) ≤ (j : Int) := by omega
      have hj1 : (j : Int) < (n : Int) := by omega
      have hjl : j < xs.length := by rw [HL.out]; exact hlt
      obtain ⟨g, off, hA, hg, d1⟩ := RdI.at_ (H1.out.below hb) hjl
      obtain ⟨g2, off2, hA2, hg2, d2⟩ := RdI.at_ (H2.out.below hb) hjl
      obtain ⟨v, hv⟩ : ∃ v, xs[j] = v := ⟨_, rfl⟩
      rw [hv] at d1 d2
      have hvv : (v != v) = false := by simp
      subst hA hA2
      clear hv
      go_wp2_with fail
      (refine wp_region_below (by kernel_rfl) (by kernel_rfl) ?_; (repeat (first | go_big_quiet_skip | (refine quietV (v := ?_) (by rfl) rfl (fun w' hbw => ?_) ?_; rotate_left; ((try dsimp only at hbw); have hbc := (bcell hbw).1; have hbf := (bcell hbw).2; go_simp; first | done | with_reducible rfl | fail); simp only [List.setIfInBounds_toArray, List.set_cons_zero, List.set_cons_succ]))); refine wpQuiet_nil ?_; intro wq hbq)
      go_wp2_with fail
      exact ⟨⟨j + 1, by omega, by go_num, bel_trans hb hbq⟩, by simp [intOf]; omega⟩
    · have hj1 : ¬ (j : Int) < (n : Int) := by omega
      go_wp2_with fail
      go_ret
      exact ⟨rfl, hb⟩
end Go.Proofs.Ytagkopemcabkpaa

/- The law on nets: what it draws, squares, turned shapes, lists of lists. -/
namespace Go.Proofs.Ytagkopemcabkpaa
open Go.RowKit
set_option linter.unusedVariables false
attribute [local go_sem ↓] Go.wp_at_zero Go.wp_at_succ
set_option maxHeartbeats 1600000 in
theorem SquaresIn_i (A : Option Addr) (n c : Nat) (xs : List C) (w : World) (hr : Rd w A (vC xs)) (hl : xs.length = n) (hn : n ≤ 1099511627776) :
    Calls Try.prog 22 #[.slice A n c] w (Ret w (.int .i64 (if isShape xs then (sqV xs : Nat) else 0))) := by
  have HL := Lib.hid hl
  cases hs : isShape xs with
  | false =>
    have HS := Lib.hid hs
    clear hs hl
    go_enter Try.func22, Try.ntmps22
    go_wp2_with fail
    refine (IsShape_i _ _ _ xs _ hr HL.out (by omega)).mono ?_
    rw [HS.out]
    rintro e w1 ⟨rfl, hb1⟩
    go_wp2_with fail
    go_ret
    exact ⟨rfl, hb1⟩
  | true =>
    have hlen := shape_len hs
    have hsm := shape_small hs
    have hn8 : n ≤ 8 := by omega
    have HS := Lib.hid hs
    have HSM := Lib.hid hsm
    clear hs hlen hsm hl hn
    go_enter Try.func22, Try.ntmps22
    go_wp2_with fail
    refine (IsShape_i _ _ _ xs _ hr HL.out (by omega)).mono ?_
    rw [HS.out]
    rintro e w1 ⟨rfl, hb1⟩
    go_wp2_with fail
    go_loopw [11, 3] (fun i s wr => ∃ k q : Nat, k ≤ n ∧ i = .int .i64 k ∧ s = .int .i64 q ∧ q = (xs.take k).countP (sqC xs) ∧ Below w.heap.size w wr) (fun i _ _ => n - (intOf i).toNat)
    case atStart => exact ⟨0, 0, Nat.zero_le _, rfl, rfl, rfl, hb1⟩
    case round =>
      obtain ⟨k, q, hk, rfl, rfl, hq, hb⟩ := hrel
      by_cases hlt : k < n
      · have hkx : k < xs.length := by rw [HL.out]; omega
        have hcnt := countP_take (sqC xs) xs k hkx
        have hi0 : (0 : Int) ≤ (k : Int) := by omega
        have hi1 : (k : Int) < (n : Int) := by omega
        have hrw := hr.below hb
        obtain ⟨g, off, rfl, hgw, c1, c2⟩ := RdC.at_ hrw hkx
        have hcs := HSM.out _ (List.getElem_mem hkx)
        obtain ⟨⟨x, y⟩, hx⟩ : ∃ p, xs[k] = p := ⟨_, rfl⟩
        rw [hx] at c1 c2 hcs hcnt
        have hqk : q ≤ k := by rw [hq]; exact Nat.le_trans (countP_le' _ _) (by rw [List.length_take]; omega)
        have e1 : IntKind.i64.wrap (x + 1) = x + 1 := by unfold small at hcs; simp only at hcs; exact Go.IntWalk.i64_in _ (by omega)
        have e2 : IntKind.i64.wrap (y + 1) = y + 1 := by unfold small at hcs; simp only at hcs; exact Go.IntWalk.i64_in _ (by omega)
        have HQ := Lib.hid hq
        have HC := Lib.hid hcnt
        have hbz := hb.size
        obtain ⟨b1, h1⟩ : ∃ b, hasC xs (x + 1) y = b := ⟨_, rfl⟩
        obtain ⟨b2, h2⟩ : ∃ b, hasC xs x (y + 1) = b := ⟨_, rfl⟩
        obtain ⟨b3, h3⟩ : ∃ b, hasC xs (x + 1) (y + 1) = b := ⟨_, rfl⟩
        have hsq : sqC xs (x, y) = (b1 && (b2 && b3)) := by unfold sqC; simp only; rw [h1, h2, h3]
        have H1 := Lib.hid h1
        have H2 := Lib.hid h2
        have H3 := Lib.hid h3
        have HSQ := Lib.hid hsq
        have hrA := (hr.below hb)
        have HRA := Lib.hid (hrA.below (bel_alloc (Below.refl _ wr) (.cells #[.int .i64 x, .int .i64 y] 55)))
        clear hq hcnt hx hcs h1 h2 h3 hsq
        go_wp2_with fail
        refine (HasCell_i _ _ _ xs (x + 1) y _ HRA.out HL.out (by omega)).mono ?_
        rw [H1.out]
        rintro e w2 ⟨rfl, hb2⟩
        have HR2 := Lib.hid (HRA.out.below hb2)
        have HB2 := Lib.hid (bel_trans (bel_alloc hb _) hb2)
        have hB2 := (Blk.new wr 55 #[.int .i64 x, .int .i64 y]).below hb2
        have d1 : w2.cell? ⟨wr.heap.size, 0, none⟩ = some (.int .i64 x) := by simpa using hB2.cell 0
        have d2 : w2.cell? ⟨wr.heap.size, 1, none⟩ = some (.int .i64 y) := by simpa using hB2.cell 1
        have HBK := Lib.hid hB2
        clear c1 c2 hB2 hb2
        cases b1 with
        | false =>
          go_wp2_with fail
          exact ⟨⟨k + 1, q, by omega, by go_num, rfl, by rw [HC.out, HSQ.out, HQ.out]; simp, HB2.out⟩, by simp [intOf]; omega⟩
        | true =>
          go_wp2_with fail
          refine (HasCell_i _ _ _ xs x (y + 1) _ HR2.out HL.out (by omega)).mono ?_
          rw [H2.out]
          rintro e w3 ⟨rfl, hb3⟩
          have HR3 := Lib.hid (HR2.out.below hb3)
          have HB3 := Lib.hid (bel_trans HB2.out hb3)
          have hB3 := HBK.out.below hb3
          have f1 : w3.cell? ⟨wr.heap.size, 0, none⟩ = some (.int .i64 x) := by simpa using hB3.cell 0
          have f2 : w3.cell? ⟨wr.heap.size, 1, none⟩ = some (.int .i64 y) := by simpa using hB3.cell 1
          clear d1 d2 hB3 hb3
          cases b2 with
          | false =>
            go_wp2_with fail
            exact ⟨⟨k + 1, q, by omega, by go_num, rfl, by rw [HC.out, HSQ.out, HQ.out]; simp, HB3.out⟩, by simp [intOf]; omega⟩
          | true =>
            go_wp2_with fail
            refine (HasCell_i _ _ _ xs (x + 1) (y + 1) _ HR3.out HL.out (by omega)).mono ?_
            rw [H3.out]
            rintro e w4 ⟨rfl, hb4⟩
            have HB4 := Lib.hid (bel_trans HB3.out hb4)
            clear hb4 f1 f2
            cases b3 with
            | false =>
              go_wp2_with fail
              exact ⟨⟨k + 1, q, by omega, by go_num, rfl, by rw [HC.out, HSQ.out, HQ.out]; simp, HB4.out⟩, by simp [intOf]; omega⟩
            | true =>
              go_wp2_with fail
              exact ⟨⟨k + 1, q + 1, by omega, by go_num, by go_num, by rw [HC.out, HSQ.out, HQ.out]; simp, HB4.out⟩, by simp [intOf]; omega⟩
      · have hi1 : ¬ (k : Int) < (n : Int) := by omega
        obtain rfl : k = n := by omega
        have HV : Hid (q = sqV xs) := by show q = _; rw [hq]; unfold sqV; rw [List.take_of_length_le (by rw [HL.out]; exact Nat.le_refl _)]
        clear hq
        go_wp2_with fail
        go_ret
        exact ⟨by rw [HV.out]; rfl, hb⟩
theorem l1In_yes (x a b : Int) (w : World) (h1 : a ≤ x) (h2 : x ≤ b) : Calls Try.prog 50 #[.int .i64 x, .int .i64 a, .int .i64 b] w (Ret w (.bool true)) := by
  go_enter Try.func50, Try.ntmps50
  go_wp2_with fail
  go_ret
  exact ⟨by simp, Below.refl _ _⟩
set_option maxHeartbeats 800000 in
theorem TurnShape_s (A : Option Addr) (n c : Nat) (xs : List C) (m : Nat) (w : World) (hr : Rd w A (vC xs)) (hl : xs.length = n) (hn : n ≤ 1099511627776) (hm : m < 8) :
    Calls Try.prog 23 #[.slice A n c, .int .i64 (m : Int)] w (RetS2 w 55 2 (vC (if isShape xs then turnV xs m else [])) (.bool (isShape xs))) := by
  have HL := Lib.hid hl
  have HR := Lib.hid hr
  have hm0 : (0 : Int) ≤ (m : Int) := by omega
  have hm7 : (m : Int) ≤ 7 := by omega
  clear hl hr
  cases hs : isShape xs with
  | false =>
    have HS := Lib.hid hs
    clear hs
    go_enter Try.func23, Try.ntmps23
    go_wp2_with fail
    refine (IsShape_s _ _ _ xs _ HR.out HL.out (by omega)).mono ?_
    rw [HS.out]
    rintro e w1 ⟨rfl, hb1⟩
    go_wp2_with fail
    go_ret2
    exact ⟨_, 0, 0, rfl, own_new _ _ 2 0 #[] rfl (by simp [maxLen]) (by have := hb1.size; omega), bel_alloc hb1 _⟩
  | true =>
    have HS := Lib.hid hs
    clear hs
    go_enter Try.func23, Try.ntmps23
    go_wp2_with fail
    refine (IsShape_s _ _ _ xs _ HR.out HL.out (by omega)).mono ?_
    rw [HS.out]
    rintro e w1 ⟨rfl, hb1⟩
    have HB1 := Lib.hid hb1
    clear hb1
    go_wp2_with fail
    refine (l1In_yes (m : Int) 0 7 _ hm0 hm7).mono ?_
    rintro e w11 ⟨rfl, hb11⟩
    have HB11 := Lib.hid (bel_trans HB1.out hb11)
    clear hb11
    go_wp2_with fail
    refine (l3Turn_s A n c xs m _ (HR.out.below HB11.out) HL.out HS.out hm).mono ?_
    rintro e w2 ⟨D, q, cd, rfl, hO, hb2⟩
    have HO := Lib.hid hO
    have HB2 := Lib.hid (bel_trans HB11.out hb2)
    have hbz := HB11.out.size
    clear hO hb2
    go_wp2_with fail
    go_ret2
    exact ⟨D, q, cd, rfl, own_base HO.out hbz, HB2.out⟩
theorem at_l (A : Option Addr) (n c : Nat) (bs : List UInt8) (w : World) (hr : Rd w A (vB bs)) (hl : bs.length = n) (hn : n ≤ 1048576) :
    Calls Try.prog 24 #[.slice A n c, .int .i64 1] w (fun e w' => ∃ q : Nat, e = .returned (.int .i64 (q : Int)) ∧ q < 256 ∧ Below w.heap.size w w') := by
  by_cases h1 : (1 : Int) < (n : Int)
  · obtain ⟨g, off, rfl, hg, c1⟩ := RdB.at_ hr (show 1 < bs.length by omega)
    have hq := (bs[1]'(by omega)).toNat_lt
    obtain ⟨q, hqq⟩ : ∃ q, (bs[1]'(by omega)).toNat = q := ⟨_, rfl⟩
    rw [hqq] at c1 hq
    have e1 : IntKind.i64.wrap (q : Int) = (q : Int) := Go.IntWalk.i64_in _ (by omega)
    clear hqq hr hl
    go_enter Try.func24, Try.ntmps24
    go_wp2_with fail
    go_ret
    exact ⟨q, rfl, hq, Below.refl _ _⟩
  · obtain ⟨q, hqq⟩ : ∃ q, (37 + 11 * n) % 256 = q := ⟨_, rfl⟩
    have hq : q < 256 := by omega
    have e1 : IntKind.i64.wrap ((n : Int) * 11) = (n : Int) * 11 := Go.IntWalk.i64_in _ (by omega)
    have e2 : IntKind.i64.wrap (37 + (n : Int) * 11) = 37 + (n : Int) * 11 := Go.IntWalk.i64_in _ (by omega)
    have e3 : (37 + (n : Int) * 11).tmod 256 = (q : Int) := by rw [Int.tmod_eq_emod_of_nonneg (by omega)]; omega
    have e4 : IntKind.i64.wrap (q : Int) = (q : Int) := Go.IntWalk.i64_in _ (by omega)
    clear hr hl hqq
    go_enter Try.func24, Try.ntmps24
    go_wp2_with fail
    go_ret
    exact ⟨q, rfl, hq, Below.refl _ _⟩
end Go.Proofs.Ytagkopemcabkpaa

/- The law on nets: what it draws; lists of lists compared. -/
namespace Go.Proofs.Ytagkopemcabkpaa
open Go.RowKit
set_option linter.unusedVariables false
attribute [local go_sem ↓] Go.wp_at_zero Go.wp_at_succ
set_option maxHeartbeats 800000 in
theorem sameLists_t (A A2 : Option Addr) (n c n2 c2 b1 b2 : Nat) (hs hs2 : List H) (F : List (List Int)) (w : World) (h : Own2 b1 w A n c hs F) (h2 : Own2 b2 w A2 n2 c2 hs2 F) (hn : n ≤ 1048576) (ht : ∀ f ∈ F, f.length ≤ 1048576) :
    Calls Try.prog 20 #[.slice A n c, .slice A2 n2 c2] w (Ret w (.bool true)) := by
  obtain rfl : n = n2 := h.flen.symm.trans h2.flen
  have HL := Lib.hid h.flen
  have H1 := Lib.hid h
  have H2 := Lib.hid h2
  have HT := Lib.hid ht
  have hne : ((n : Int) != (n : Int)) = false := by simp
  clear h h2 ht
  go_enter Try.func20, Try.ntmps20
  go_wp2_with fail
  go_loopw [5] (fun e5 wr => ∃ j : Nat, j ≤ n ∧ e5 = .int .i64 j ∧ Below w.heap.size w wr) (fun e5 _ => n - (intOf e5).toNat)
  case atStart => exact ⟨0, Nat.zero_le _, rfl, Below.refl _ _⟩
  case round =>
    obtain ⟨j, hj, rfl, hb⟩ := hrel
    by_cases hlt : j < n
    · have hj0 : (0 : Int) ≤ (j : Int) := by omega
      have hj1 : (j : Int) < (n : Int) := by omega
      have hjF : j < F.length := by rw [HL.out]; exact hlt
      have hjh : j < hs.length := by rw [H1.out.hlen]; exact hlt
      have hjh2 : j < hs2.length := by rw [H2.out.hlen]; exact hlt
      have k1 := H1.out.below hb
      have k2 := H2.out.below hb
      obtain ⟨g, off, hA, hg, d1⟩ := k1.at_ hjh
      obtain ⟨g2, off2, hA2, hg2, d2⟩ := k2.at_ hjh2
      have r1 := k1.rd hjh hjF
      have r2 := k2.rd hjh2 hjF
      have l1 := k1.rlen hjh hjF
      have l2 := k2.rlen hjh2 hjF
      have l3 := HT.out _ (List.getElem_mem hjF)
      obtain ⟨⟨B, m, cb⟩, hx⟩ : ∃ x, hs[j] = x := ⟨_, rfl⟩
      obtain ⟨⟨B2, m2, cb2⟩, hx2⟩ : ∃ x, hs2[j] = x := ⟨_, rfl⟩
      obtain ⟨f, hf⟩ : ∃ f, F[j] = f := ⟨_, rfl⟩
      rw [hx] at d1 r1 l1
      rw [hx2] at d2 r2 l2
      rw [hf] at r1 r2 l1 l2 l3
      have R1 := Lib.hid r1
      have R2 := Lib.hid r2
      have L1 := Lib.hid l1
      have L2 := Lib.hid l2
      have hm : m ≤ 1099511627776 := by simp only at l1; omega
      subst hA hA2
      dsimp only at d1 d2
      clear hx hx2 hf k1 k2 r1 r2 l1 l2 l3
      go_wp2_with fail
      (refine wp_region_below (by kernel_rfl) (by kernel_rfl) ?_; (repeat (first | go_big_quiet_skip | (refine quietV (v := ?_) (by rfl) rfl (fun w' hbw => ?_) ?_; rotate_left; ((try dsimp only at hbw); have hbc := (bcell hbw).1; have hbf := (bcell hbw).2; go_simp; first | done | with_reducible rfl | exact callsBB (sameInts_t B B2 m cb m2 cb2 f _ (R1.out.below hbw) (R2.out.below hbw) L1.out L2.out hm) rfl hbw); simp only [List.setIfInBounds_toArray, List.set_cons_zero, List.set_cons_succ]))); refine wpQuiet_nil ?_; intro wq hbq)
      go_wp2_with fail
      exact ⟨⟨j + 1, by omega, by go_num, bel_trans hb hbq⟩, by simp [intOf]; omega⟩
    · have hj1 : ¬ (j : Int) < (n : Int) := by omega
      go_wp2_with fail
      go_ret
      exact ⟨rfl, hb⟩
/-- Cells in a corner of the board. -/
def cor7 (c : C) : Prop := (0 ≤ c.1 ∧ c.1 ≤ 7) ∧ (0 ≤ c.2 ∧ c.2 ≤ 7)
theorem cornS_cor {xs : List C} (hs : isShape xs = true) : ∀ c ∈ cornS xs, cor7 c := by
  intro c hc
  have hl := shape_len hs
  unfold cornS at hc
  rw [mv_mem] at hc
  have h6 := shape_onB hs _ hc
  have h7 := minC_le (·.1) hc
  have h8 := minC_le (·.2) hc
  obtain ⟨a, ha, e⟩ := minC_at (·.1) (show 0 < xs.length by omega)
  obtain ⟨b, hb, f⟩ := minC_at (·.2) (show 0 < xs.length by omega)
  have h9 := shape_onB hs a ha
  have h10 := shape_onB hs b hb
  simp only [onB, Bool.and_eq_true, decide_eq_true_eq] at h6 h9 h10
  simp only at h7 h8
  unfold cor7
  omega
def RetCor (w : World) (e : Ending) (w' : World) : Prop := ∃ D k cD ys, e = .returned (.slice D k cD) ∧ Rd w' D (vC ys) ∧ ys.length = k ∧ k ≤ 8 ∧ (∀ c ∈ ys, cor7 c) ∧ Below w.heap.size w w'
set_option maxHeartbeats 800000 in
theorem CornerAny_s (A : Option Addr) (n c : Nat) (xs : List C) (w : World) (hr : Rd w A (vC xs)) (hl : xs.length = n) (hn : n ≤ 1099511627776) :
    Calls Try.prog 127 #[.slice A n c] w (RetCor w) := by
  have HL := Lib.hid hl
  have HR := Lib.hid hr
  clear hl hr
  cases hs : isShape xs with
  | false =>
    have HS := Lib.hid hs
    clear hs
    go_enter Try.func127, Try.ntmps127
    go_wp2_with fail
    refine (IsShape_s A n c xs _ HR.out HL.out hn).mono ?_
    rw [HS.out]
    rintro e w1 ⟨rfl, hb1⟩
    go_wp2_with fail
    go_ret
    exact ⟨_, 0, 0, [], rfl, .inl rfl, rfl, by omega, by simp, bel_alloc hb1 _⟩
  | true =>
    have hn8 := (shape_len hs).2
    have hsm := shape_small hs
    have hco := cornS_cor hs
    have hcl : (cornS xs).length = xs.length := mv_len _ _ _
    have HS := Lib.hid hs
    have HSM := Lib.hid hsm
    have HCO := Lib.hid hco
    rw [HL.out] at hn8 hcl
    have HCL := Lib.hid hcl
    clear hs hsm hco hcl
    go_enter Try.func127, Try.ntmps127
    go_wp2_with fail
    refine (IsShape_s A n c xs _ HR.out HL.out hn).mono ?_
    rw [HS.out]
    rintro e w1 ⟨rfl, hb1⟩
    go_wp2_with fail
    refine (l2Corner_s A n c xs _ (HR.out.below hb1) HL.out (by omega) HSM.out).mono ?_
    rintro e w2 ⟨D, m, cd, rfl, hO, hb2⟩
    obtain rfl : m = n := by have h1 := own_len hO; rw [vC_length, HCL.out] at h1; omega
    have HO := Lib.hid (Rd.of_own hO)
    clear hO
    go_wp2_with fail
    go_ret
    exact ⟨D, m, cd, _, rfl, HO.out, HCL.out, by omega, HCO.out, bel_trans hb1 hb2⟩
/-- A string, of no great length. -/
def RetStr (w : World) (e : Ending) (w' : World) : Prop := ∃ t : ByteArray, e = .returned (.string t) ∧ t.size ≤ 1000 ∧ Below w.heap.size w w'
set_option maxHeartbeats 1600000 in
theorem FormatShape_s (A : Option Addr) (n c : Nat) (xs : List C) (w : World) (hr : Rd w A (vC xs)) (hl : xs.length = n) (hn : n ≤ 1099511627776) :
    Calls Try.prog 98 #[.slice A n c] w (RetStr w) := by
  go_enter Try.func98, Try.ntmps98
  go_wp2_with fail
  refine (CornerAny_s A n c xs w hr hl hn).mono ?_
  rintro e w1 ⟨D, k, cD, ys, rfl, hrd, hyl, hk8, hco, hb1⟩
  have HR := Lib.hid hrd
  have HYL := Lib.hid hyl
  have HCO := Lib.hid hco
  have HB1 := Lib.hid hb1
  clear hr hl hrd hyl hco hb1
  go_wp2_with fail
  go_loopw [4, 5, 6, 7] (fun e4 e5 e6 e7 wr => ∃ (i x y : Nat) (t : ByteArray), i ≤ k ∧ x ≤ 7 + i ∧ y ≤ 7 ∧ t.size ≤ 15 * i + y ∧ e4 = .string t ∧ e5 = .int .i64 x ∧ e6 = .int .i64 y ∧ e7 = .int .i64 i ∧ Below w1.heap.size w1 wr) (fun _ _ _ e7 _ => k - (intOf e7).toNat)
  case atStart => exact ⟨0, 0, 0, _, Nat.zero_le _, by omega, by omega, by show 0 ≤ _; omega, rfl, rfl, rfl, rfl, Below.refl _ _⟩
  case round =>
    obtain ⟨i, x, y, t, hi, hx, hy, ht, rfl, rfl, rfl, rfl, hb⟩ := hrel
    by_cases hlt : i < k
    · have hi0 : (0 : Int) ≤ (i : Int) := by omega
      have hi1 : (i : Int) < (k : Int) := by omega
      have hky : i < ys.length := by rw [HYL.out]; exact hlt
      obtain ⟨g, off, hD, hg, c1, c2⟩ := RdC.at_ (HR.out.below hb) hky
      have hcc := HCO.out _ (List.getElem_mem hky)
      obtain ⟨⟨u, v⟩, huv⟩ : ∃ p, ys[i] = p := ⟨_, rfl⟩
      rw [huv] at c1 c2 hcc
      subst hD
      unfold cor7 at hcc
      simp only at hcc c1 c2
      obtain ⟨⟨hu0, hu7⟩, hv0, hv7⟩ := hcc
      clear huv
      have HB := Lib.hid hb
      clear hb
      go_wp2_with fail
      go_loopw [4, 5, 6] (fun e4 e5 e6 wq => ∃ (x2 y2 : Nat) (t2 : ByteArray), x2 ≤ 7 + i ∧ y2 ≤ 7 ∧ t2.size ≤ 15 * i + y2 ∧ e4 = .string t2 ∧ e5 = .int .i64 x2 ∧ e6 = .int .i64 y2 ∧ wq = wr) (fun _ _ e6 _ => 8 - (intOf e6).toNat)
      case atStart => exact ⟨x, y, t, hx, hy, ht, rfl, rfl, rfl, rfl⟩
      case round =>
        clear hx hy ht
        obtain ⟨x2, y2, t2, hx, hy, ht, rfl, rfl, rfl, rfl⟩ := hrel
        by_cases hyv : (y2 : Int) < v
        · have hsz : (t2.size : Int) + 1 ≤ 1000 := by omega
          go_wp2_with fail
          exact ⟨⟨0, y2 + 1, _, by omega, by omega, by show (t2 ++ _).size ≤ _; rw [ByteArray.size_append]; show t2.size + 1 ≤ _; omega, rfl, rfl, by go_num, trivial⟩, by simp [intOf]; omega⟩
        · have hsz : (t2.size : Int) + 1 ≤ 1000 := by omega
          go_wp2_with fail
          go_loopw [4, 5] (fun e4 e5 wq => ∃ (x3 : Nat) (t3 : ByteArray), x2 ≤ x3 ∧ (x3 ≤ 7 ∨ x3 = x2) ∧ t3.size + x2 ≤ 15 * i + y2 + x3 ∧ e4 = .string t3 ∧ e5 = .int .i64 x3 ∧ wq = wr) (fun _ e5 _ => 8 - (intOf e5).toNat)
          case atStart => exact ⟨x2, t2, Nat.le_refl _, .inr rfl, by omega, rfl, rfl, rfl⟩
          case round =>
            obtain ⟨x3, t3, h31, h32, h33, rfl, rfl, rfl⟩ := hrel
            by_cases hxu : (x3 : Int) < u
            · have hsz3 : (t3.size : Int) + 1 ≤ 1000 := by omega
              go_wp2_with fail
              exact ⟨⟨x3 + 1, _, by omega, by omega, by show (t3 ++ _).size + _ ≤ _; rw [ByteArray.size_append]; show t3.size + 1 + _ ≤ _; omega, rfl, by go_num, trivial⟩, by simp [intOf]; omega⟩
            · have hsz3 : (t3.size : Int) + 1 ≤ 1000 := by omega
              go_wp2_with fail
              exact ⟨⟨i + 1, x3 + 1, y2, _, by omega, by omega, hy, by show (t3 ++ _).size ≤ _; rw [ByteArray.size_append]; show t3.size + 1 ≤ _; omega, rfl, by go_num, rfl, by go_num, HB.out⟩, by simp [intOf]; omega⟩
    · have hi1 : ¬ (i : Int) < (k : Int) := by omega
      go_wp2_with fail
      go_ret
      exact ⟨t, rfl, by omega, bel_trans HB1.out hb⟩
theorem u8_neq {b k : UInt8} (h : ¬ b = k) : ((b.toNat : Int) == (k.toNat : Int)) = false := by
  rw [beq_eq_false_iff_ne]
  intro e
  exact h (UInt8.toNat_inj.1 (by omega))
def RetPS (w : World) (e : Ending) (w' : World) : Prop := ∃ D k cD xs b, e = .returned (.tuple #[.slice D k cD, .bool b]) ∧ Rd w' D (vC xs) ∧ xs.length = k ∧ k ≤ 1048576 ∧ k ≤ cD ∧ Below w.heap.size w w'
set_option maxHeartbeats 1600000 in
theorem ParseShape_s (t : ByteArray) (w : World) (h1 : 1 ≤ t.size) (h70 : t.size ≤ 70) :
    Calls Try.prog 77 #[.string t] w (RetPS w) := by
  have hini : (w.alloc (.cells #[] 55)).ownsRow w.heap.size 55 2 (.slice (some ⟨w.heap.size, 0, none⟩) 0 0) 0 (vC []) := own_new w _ 2 0 #[] rfl (by simp [maxLen]) (Nat.le_refl _)
  have HI := Lib.hid hini
  have hsz : (t.size : Int) ≤ 70 := by omega
  clear hini
  go_enter Try.func77, Try.ntmps77
  go_wp2_with fail
  go_loopw [4, 5, 6, 7] (fun e4 e5 e6 e7 wr => ∃ (i x y k cD : Nat) (D : Option Addr) (xs : List C), i ≤ t.size ∧ x ≤ i ∧ y ≤ i ∧ k ≤ i ∧ xs.length = k ∧ wr.ownsRow w.heap.size 55 2 (.slice D k cD) k (vC xs) ∧ e4 = .slice D k cD ∧ e5 = .int .i64 x ∧ e6 = .int .i64 y ∧ e7 = .int .i64 i ∧ Below w.heap.size w wr) (fun _ _ _ e7 _ => t.size - (intOf e7).toNat)
  case atStart => exact ⟨0, 0, 0, 0, 0, _, [], Nat.zero_le _, by omega, by omega, by omega, rfl, HI.out, rfl, rfl, rfl, rfl, bel_alloc (Below.refl _ _) _⟩
  case round =>
    clear HI
    obtain ⟨i, x, y, k, cD, D, xs, hi, hx, hy, hk, hxl, hO, rfl, rfl, rfl, rfl, hb⟩ := hrel
    have HO := Lib.hid hO
    have HXL := Lib.hid hxl
    have hcap := own_capD hO
    clear hO hxl
    by_cases hlt : i < t.size
    · have hi0 : (0 : Int) ≤ (i : Int) := by omega
      have hi1 : (i : Int) < (t.size : Int) := by omega
      by_cases e1 : t[i] = 35
      · have hsel : ((t[i].toNat : Int) == 35) = true := by rw [e1]; rfl
        have hsw : w.heap.size ≤ wr.heap.size := hb.size
        have hlt2 := (own_lt HO.out)
        clear e1
        go_wp2_with (at_builtin; go_must (refine app_C _ rfl _ _ rfl w.heap.size _ _ _ xs rfl (HO.out.alloc _) _ _ _ [((x : Int), (y : Int))] rfl (rd_newC _ _ _ _) rfl (by omega) (by simp; omega) ?_); intro D6 c6 w8 ho6 hg6 hat6; have HO8 := Lib.hid ho6; have HG8 := Lib.hid hg6; clear ho6 hg6 hat6)
        exact ⟨⟨i + 1, x + 1, y, k + 1, c6, D6, _, by omega, by omega, by omega, by omega, by have := HXL.out; simp; omega, HO8.out, rfl, by go_num, rfl, by go_num, bel_app (bel_alloc hb _) HG8.out (fun b e => (hlt2 b e).1)⟩, by simp [intOf]; omega⟩
      · have hsel : ((t[i].toNat : Int) == 35) = false := u8_neq e1
        by_cases e2 : t[i] = 46
        · have hsel2 : ((t[i].toNat : Int) == 46) = true := by rw [e2]; rfl
          clear e1 e2
          go_wp2_with fail
          exact ⟨⟨i + 1, x + 1, y, k, cD, D, xs, by omega, by omega, by omega, by omega, HXL.out, HO.out, rfl, by go_num, rfl, by go_num, hb⟩, by simp [intOf]; omega⟩
        · have hsel2 : ((t[i].toNat : Int) == 46) = false := u8_neq e2
          by_cases e3 : t[i] = 47
          · have hsel3 : ((t[i].toNat : Int) == 47) = true := by rw [e3]; rfl
            clear e1 e2 e3
            go_wp2_with fail
            exact ⟨⟨i + 1, 0, y + 1, k, cD, D, xs, by omega, by omega, by omega, by omega, HXL.out, HO.out, rfl, rfl, by go_num, by go_num, hb⟩, by simp [intOf]; omega⟩
          · have hsel3 : ((t[i].toNat : Int) == 47) = false := u8_neq e3
            clear e1 e2 e3
            go_wp2_with fail
            go_ret2
            exact ⟨_, 0, 0, [], _, rfl, .inl rfl, rfl, by omega, by omega, bel_alloc hb _⟩
    · have hi1 : ¬ (i : Int) < (t.size : Int) := by omega
      go_wp2_with fail
      · go_ret2
        exact ⟨_, 0, 0, [], _, rfl, .inl rfl, rfl, by omega, by omega, bel_alloc hb _⟩
      · refine (FormatShape_s D k cD xs wr (Rd.of_own HO.out) HXL.out (by omega)).mono ?_
        rintro e w2 ⟨t2, rfl, ht2, hb2⟩
        have HO2 := Lib.hid (own_keep HO.out hb2)
        have HB2 := Lib.hid (bel_trans hb hb2)
        clear hb2 ht2
        go_wp2_with fail
        all_goals go_ret2
        all_goals first | exact ⟨D, k, cD, xs, true, rfl, Rd.of_own HO2.out, HXL.out, by omega, hcap, HB2.out⟩ | exact ⟨_, 0, 0, [], _, rfl, .inl rfl, rfl, by omega, by omega, bel_alloc HB2.out _⟩
def vT (l : List ByteArray) : List Value := l.map fun t => .string t
theorem RdT.at_ {w : World} {A : Option Addr} {xs : List ByteArray} {k : Nat} (h : Rd w A (vT xs)) (hk : k < xs.length) :
    ∃ g off, A = some ⟨g, off, none⟩ ∧ g < w.heap.size ∧ w.cell? ⟨g, off + k, none⟩ = some (.string xs[k]) := by
  rcases h with h | ⟨g, off, e, h⟩
  · have h2 := congrArg List.length h
    simp [vT] at h2
    subst h2
    simp at hk
  · have h2 := h k (.string xs[k]) (by simp [vT, List.getElem?_eq_getElem hk])
    exact ⟨g, off, e, World.block_lt_of_cell? w _ h2, h2⟩
/-- One of a list's strings was drawn. -/
def RetPickT (w : World) (g : Nat) (A : Option Addr) (n c : Nat) (bs : List UInt8) (l : List ByteArray) (e : Ending) (w' : World) : Prop :=
  ∃ v, e = .returned (.string v) ∧ v ∈ l ∧ Cur w' g A n c bs ∧ w.grownBy w' (some g)
theorem l1Pick_s (A B : Option Addr) (n c g m d : Nat) (l : List ByteArray) (bs : List UInt8) (w : World) (hc : Cur w g A n c bs) (hn : n ≤ 1048576) (hr : Rd w B (vT l)) (hl : l.length = m) (hm : 1 ≤ m) (hm2 : m ≤ 256) (hB : ∀ b, ob B = some b → b ≠ g) :
    Calls Try.prog 78 #[.pointer (some ⟨g, 0, none⟩), .slice B m d] w (RetPickT w g A n c bs l) := by
  have HC := Lib.hid hc
  have HR := Lib.hid hr
  have HL := Lib.hid hl
  clear hc hr hl
  go_enter Try.func78, Try.ntmps78
  go_wp2_with fail
  refine (l1Below_s A n c g m bs w HC.out hn hm hm2).mono ?_
  rintro e w2 ⟨q, rfl, hq, hc2, hg2⟩
  have hr2 := HR.out.grown hg2 (fun b e r => hB b e (Option.some.inj r))
  obtain ⟨g1, o1, rfl, hg1, hx⟩ := RdT.at_ hr2 (show q < l.length by rw [HL.out]; exact hq)
  have HM := Lib.hid (List.getElem_mem (show q < l.length by rw [HL.out]; exact hq))
  obtain ⟨v, hv⟩ : ∃ v, l[q]'(by rw [HL.out]; exact hq) = v := ⟨_, rfl⟩
  rw [hv] at hx HM
  have hq0 : (0 : Int) ≤ (q : Int) := by omega
  have hq1 : (q : Int) < (m : Int) := by omega
  have HC2 := Lib.hid hc2
  have HG2 := Lib.hid hg2
  clear hc2 hg2 hr2 hv hq
  go_wp2_with fail
  go_ret
  exact ⟨v, rfl, HM.out, HC2.out, HG2.out⟩
def nets9 : List ByteArray := [⟨#[46, 35, 47, 35, 35, 35, 35, 47, 46, 35]⟩, ⟨#[35, 47, 35, 35, 35, 35, 47, 35]⟩, ⟨#[46, 35, 47, 35, 35, 35, 35, 47, 46, 46, 35]⟩, ⟨#[35, 35, 47, 46, 35, 35, 47, 46, 46, 35, 35]⟩, ⟨#[35, 35, 35, 47, 46, 46, 35, 35, 35]⟩, ⟨#[35, 47, 35, 35, 35, 47, 46, 46, 35, 35]⟩, ⟨#[35, 35, 35, 35, 35, 35]⟩, ⟨#[35, 35, 47, 35, 35, 35, 35]⟩, ⟨#[35, 47, 35, 35, 35, 35, 47, 46, 46, 46, 35]⟩]
theorem nets9_len : ∀ t ∈ nets9, 1 ≤ t.size ∧ t.size ≤ 70 := by decide
set_option maxRecDepth 100000 in
set_option maxHeartbeats 1600000 in
theorem l27Shape_s (A : Option Addr) (n c : Nat) (bs : List UInt8) (w : World) (hr : Rd w A (vB bs)) (hl : bs.length = n) (hn : n ≤ 1048576) :
    Calls Try.prog 51 #[.slice A n c] w (RetCl w) := by
  go_enter Try.func51, Try.ntmps51
  go_wp2_with fail
  refine (l1New_s A n c bs w hr hl hn).mono ?_
  rintro e w1 ⟨g, rfl, hc, hg, hb⟩
  have HC := Lib.hid hc
  have HB := Lib.hid hb
  clear hc hb hr hl
  go_wp2_with fail
  refine (l1Once_s A n c g 2 bs w1 HC.out hn (by omega) (by omega)).mono ?_
  rintro e w2 ⟨b, rfl, hc2, hg2⟩
  have HC2 := Lib.hid hc2
  have HG2 := Lib.hid (grown_newD HB.out hg hg2)
  have hgl : g < w2.heap.size := by obtain ⟨i, x, hi, hB⟩ := hc2.blk; exact hB.lt
  clear hc2 hg2
  cases b with
  | true =>
    go_wp2_with fail
    refine (l1Pick_s A (some ⟨w2.heap.size, 0, none⟩) n c g 9 9 nets9 bs _ (HC2.out.below (bel_alloc (Below.refl _ _) _)) hn (rd_new w2 9 _) rfl (by omega) (by omega) (fun b e => by simp only [ob, Option.map_some, Option.some.injEq] at e; omega)).mono ?_
    rintro e w3 ⟨v, rfl, hv, hc3, hg3⟩
    obtain ⟨h1, h70⟩ := nets9_len v hv
    have HG3 := Lib.hid (grown_newD (bel_alloc HG2.out _) hg hg3)
    clear hc3 hg3 hv
    go_wp2_with fail
    refine (ParseShape_s v _ h1 h70).mono ?_
    rintro e w4 ⟨D, k, cD, xs, b, rfl, hr4, hl4, hk, hkc, hb4⟩
    have HR4 := Lib.hid hr4
    have HL4 := Lib.hid hl4
    have HB4 := Lib.hid (bel_trans HG3.out hb4)
    clear hr4 hl4 hb4
    go_wp2_with fail
    go_ret
    exact ⟨D, k, cD, xs, rfl, HR4.out, HL4.out, hk, hkc, HB4.out⟩
  | false =>
    go_wp2_with fail
    refine (l2Any_s A n c g bs w2 HC2.out hn).mono ?_
    rintro e w3 ⟨D, k, cD, xs, rfl, hr3, hl3, hk8, hkc, hc3, hg3, hdg⟩
    have HG3 := Lib.hid (grown_newD HG2.out hg hg3)
    have HR3 := Lib.hid hr3
    have HL3 := Lib.hid hl3
    clear hc3 hg3 hr3 hl3
    go_wp2_with fail
    go_ret
    exact ⟨D, k, cD, xs, rfl, HR3.out, HL3.out, by omega, hkc, HG3.out⟩
theorem DrawIsCubeNet_s (A : Option Addr) (n c : Nat) (bs : List UInt8) (w : World) (hr : Rd w A (vB bs)) (hl : bs.length = n) (hn : n ≤ 1048576) :
    Calls Try.prog 10 #[.slice A n c] w (RetCl w) := by
  go_enter Try.func10, Try.ntmps10
  go_wp2_with fail
  refine (l27Shape_s A n c bs w hr hl hn).mono ?_
  rintro e w1 ⟨D, k, cD, xs, rfl, hr3, hl3, hk8, hkc, hb⟩
  have HB := Lib.hid hb
  have HR3 := Lib.hid hr3
  have HL3 := Lib.hid hl3
  clear hb hr3 hl3
  go_wp2_with fail
  go_ret
  exact ⟨D, k, cD, xs, rfl, HR3.out, HL3.out, hk8, hkc, HB.out⟩
/-- The faces of a cube, in their order, or one too few, and a number. -/
def RetRoll (w : World) (e : Ending) (w' : World) : Prop := ∃ D k cD xs d, e = .returned (.tuple #[.slice D k cD, .int .i64 d]) ∧ Rd w' D (vI xs) ∧ xs.length = k ∧ (xs = [0, 1, 2, 3, 4, 5] ∨ xs = [1, 2, 3, 4, 5]) ∧ (-1 ≤ d ∧ d ≤ 4) ∧ Below w.heap.size w w'
set_option maxRecDepth 100000 in
set_option maxHeartbeats 1600000 in
theorem DrawRollFaces_s (A : Option Addr) (n c : Nat) (bs : List UInt8) (w : World) (hr : Rd w A (vB bs)) (hl : bs.length = n) (hn : n ≤ 1048576) :
    Calls Try.prog 6 #[.slice A n c] w (RetRoll w) := by
  go_enter Try.func6, Try.ntmps6
  go_wp2_with fail
  refine (l1New_s A n c bs w hr hl hn).mono ?_
  rintro e w1 ⟨g, rfl, hc, hg, hb⟩
  have HC := Lib.hid hc
  have HB := Lib.hid hb
  have hgl : g < w1.heap.size := by obtain ⟨i, x, hi, hB⟩ := hc.blk; exact hB.lt
  clear hc hb hr hl
  go_wp2_with fail
  have hrn : Rd (w1.alloc (.cells #[.int .i64 0, .int .i64 1, .int .i64 2, .int .i64 3, .int .i64 4, .int .i64 5] 3)) (some ⟨w1.heap.size, 0, none⟩) (vI [0, 1, 2, 3, 4, 5]) := rd_new w1 3 _
  refine (l1Once_s A n c g 8 bs _ (HC.out.below (bel_alloc (Below.refl _ _) _)) hn (by omega) (by omega)).mono ?_
  rintro e w2 ⟨b, rfl, hc2, hg2⟩
  have HC2 := Lib.hid hc2
  have HG2 := Lib.hid (grown_newD (bel_alloc HB.out _) hg hg2)
  have HR2 := Lib.hid (hrn.grown hg2 (fun b e r => by have := Option.some.inj r; simp only [ob, Option.map_some, Option.some.injEq] at e; omega))
  clear hc2 hg2 hrn
  cases b with
  | true =>
    go_wp2_with fail
    refine (l1Below_s A n c g 6 bs w2 HC2.out hn (by omega) (by omega)).mono ?_
    rintro e w3 ⟨q, rfl, hq, hc3, hg3⟩
    have HG3 := Lib.hid (grown_newD HG2.out hg hg3)
    have HR3 := Lib.hid (HR2.out.grown hg3 (fun b e r => by have := Option.some.inj r; simp only [ob, Option.map_some, Option.some.injEq] at e; omega))
    have eq1 : IntKind.i64.wrap ((q : Int) - 1) = (q : Int) - 1 := Go.IntWalk.i64_in _ (by omega)
    clear hc3 hg3
    go_wp2_with fail
    go_ret2
    have h2 : Rd w3 (some ⟨w1.heap.size, 1, none⟩) (vI [1, 2, 3, 4, 5]) := by
      rcases HR3.out with h | ⟨g', off', e, h⟩
      · simp [vI] at h
      · simp only [Option.some.injEq, Addr.mk.injEq, and_true] at e
        obtain ⟨rfl, rfl⟩ := e
        refine .inr ⟨_, 1, rfl, fun j u hu => ?_⟩
        have h3 := h (j + 1) u (by simpa [vI] using hu)
        rwa [show 0 + (j + 1) = 1 + j by omega] at h3
    exact ⟨_, 5, 5, _, (q : Int) - 1, rfl, h2, rfl, .inr rfl, by omega, HG3.out⟩
  | false =>
    go_wp2_with fail
    refine (l1Below_s A n c g 6 bs w2 HC2.out hn (by omega) (by omega)).mono ?_
    rintro e w3 ⟨q, rfl, hq, hc3, hg3⟩
    have HG3 := Lib.hid (grown_newD HG2.out hg hg3)
    have HR3 := Lib.hid (HR2.out.grown hg3 (fun b e r => by have := Option.some.inj r; simp only [ob, Option.map_some, Option.some.injEq] at e; omega))
    have eq1 : IntKind.i64.wrap ((q : Int) - 1) = (q : Int) - 1 := Go.IntWalk.i64_in _ (by omega)
    clear hc3 hg3
    go_wp2_with fail
    go_ret2
    exact ⟨_, 6, 6, _, (q : Int) - 1, rfl, HR3.out, rfl, .inl rfl, by omega, HG3.out⟩
end Go.Proofs.Ytagkopemcabkpaa
