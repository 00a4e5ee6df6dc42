/- A shape put into an ordered list, once: the reference. -/
import Derived.Test.YteelmhmdnljjnaaGreatShpsM
import Derived.Test.YteelmhmdnljjnaaGreatCmp
import Derived.Test.YteelmhmdnljjnaaGreatIns
import Derived.Outline
import Derived.WalkLawsBesides
import Derived.WalkSpells
import Derived.BigQuiet
import Derived.Deep.QuietTactic
import Derived.Deep.RegionHeld3
import Derived.Deep.RegionWith
import Derived.Deep.DeepCutAuto
import Derived.Deep.CutBlock
import Derived.Deep.DrawnRows
namespace Go.Proofs.YteelmhmdnljjnaaGreat
open Go.RowKit
set_option linter.unusedVariables false
attribute [local go_sem ↓] Go.wp_at_zero Go.wp_at_succ

theorem infoF2 : (Tryz.prog.info? 59).map (fun i => (i.zero, i.size, i.bytes)) = some (some (.slice none 0 0), 1, 24) := by kernel_rfl
def offF2 (c k : Nat) : Nat := if c = k then 0 else k
theorem run_uptoF (w : World) (g m c k : Nat) (hk : k ≤ c) : (Instr.slice 31 (.slice (some ⟨g, 0, none⟩) m c) none (some (.int .i64 (k : Int))) none).run Tryz.prog w = .ok (.slice (some ⟨g, 0, none⟩) k c) w := by
  have h2 : (k : Int) ≤ (c : Int) := by omega
  simp [go_sem, h2]
theorem run_fromF2 (w : World) (g m c k : Nat) (hk : k ≤ m) : (Instr.slice 31 (.slice (some ⟨g, 0, none⟩) m c) (some (.int .i64 (k : Int))) none none).run Tryz.prog w = .ok (.slice (some ⟨g, offF2 c k, none⟩) (m - k) (c - k)) w := by
  have h1 : (0 : Int) ≤ (k : Int) := by omega
  have h2 : (k : Int) ≤ (m : Int) := by omega
  unfold offF2
  by_cases hc : c = k
  · subst hc
    simp [go_sem, h2]
  · simp [go_sem, h2, hc]
theorem Rd.fromF {w : World} {g c k m : Nat} {l : List H} (h : Rd w (some ⟨g, 0, none⟩) (vS l)) (hl : l.length = m) (hmc : m ≤ c) : Rd w (some ⟨g, offF2 c k, none⟩) (vS (l.drop k)) := by
  have h2 := Rd.drop h k c (by rw [vS_length]; omega)
  rw [show vS (l.drop k) = (vS l).drop k from by simp [vS]]
  unfold offF2
  split
  · next e => rw [if_pos e] at h2; exact h2
  · next e =>
    rw [if_neg e] at h2
    have e2 : (some ⟨g, 0, none⟩ : Option Addr).map (·.add k) = some ⟨g, k, none⟩ := by simp only [Option.map_some]; unfold Addr.add; split <;> simp_all
    rw [e2] at h2
    exact h2
theorem ins_rows2 {α β : Type} {hs : List α} {F : List β} {k : Nat} (hl : hs.length = F.length) (hk : k ≤ F.length) {x0 : α} {f : β} (i : Nat) (x : α) (y : β) (h1 : (hs.take k ++ [x0] ++ hs.drop k)[i]? = some x) (h2 : (F.take k ++ [f] ++ F.drop k)[i]? = some y) :
    (∃ j : Nat, hs[j]? = some x ∧ F[j]? = some y) ∨ (x = x0 ∧ y = f) := by
  have e1 : (hs.take k).length = k := by rw [List.length_take]; omega
  have e2 : (F.take k).length = k := by rw [List.length_take]; omega
  rw [List.append_assoc] at h1 h2
  rcases Nat.lt_trichotomy i k with h | h | h
  · rw [List.getElem?_append_left (by omega), List.getElem?_take_of_lt h] at h1 h2
    exact .inl ⟨i, h1, h2⟩
  · subst h
    rw [List.getElem?_append_right (by omega), e1, Nat.sub_self] at h1
    rw [List.getElem?_append_right (by omega), e2, Nat.sub_self] at h2
    simp at h1 h2
    exact .inr ⟨h1.symm, h2.symm⟩
  · obtain ⟨j, rfl⟩ : ∃ j, i = k + 1 + j := ⟨i - (k + 1), by omega⟩
    rw [List.getElem?_append_right (by omega), e1, show k + 1 + j - k = j + 1 from by omega] at h1
    rw [List.getElem?_append_right (by omega), e2, show k + 1 + j - k = j + 1 from by omega] at h2
    simp only [List.singleton_append, List.getElem?_cons_succ, List.getElem?_drop] at h1 h2
    exact .inl ⟨_, h1, h2⟩
theorem cmpS_lt (s t : List C) : decide (cmpS s t < 0) = ltS s t := by
  have := cmpS_neg s t
  cases h : ltS s t with
  | true =>
    unfold cmpS
    rw [h]
    rfl
  | false =>
    unfold cmpS
    rw [h]
    simp only [Bool.false_eq_true, if_false]
    split <;> rfl
/-- The list with the shape put in: nothing that was there has turned. -/
def PutS (base : Nat) (w : World) (F : List (List C)) (e : Ending) (w' : World) : Prop :=
  ∃ g n c hs, e = .returned (.slice (some ⟨g, 0, none⟩) n c) ∧ OwnF base w' (some ⟨g, 0, none⟩) n c hs F ∧ Below w.heap.size w w'
set_option maxRecDepth 100000 in
set_option maxHeartbeats 3200000 in
theorem l3Put_s (g m cp : Nat) (hs : List H) (F : List (List C)) (B : Option Addr) (mb d : Nat) (f : List C) (base : Nat) (w : World) (ho : OwnF base w (some ⟨g, 0, none⟩) m cp hs F) (hf : CRow w (B, mb, d) f)
    (hl : ∀ x ∈ F, x.length ≤ 1048576) (hmb : mb ≤ 1048576) (hm : m ≤ 1073741824) (hb0 : base ≤ w.heap.size) :
    Calls Tryz.prog 90 #[.slice (some ⟨g, 0, none⟩) m cp, .slice B mb d] w (PutS base w (putG ltS F f)) := by
  have hmc : m ≤ cp ∧ cp ≤ 9223372036854775807 := by
    rcases ho.own.2 with ⟨h, _⟩ | ⟨g', cap, cur, hv, _, _, h1, h2, _⟩
    · cases h
    · injection hv with _ _ h3
      unfold maxLen at h2
      omega
  obtain ⟨hmc1, hmc2⟩ := hmc
  have hcm : cutG ltS F f F.length = cutG ltS F f m := by rw [ho.flen]
  have HIN : Hid (∀ k', cutG ltS F f m = k' → ¬ (0 < k' ∧ F.getD (k' - 1) default = f) → putG ltS F f = F.take k' ++ [f] ++ F.drop k') := fun k' h1 h2 => putG_new (hcm.trans h1) h2
  have HSM : Hid (∀ k', cutG ltS F f m = k' → 0 < k' → F.getD (k' - 1) default = f → putG ltS F f = F) := fun k' h1 h2 h3 => putG_same (hcm.trans h1) h2 h3
  have HO := Lib.hid ho
  have HF := Lib.hid hf
  have HL := Lib.hid hl
  have HFL := Lib.hid ho.flen
  clear ho hf hl hcm
  go_enter Tryz.func90, Tryz.ntmps90
  go_wp2
  go_loopw [5] (fun e5 wr => ∃ k : Nat, k ≤ m ∧ e5 = .int .i64 k ∧ cutG ltS F f m = cutG ltS F f k ∧ Below w.heap.size w wr) (fun e5 _ => (intOf e5).toNat)
  case atStart => exact ⟨m, Nat.le_refl _, rfl, rfl, Below.refl _ _⟩
  case round =>
    obtain ⟨k, hk, rfl, hcut, hb⟩ := hrel
    have HCUT := Lib.hid hcut
    clear hcut
    by_cases hk0 : 0 < k
    · obtain ⟨j, hjk⟩ : ∃ j, k = j + 1 := ⟨k - 1, by omega⟩
      obtain ⟨x, t, g', off, hsx, hfx, he, hg, c1, hrow⟩ := (HO.out.below hb).rd.at_ (show j < m by omega)
      simp only [Option.some.injEq, Addr.mk.injEq, and_true] at he
      obtain ⟨rfl, rfl⟩ := he
      rw [Nat.zero_add] at c1
      have hgd : F.getD j default = t := by rw [List.getD_eq_getElem?_getD, hfx]; rfl
      have htl := HL.out t (List.mem_of_getElem? hfx)
      obtain ⟨C1, m1, k1⟩ := x
      have h1 : t.length = m1 := hrow.1
      have H1 := Lib.hid h1
      have HR := Lib.hid hrow
      have hm1 : m1 ≤ 1048576 := by omega
      have HG := Lib.hid hgd
      have hj1 : (k : Int) - 1 = (j : Int) := by omega
      have hj0 : (0 : Int) ≤ (j : Int) := by omega
      have hjw : IntKind.i64.wrap (j : Int) = (j : Int) := Go.IntWalk.i64_in _ (by omega)
      have hjm : (j : Int) < (m : Int) := by omega
      have hkp : (k : Int) > 0 := by omega
      have HJ := Lib.hid hjk
      dsimp only at c1
      clear hgd hsx hfx hrow h1 htl hjk
      cases hlt : ltS f t with
      | true =>
        have HN : Hid (cutG ltS F f m = cutG ltS F f j) := by show _ = _; rw [HCUT.out, HJ.out]; show (if ltS f (F.getD j default) = true then _ else _) = _; rw [HG.out, if_pos hlt]
        have hcl := cmpS_lt f t
        obtain ⟨v, hv⟩ : ∃ v, cmpS f t = v := ⟨_, rfl⟩
        rw [hv, hlt] at hcl
        have hvl : v < 0 := by simpa using hcl
        have HV := Lib.hid hv
        clear hv hlt hcl
        go_wp2_with fail
        refine (CompareShapes_s B C1 mb d m1 k1 f t _ (HF.out.below hb).2.1 HR.out.2.1 HF.out.1 H1.out (by omega) (by omega)).mono ?_
        rw [HV.out]
        rintro e w1 ⟨rfl, hb1⟩
        go_wp2_with fail
        exact ⟨⟨j, by omega, rfl, HN.out, bel_trans hb hb1⟩, by simp [intOf]; have := HJ.out; omega⟩
      | false =>
        have HN : Hid (cutG ltS F f m = k) := by show _ = _; rw [HCUT.out, HJ.out]; show (if ltS f (F.getD j default) = true then _ else _) = _; rw [HG.out, if_neg (by rw [hlt]; simp)]
        have hcl := cmpS_lt f t
        obtain ⟨v, hv⟩ : ∃ v, cmpS f t = v := ⟨_, rfl⟩
        rw [hv, hlt] at hcl
        have hvl : ¬ v < 0 := by simpa using hcl
        have HVV := Lib.hid hv
        clear hv hlt
        by_cases htf : t = f
        · have HV := Lib.hid (HSM.out k HN.out hk0 (by rw [show k - 1 = j from by have := HJ.out; omega, HG.out, htf]))
          have HD : Hid (decide (t = f) = true) := decide_eq_true htf
          clear htf
          go_wp2_with fail
          refine (CompareShapes_s B C1 mb d m1 k1 f t _ (HF.out.below hb).2.1 HR.out.2.1 HF.out.1 H1.out (by omega) (by omega)).mono ?_
          rw [HVV.out]
          rintro e w1 ⟨rfl, hb1⟩
          have c2 := (hb1.cell hg).trans c1
          have hg2 : g < w1.heap.size := Nat.lt_of_lt_of_le hg hb1.size
          clear c1
          go_wp2_with fail
          refine (EqualShapes_s C1 B m1 k1 mb d t f _ (HR.out.below hb1).2.1 ((HF.out.below hb).below hb1).2.1 H1.out HF.out.1 (by omega) (by omega)).mono ?_
          rw [HD.out]
          rintro e w2 ⟨rfl, hb2⟩
          go_wp2_with fail
          go_ret
          exact ⟨g, m, cp, hs, rfl, by rw [HV.out]; exact HO.out.below (bel_trans hb (bel_trans hb1 hb2)), bel_trans hb (bel_trans hb1 hb2)⟩
        · have HV := Lib.hid (HIN.out k HN.out (fun h => htf (by have := h.2; rw [show k - 1 = j from by have := HJ.out; omega, HG.out] at this; exact this)))
          have HD : Hid (decide (t = f) = false) := decide_eq_false htf
          clear htf
          go_wp2_with fail
          refine (CompareShapes_s B C1 mb d m1 k1 f t _ (HF.out.below hb).2.1 HR.out.2.1 HF.out.1 H1.out (by omega) (by omega)).mono ?_
          rw [HVV.out]
          rintro e w1 ⟨rfl, hb1⟩
          have c2 := (hb1.cell hg).trans c1
          have hg2 : g < w1.heap.size := Nat.lt_of_lt_of_le hg hb1.size
          clear c1
          go_wp2_with fail
          refine (EqualShapes_s C1 B m1 k1 mb d t f _ (HR.out.below hb1).2.1 ((HF.out.below hb).below hb1).2.1 H1.out HF.out.1 (by omega) (by omega)).mono ?_
          rw [HD.out]
          rintro e w2 ⟨rfl, hb2⟩
          have hbb : Below w.heap.size w w2 := bel_trans hb (bel_trans hb1 hb2)
          clear c2
          obtain ⟨i0, hi, hz0, hz1, hz2⟩ := info_parts infoF2
          have hs1 : ∀ w', (Instr.slice 31 (.slice (some ⟨g, 0, none⟩) m cp) none (some (.int .i64 (k : Int))) none).run Tryz.prog w' = .ok (.slice (some ⟨g, 0, none⟩) k cp) w' := fun w' => run_uptoF w' g m cp k (by omega)
          have hs2 : ∀ w', (Instr.slice 31 (.slice (some ⟨g, 0, none⟩) m cp) (some (.int .i64 (k : Int))) none none).run Tryz.prog w' = .ok (.slice (some ⟨g, offF2 cp k, none⟩) (m - k) (cp - k)) w' := fun w' => run_fromF2 w' g m cp k (by omega)
          have R2 : Hid (Rd w2 (some ⟨g, offF2 cp k, none⟩) (vS (hs.drop k))) := Rd.fromF (Rd.of_own (HO.out.below hbb).own) (HO.out.hlen) (by omega)
          have R1 : Hid (Rd w2 (some ⟨g, 0, none⟩) (vS (hs.take k))) := by
            show Rd _ _ _
            rw [show vS (hs.take k) = (vS hs).take k from by simp [vS]]
            exact Rd.take (Rd.of_own (HO.out.below hbb).own) _
          have L1 : Hid ((hs.take k).length = k) := by show (hs.take k).length = k; rw [List.length_take, HO.out.hlen]; omega
          have L2 : Hid ((hs.drop k).length = m - k) := by show (hs.drop k).length = m - k; rw [List.length_drop, HO.out.hlen]
          have HB := Lib.hid hbb
          have HI := Lib.hid hi
          have HZ0 := Lib.hid hz0
          have HZ1 := Lib.hid hz1
          have HZ2 := Lib.hid hz2
          clear hi hz0 hz1 hz2
          go_wp2_with fail
          refine wp_region_rg 13 rfl (by kernel_rfl) ?_
          (refine rgT (i := 1) (v := ?_) rfl rfl (by kernel_rfl) (by kernel_rfl) (by kernel_rfl) (by rfl) (fun w' hcw => ?_) ?_; rotate_left; ((try dsimp only at hcw); have hbc := hcw.cells; go_simp; first | done | with_reducible rfl); simp only [List.setIfInBounds_toArray, List.set_cons_zero, List.set_cons_succ])
          (refine rgT (i := 2) (v := ?_) rfl rfl (by kernel_rfl) (by kernel_rfl) (by kernel_rfl) (by rfl) (fun w' hcw => ?_) ?_; rotate_left; ((try dsimp only at hcw); have hbc := hcw.cells; go_simp; first | done | with_reducible rfl); simp only [List.setIfInBounds_toArray, List.set_cons_zero, List.set_cons_succ])
          (refine rgT (i := 3) (v := ?_) rfl rfl (by kernel_rfl) (by kernel_rfl) (by kernel_rfl) (by rfl) (fun w' hcw => ?_) ?_; rotate_left; ((try dsimp only at hcw); have hbc := hcw.cells; go_simp; first | done | with_reducible rfl); simp only [List.setIfInBounds_toArray, List.set_cons_zero, List.set_cons_succ])
          (refine rgT (i := 5) (v := ?_) rfl rfl (by kernel_rfl) (by kernel_rfl) (by kernel_rfl) (by rfl) (fun w' hcw => ?_) ?_; rotate_left; ((try dsimp only at hcw); have hbc := hcw.cells; go_simp; first | done | with_reducible rfl); simp only [List.setIfInBounds_toArray, List.set_cons_zero, List.set_cons_succ])
          (refine rgT (i := 8) (v := ?_) rfl rfl (by kernel_rfl) (by kernel_rfl) (by kernel_rfl) (by rfl) (fun w' hcw => ?_) ?_; rotate_left; ((try dsimp only at hcw); have hbc := hcw.cells; go_simp; first | done | with_reducible rfl); simp only [List.setIfInBounds_toArray, List.set_cons_zero, List.set_cons_succ])
          (refine rgT (i := 9) (v := ?_) rfl rfl (by kernel_rfl) (by kernel_rfl) (by kernel_rfl) (by rfl) (fun w' hcw => ?_) ?_; rotate_left; ((try dsimp only at hcw); have hbc := hcw.cells; go_simp; first | done | with_reducible rfl); simp only [List.setIfInBounds_toArray, List.set_cons_zero, List.set_cons_succ])
          (refine rgT (i := 10) (v := ?_) rfl rfl (by kernel_rfl) (by kernel_rfl) (by kernel_rfl) (by rfl) (fun w' hcw => ?_) ?_; rotate_left; ((try dsimp only at hcw); have hbc := hcw.cells; go_simp; first | done | with_reducible rfl); simp only [List.setIfInBounds_toArray, List.set_cons_zero, List.set_cons_succ])
          refine ins_tail (T := 31) (e := 59) (i := i0) (z := .slice none 0 0) (size := 1) (bytes := 24) (i0 := 0) (iA := 4) (iN := 6) (iB := 7) (iD := 11) (iE := 12) (s0 := 34) (sA := 38) (sN := 40) (sB := 41) (sD := 45) (dE := 4) (t1 := 37) (t2 := 44) (xn := .tmp 39) (vn := .slice B mb d) (news := vS [(B, mb, d)]) (vs1 := vS (hs.take k)) (vs2 := vS (hs.drop k)) (A1 := some ⟨g, 0, none⟩) (m1 := k) (c1 := cp) (A2 := some ⟨g, offF2 cp k, none⟩) (m2 := m - k) (c2 := cp - k) _ ?ht ?hi ?hz ?h1 ?h2 rfl (by omega) ⟨⟨_, rfl, rfl, rfl, fun a w => ?p0⟩, ⟨_, rfl, rfl, rfl, rfl⟩, ⟨_, rfl, rfl, rfl, fun a w h => ?pN⟩, ⟨_, rfl, rfl, rfl, rfl⟩, ⟨_, rfl, rfl, rfl, rfl⟩, ⟨_, rfl, rfl, rfl, rfl⟩⟩ ⟨by simp, by decide, by decide, by decide⟩ (fun a h => (h.eval (by decide)).trans rfl) (by kernel_rfl) (by kernel_rfl) (by kernel_rfl) (by kernel_rfl) (by kernel_rfl) (by decide) (by decide) (by kernel_rfl) (by kernel_rfl) (by kernel_rfl) (by kernel_rfl) rfl ?q1 ?l1 ?o1 rfl ?q2 ?l2 ?o2 ?ln ?on ?hm ?hb ?hQ
          case ht => exact Tryz.underlying31
          case hi => exact HI.out
          case hz => exact HZ0.out
          case h1 => exact HZ1.out
          case h2 => exact HZ2.out
          case p0 => simp [go_sem, execOp]
          case pN => (generalize Act.eval a = ρ at h ⊢; simp [go_sem, execOp, h, vS, hd])
          case q1 => exact R1.out
          case l1 => rw [vS_length, L1.out] <;> omega
          case o1 => exact vS_one _
          case q2 => exact R2.out
          case l2 => rw [vS_length, L2.out] <;> omega
          case o2 => exact vS_one _
          case ln => rfl
          case on => exact vS_one _
          case hm => omega
          case hb => omega
          case hQ =>
            intro a' w' A' c' hfr hev how hex
            obtain ⟨v0, vA, vN, vB, vD, rfl⟩ := hfr.form hev
            rw [← vS_append, ← vS_append] at how
            obtain ⟨g', rfl, _, _⟩ := own_at how (by omega)
            have HOW := Lib.hid (own_base (base' := base) how (Nat.le_trans hb0 HB.out.size))
            clear how hev hfr
            refine NoPanic.normal ?_
            simp only [List.setIfInBounds_toArray, List.set_cons_zero, List.set_cons_succ]
            go_wp2
            go_ret
            refine ⟨g', k + 1 + (m - k), c', hs.take k ++ [(B, mb, d)] ++ hs.drop k, rfl, ⟨HOW.out, ?_, ?_⟩, bel_trans HB.out hex⟩
            · rw [HV.out]; simp only [List.length_append, List.length_take, List.length_drop, List.length_cons, List.length_nil, HFL.out]; omega
            · intro i x t h1 h2
              rw [HV.out] at h2
              rcases ins_rows2 (by rw [HO.out.hlen, HFL.out]) (by rw [HFL.out]; exact hk) i x t h1 h2 with ⟨j, h3, h4⟩ | ⟨h3, h4⟩
              · exact ((HO.out.row j x t h3 h4).below HB.out).below hex
              · subst h3 h4
                exact (HF.out.below HB.out).below hex
    · obtain rfl : k = 0 := by omega
      have HN : Hid (cutG ltS F f m = 0) := HCUT.out
      have HV := Lib.hid (HIN.out 0 HN.out (fun h => absurd h.1 (by omega)))
      obtain ⟨k, hkz⟩ : ∃ k : Nat, 0 = k := ⟨0, rfl⟩
      have hkp : ¬ 0 < k := by omega
      have hkp2 : decide (0 < k) = false := by simp; omega
      have HKZ := Lib.hid hkz
      rw [hkz] at HV hk
      rw [show ((0 : Nat) : Int) = (k : Int) from by rw [hkz]]
      clear hkz hk0
      obtain ⟨i0, hi, hz0, hz1, hz2⟩ := info_parts infoF2
      have hs1 : ∀ w', (Instr.slice 31 (.slice (some ⟨g, 0, none⟩) m cp) none (some (.int .i64 (k : Int))) none).run Tryz.prog w' = .ok (.slice (some ⟨g, 0, none⟩) k cp) w' := fun w' => run_uptoF w' g m cp k (by omega)
      have hs2 : ∀ w', (Instr.slice 31 (.slice (some ⟨g, 0, none⟩) m cp) (some (.int .i64 (k : Int))) none none).run Tryz.prog w' = .ok (.slice (some ⟨g, offF2 cp k, none⟩) (m - k) (cp - k)) w' := fun w' => run_fromF2 w' g m cp k (by omega)
      have R2 : Hid (Rd wr (some ⟨g, offF2 cp k, none⟩) (vS (hs.drop k))) := Rd.fromF (Rd.of_own (HO.out.below hb).own) (HO.out.hlen) (by omega)
      have R1 : Hid (Rd wr (some ⟨g, 0, none⟩) (vS (hs.take k))) := by
        show Rd _ _ _
        rw [show vS (hs.take k) = (vS hs).take k from by simp [vS]]
        exact Rd.take (Rd.of_own (HO.out.below hb).own) _
      have L1 : Hid ((hs.take k).length = k) := by show (hs.take k).length = k; rw [List.length_take, HO.out.hlen]; omega
      have L2 : Hid ((hs.drop k).length = m - k) := by show (hs.drop k).length = m - k; rw [List.length_drop, HO.out.hlen]
      have HB := Lib.hid hb
      have HI := Lib.hid hi
      have HZ0 := Lib.hid hz0
      have HZ1 := Lib.hid hz1
      have HZ2 := Lib.hid hz2
      clear hi hz0 hz1 hz2
      go_wp2_with fail
      refine wp_region_rg 13 rfl (by kernel_rfl) ?_
      (refine rgT (i := 1) (v := ?_) rfl rfl (by kernel_rfl) (by kernel_rfl) (by kernel_rfl) (by rfl) (fun w' hcw => ?_) ?_; rotate_left; ((try dsimp only at hcw); have hbc := hcw.cells; go_simp; first | done | with_reducible rfl); simp only [List.setIfInBounds_toArray, List.set_cons_zero, List.set_cons_succ])
      (refine rgT (i := 2) (v := ?_) rfl rfl (by kernel_rfl) (by kernel_rfl) (by kernel_rfl) (by rfl) (fun w' hcw => ?_) ?_; rotate_left; ((try dsimp only at hcw); have hbc := hcw.cells; go_simp; first | done | with_reducible rfl); simp only [List.setIfInBounds_toArray, List.set_cons_zero, List.set_cons_succ])
      (refine rgT (i := 3) (v := ?_) rfl rfl (by kernel_rfl) (by kernel_rfl) (by kernel_rfl) (by rfl) (fun w' hcw => ?_) ?_; rotate_left; ((try dsimp only at hcw); have hbc := hcw.cells; go_simp; first | done | with_reducible rfl); simp only [List.setIfInBounds_toArray, List.set_cons_zero, List.set_cons_succ])
      (refine rgT (i := 5) (v := ?_) rfl rfl (by kernel_rfl) (by kernel_rfl) (by kernel_rfl) (by rfl) (fun w' hcw => ?_) ?_; rotate_left; ((try dsimp only at hcw); have hbc := hcw.cells; go_simp; first | done | with_reducible rfl); simp only [List.setIfInBounds_toArray, List.set_cons_zero, List.set_cons_succ])
      (refine rgT (i := 8) (v := ?_) rfl rfl (by kernel_rfl) (by kernel_rfl) (by kernel_rfl) (by rfl) (fun w' hcw => ?_) ?_; rotate_left; ((try dsimp only at hcw); have hbc := hcw.cells; go_simp; first | done | with_reducible rfl); simp only [List.setIfInBounds_toArray, List.set_cons_zero, List.set_cons_succ])
      (refine rgT (i := 9) (v := ?_) rfl rfl (by kernel_rfl) (by kernel_rfl) (by kernel_rfl) (by rfl) (fun w' hcw => ?_) ?_; rotate_left; ((try dsimp only at hcw); have hbc := hcw.cells; go_simp; first | done | with_reducible rfl); simp only [List.setIfInBounds_toArray, List.set_cons_zero, List.set_cons_succ])
      (refine rgT (i := 10) (v := ?_) rfl rfl (by kernel_rfl) (by kernel_rfl) (by kernel_rfl) (by rfl) (fun w' hcw => ?_) ?_; rotate_left; ((try dsimp only at hcw); have hbc := hcw.cells; go_simp; first | done | with_reducible rfl); simp only [List.setIfInBounds_toArray, List.set_cons_zero, List.set_cons_succ])
      refine ins_tail (T := 31) (e := 59) (i := i0) (z := .slice none 0 0) (size := 1) (bytes := 24) (i0 := 0) (iA := 4) (iN := 6) (iB := 7) (iD := 11) (iE := 12) (s0 := 34) (sA := 38) (sN := 40) (sB := 41) (sD := 45) (dE := 4) (t1 := 37) (t2 := 44) (xn := .tmp 39) (vn := .slice B mb d) (news := vS [(B, mb, d)]) (vs1 := vS (hs.take k)) (vs2 := vS (hs.drop k)) (A1 := some ⟨g, 0, none⟩) (m1 := k) (c1 := cp) (A2 := some ⟨g, offF2 cp k, none⟩) (m2 := m - k) (c2 := cp - k) _ ?ht ?hi ?hz ?h1 ?h2 rfl (by omega) ⟨⟨_, rfl, rfl, rfl, fun a w => ?p0⟩, ⟨_, rfl, rfl, rfl, rfl⟩, ⟨_, rfl, rfl, rfl, fun a w h => ?pN⟩, ⟨_, rfl, rfl, rfl, rfl⟩, ⟨_, rfl, rfl, rfl, rfl⟩, ⟨_, rfl, rfl, rfl, rfl⟩⟩ ⟨by simp, by decide, by decide, by decide⟩ (fun a h => (h.eval (by decide)).trans rfl) (by kernel_rfl) (by kernel_rfl) (by kernel_rfl) (by kernel_rfl) (by kernel_rfl) (by decide) (by decide) (by kernel_rfl) (by kernel_rfl) (by kernel_rfl) (by kernel_rfl) rfl ?q1 ?l1 ?o1 rfl ?q2 ?l2 ?o2 ?ln ?on ?hm ?hb ?hQ
      case ht => exact Tryz.underlying31
      case hi => exact HI.out
      case hz => exact HZ0.out
      case h1 => exact HZ1.out
      case h2 => exact HZ2.out
      case p0 => simp [go_sem, execOp]
      case pN => (generalize Act.eval a = ρ at h ⊢; simp [go_sem, execOp, h, vS, hd])
      case q1 => exact R1.out
      case l1 => rw [vS_length, L1.out] <;> omega
      case o1 => exact vS_one _
      case q2 => exact R2.out
      case l2 => rw [vS_length, L2.out] <;> omega
      case o2 => exact vS_one _
      case ln => rfl
      case on => exact vS_one _
      case hm => omega
      case hb => omega
      case hQ =>
        intro a' w' A' c' hfr hev how hex
        obtain ⟨v0, vA, vN, vB, vD, rfl⟩ := hfr.form hev
        rw [← vS_append, ← vS_append] at how
        obtain ⟨g', rfl, _, _⟩ := own_at how (by omega)
        have HOW := Lib.hid (own_base (base' := base) how (Nat.le_trans hb0 HB.out.size))
        clear how hev hfr
        refine NoPanic.normal ?_
        simp only [List.setIfInBounds_toArray, List.set_cons_zero, List.set_cons_succ]
        go_wp2
        go_ret
        refine ⟨g', k + 1 + (m - k), c', hs.take k ++ [(B, mb, d)] ++ hs.drop k, rfl, ⟨HOW.out, ?_, ?_⟩, bel_trans HB.out hex⟩
        · rw [HV.out]; simp only [List.length_append, List.length_take, List.length_drop, List.length_cons, List.length_nil, HFL.out]; omega
        · intro i x t h1 h2
          rw [HV.out] at h2
          rcases ins_rows2 (by rw [HO.out.hlen, HFL.out]) (by rw [HFL.out]; exact hk) i x t h1 h2 with ⟨j, h3, h4⟩ | ⟨h3, h4⟩
          · exact ((HO.out.row j x t h3 h4).below HB.out).below hex
          · subst h3 h4
            exact (HF.out.below HB.out).below hex
end Go.Proofs.YteelmhmdnljjnaaGreat
