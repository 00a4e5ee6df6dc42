/- A number put into a list in order: the reference. -/
import Derived.Test.YteelmhmdnljjnaaGreatIns
import Derived.Test.YteelmhmdnljjnaaGreatMem
import Derived.Outline
import Derived.WalkLawsBesides
import Derived.WalkSpells
import Derived.BigQuiet
import Derived.Deep.QuietTactic
import Derived.Deep.RegionHeld3
import Derived.Deep.RegionWith
import Derived.Deep.DeepCutAuto
import Derived.Deep.CutBlock
import Derived.Deep.DrawnRows
namespace Go.Proofs.YteelmhmdnljjnaaGreat
open Go.RowKit
set_option linter.unusedVariables false
attribute [local go_sem ↓] Go.wp_at_zero Go.wp_at_succ

/-- How many numbers stay ahead of n. -/
def cutTo (l : List Int) (n : Int) : Nat → Nat
  | 0 => 0
  | k + 1 => if n < l.getD k 0 then cutTo l n k else k + 1
theorem cutTo_le (l : List Int) (n : Int) (k : Nat) : cutTo l n k ≤ k := by
  induction k with
  | zero => exact Nat.le_refl _
  | succ k ih => unfold cutTo; split <;> omega
def putI (l : List Int) (n : Int) : List Int :=
  if 0 < cutTo l n l.length ∧ l.getD (cutTo l n l.length - 1) 0 = n then l else l.take (cutTo l n l.length) ++ [n] ++ l.drop (cutTo l n l.length)
/-- A slice whose memory is the call's own, of some base. -/
def RetO (w : World) (base E sz : Nat) (vs : List Value) (e : Ending) (w' : World) : Prop :=
  ∃ g n c, e = .returned (.slice (some ⟨g, 0, none⟩) n c) ∧ w'.ownsRow base E sz (.slice (some ⟨g, 0, none⟩) n c) n vs ∧ Below w.heap.size w w'
theorem run_upto (w : World) (g m c k : Nat) (hk : k ≤ c) : (Instr.slice 22 (.slice (some ⟨g, 0, none⟩) m c) none (some (.int .i64 (k : Int))) none).run Tryz.prog w = .ok (.slice (some ⟨g, 0, none⟩) k c) w := by
  have h2 : (k : Int) ≤ (c : Int) := by omega
  simp [go_sem, h2]
def offK (c k : Nat) : Nat := if c = k then 0 else k
theorem run_from (w : World) (g m c k : Nat) (hk : k ≤ m) : (Instr.slice 22 (.slice (some ⟨g, 0, none⟩) m c) (some (.int .i64 (k : Int))) none none).run Tryz.prog w = .ok (.slice (some ⟨g, offK c k, none⟩) (m - k) (c - k)) w := by
  have h1 : (0 : Int) ≤ (k : Int) := by omega
  have h2 : (k : Int) ≤ (m : Int) := by omega
  unfold offK
  by_cases hc : c = k
  · subst hc
    simp [go_sem, h2]
  · simp [go_sem, h2, hc]
theorem Rd.from_ {w : World} {g c k m : Nat} {l : List Int} (h : Rd w (some ⟨g, 0, none⟩) (vI l)) (hl : l.length = m) (hmc : m ≤ c) : Rd w (some ⟨g, offK c k, none⟩) (vI (l.drop k)) := by
  have h2 := Rd.drop h k c (by rw [vI_length]; omega)
  rw [vI_drop]
  unfold offK
  split
  · next e => rw [if_pos e] at h2; exact h2
  · next e =>
    rw [if_neg e] at h2
    have e2 : (some ⟨g, 0, none⟩ : Option Addr).map (·.add k) = some ⟨g, k, none⟩ := by simp only [Option.map_some]; unfold Addr.add; split <;> simp_all
    rw [e2] at h2
    exact h2
theorem putI_same {l : List Int} {n : Int} {k : Nat} (hk : cutTo l n l.length = k) (h0 : 0 < k) (h1 : l.getD (k - 1) 0 = n) : putI l n = l := by unfold putI; rw [hk, if_pos ⟨h0, h1⟩]
theorem putI_new {l : List Int} {n : Int} {k : Nat} (hk : cutTo l n l.length = k) (h1 : ¬ (0 < k ∧ l.getD (k - 1) 0 = n)) : putI l n = l.take k ++ [n] ++ l.drop k := by unfold putI; rw [hk, if_neg h1]
set_option maxRecDepth 100000 in
set_option maxHeartbeats 1600000 in
theorem l7Put_s (g m c : Nat) (l : List Int) (v : Int) (base : Nat) (w : World) (ho : w.ownsRow base 3 1 (.slice (some ⟨g, 0, none⟩) m c) m (vI l)) (hb0 : base ≤ w.heap.size) (hm : m ≤ 1099511627775) :
    Calls Tryz.prog 70 #[.slice (some ⟨g, 0, none⟩) m c, .int .i64 v] w (RetO w base 3 1 (vI (putI l v))) := by
  have hlm : l.length = m := by have := own_len ho; rw [vI_length] at this; omega
  have hmc : m ≤ c ∧ c ≤ 9223372036854775807 := by
    rcases ho.2 with ⟨h, _⟩ | ⟨g', cap, cur, hv, _, _, h1, h2, _⟩
    · cases h
    · injection hv with _ _ h3
      unfold maxLen at h2
      omega
  have hrd := Rd.of_own ho
  have hm' : cutTo l v l.length = cutTo l v m := by rw [hlm]
  have HL := Lib.hid hlm
  have HO := Lib.hid ho
  have HCM := Lib.hid hm'
  clear hlm ho hm'
  go_enter Tryz.func70, Tryz.ntmps70
  go_wp2
  go_loopw [5] (fun e wr => ∃ k : Nat, k ≤ m ∧ e = .int .i64 k ∧ cutTo l v m = cutTo l v k ∧ Below w.heap.size w wr) (fun e _ => (intOf e).toNat)
  case atStart => exact ⟨m, Nat.le_refl _, rfl, rfl, Below.refl _ _⟩
  case round =>
    obtain ⟨k, hk, rfl, hcut, hb⟩ := hrel
    have hrw := hrd.below hb
    -- what stands behind the loop
    have HIN : Hid (∀ (k' : Nat), cutTo l v m = k' → k' ≤ m → ¬ (0 < k' ∧ l.getD (k' - 1) 0 = v) → putI l v = l.take k' ++ [v] ++ l.drop k') := fun k' h1 h2 h3 => putI_new (HCM.out.trans h1) h3
    by_cases hk0 : 0 < k
    · obtain ⟨j, hjk⟩ : ∃ j, k = j + 1 := ⟨k - 1, by omega⟩
      have hjl : j < l.length := by rw [HL.out]; omega
      obtain ⟨g', off, he, _, c1⟩ := RdI.at_ hrw hjl
      simp only [Option.some.injEq, Addr.mk.injEq, and_true] at he
      obtain ⟨rfl, rfl⟩ := he
      rw [Nat.zero_add] at c1
      have hgd : l.getD j 0 = l[j] := by rw [List.getD_eq_getElem?_getD, List.getElem?_eq_getElem hjl]; rfl
      obtain ⟨x, hx⟩ : ∃ x, l[j] = x := ⟨_, rfl⟩
      rw [hx] at c1 hgd
      have HG := Lib.hid hgd
      have hj1 : (k : Int) - 1 = (j : Int) := by omega
      have hj0 : (0 : Int) ≤ (j : Int) := by omega
      have hjm : (j : Int) < (m : Int) := by omega
      have hjp : (0 : Int) < (k : Int) := by omega
      have HJ := Lib.hid hjk
      rw [hjk] at hcut
      have HC := Lib.hid hcut
      clear hgd hx hcut hjk
      by_cases hvx : v < x
      · have HN : Hid (cutTo l v m = cutTo l v j) := by show cutTo l v m = _; rw [HC.out]; show (if v < l.getD j 0 then _ else _) = _; rw [HG.out, if_pos hvx]
        go_wp2_with fail
        exact ⟨⟨j, by omega, rfl, HN.out, hb⟩, by simp [intOf]; have := HJ.out; omega⟩
      · have HN : Hid (cutTo l v m = k) := by show cutTo l v m = _; rw [HC.out, HJ.out]; show (if v < l.getD j 0 then _ else _) = _; rw [HG.out, if_neg hvx]
        have hvd : decide (v < x) = false := by simpa using hvx
        by_cases hxv : x = v
        · subst hxv
          have HV := Lib.hid (putI_same (HCM.out.trans HN.out) (by omega) (by rw [HJ.out]; exact HG.out))
          have e1 : (x == x) = true := by simp
          go_wp2
          go_ret
          exact ⟨_, _, _, rfl, by rw [HV.out]; exact own_keep HO.out hb, hb⟩
        · have HV := Lib.hid (HIN.out k HN.out hk (fun h => hxv (by rw [← HG.out]; have := h.2; rwa [HJ.out] at this)))
          have e1 : (x == v) = false := by simpa using hxv
          clear hxv hvx
          go_wp2_with fail
          obtain ⟨i0, hi, hz0, hz1, hz2⟩ := info_parts infoI
          have hs1 : ∀ w', (Instr.slice 22 (.slice (some ⟨g, 0, none⟩) m c) none (some (.int .i64 ((k : Int)))) none).run Tryz.prog w' = .ok (.slice (some ⟨g, 0, none⟩) (k) c) w' := fun w' => run_upto w' g m c (k) (by omega)
          have hs2 : ∀ w', (Instr.slice 22 (.slice (some ⟨g, 0, none⟩) m c) (some (.int .i64 ((k : Int)))) none none).run Tryz.prog w' = .ok (.slice (some ⟨g, offK c (k), none⟩) (m - (k)) (c - (k))) w' := fun w' => run_from w' g m c (k) (by omega)
          have r2 : Rd wr (some ⟨g, offK c (k), none⟩) (vI (l.drop (k))) := Rd.from_ hrw HL.out hmc.1
          have r1 : Rd wr (some ⟨g, 0, none⟩) (vI (l.take (k))) := by rw [vI_take]; exact Rd.take hrw _
          have L1 : Hid ((l.take (k)).length = k) := by show (l.take (k)).length = k; rw [List.length_take, HL.out]; omega
          have L2 : Hid ((l.drop (k)).length = m - (k)) := by show (l.drop (k)).length = m - (k); rw [List.length_drop, HL.out]
          have R1 := Lib.hid r1
          have R2 := Lib.hid r2
          have HI := Lib.hid hi
          have HZ0 := Lib.hid hz0
          have HZ1 := Lib.hid hz1
          have HZ2 := Lib.hid hz2
          clear r1 r2 hi hz0 hz1 hz2
          refine wp_region_rg 13 rfl (by kernel_rfl) ?_
          (refine rgT (i := 1) (v := ?_) rfl rfl (by kernel_rfl) (by kernel_rfl) (by kernel_rfl) (by rfl) (fun w' hcw => ?_) ?_; rotate_left; ((try dsimp only at hcw); have hbc := hcw.cells; go_simp; first | done | with_reducible rfl); simp only [List.setIfInBounds_toArray, List.set_cons_zero, List.set_cons_succ])
          (refine rgT (i := 2) (v := ?_) rfl rfl (by kernel_rfl) (by kernel_rfl) (by kernel_rfl) (by rfl) (fun w' hcw => ?_) ?_; rotate_left; ((try dsimp only at hcw); have hbc := hcw.cells; go_simp; first | done | with_reducible rfl); simp only [List.setIfInBounds_toArray, List.set_cons_zero, List.set_cons_succ])
          (refine rgT (i := 3) (v := ?_) rfl rfl (by kernel_rfl) (by kernel_rfl) (by kernel_rfl) (by rfl) (fun w' hcw => ?_) ?_; rotate_left; ((try dsimp only at hcw); have hbc := hcw.cells; go_simp; first | done | with_reducible rfl); simp only [List.setIfInBounds_toArray, List.set_cons_zero, List.set_cons_succ])
          (refine rgT (i := 5) (v := ?_) rfl rfl (by kernel_rfl) (by kernel_rfl) (by kernel_rfl) (by rfl) (fun w' hcw => ?_) ?_; rotate_left; ((try dsimp only at hcw); have hbc := hcw.cells; go_simp; first | done | with_reducible rfl); simp only [List.setIfInBounds_toArray, List.set_cons_zero, List.set_cons_succ])
          (refine rgT (i := 8) (v := ?_) rfl rfl (by kernel_rfl) (by kernel_rfl) (by kernel_rfl) (by rfl) (fun w' hcw => ?_) ?_; rotate_left; ((try dsimp only at hcw); have hbc := hcw.cells; go_simp; first | done | with_reducible rfl); simp only [List.setIfInBounds_toArray, List.set_cons_zero, List.set_cons_succ])
          (refine rgT (i := 9) (v := ?_) rfl rfl (by kernel_rfl) (by kernel_rfl) (by kernel_rfl) (by rfl) (fun w' hcw => ?_) ?_; rotate_left; ((try dsimp only at hcw); have hbc := hcw.cells; go_simp; first | done | with_reducible rfl); simp only [List.setIfInBounds_toArray, List.set_cons_zero, List.set_cons_succ])
          (refine rgT (i := 10) (v := ?_) rfl rfl (by kernel_rfl) (by kernel_rfl) (by kernel_rfl) (by rfl) (fun w' hcw => ?_) ?_; rotate_left; ((try dsimp only at hcw); have hbc := hcw.cells; go_simp; first | done | with_reducible rfl); simp only [List.setIfInBounds_toArray, List.set_cons_zero, List.set_cons_succ])
          refine ins_tail (T := 22) (e := 3) (i := i0) (z := .int .i64 0) (size := 1) (bytes := 8) (i0 := 0) (iA := 4) (iN := 6) (iB := 7) (iD := 11) (iE := 12) (s0 := 33) (sA := 37) (sN := 39) (sB := 40) (sD := 44) (dE := 4) (t1 := 36) (t2 := 43) (xn := .tmp 38) (vn := .int .i64 v) (news := vI [v]) (vs1 := vI (l.take (k))) (vs2 := vI (l.drop (k))) (A1 := some ⟨g, 0, none⟩) (m1 := k) (c1 := c) (A2 := some ⟨g, offK c (k), none⟩) (m2 := m - (k)) (c2 := c - (k)) _ ?ht ?hi ?hz ?h1 ?h2 rfl (by omega) ⟨⟨_, rfl, rfl, rfl, fun a w => ?p0⟩, ⟨_, rfl, rfl, rfl, rfl⟩, ⟨_, rfl, rfl, rfl, fun a w h => ?pN⟩, ⟨_, rfl, rfl, rfl, rfl⟩, ⟨_, rfl, rfl, rfl, rfl⟩, ⟨_, rfl, rfl, rfl, rfl⟩⟩ ⟨by simp, by decide, by decide, by decide⟩ (fun a h => (h.eval (by decide)).trans rfl) (by kernel_rfl) (by kernel_rfl) (by kernel_rfl) (by kernel_rfl) (by kernel_rfl) (by decide) (by decide) (by kernel_rfl) (by kernel_rfl) (by kernel_rfl) (by kernel_rfl) rfl ?q1 ?l1 ?o1 rfl ?q2 ?l2 ?o2 ?ln ?on ?hm ?hb ?hQ
          case ht => exact Tryz.underlying22
          case hi => exact HI.out
          case hz => exact HZ0.out
          case h1 => exact HZ1.out
          case h2 => exact HZ2.out
          case p0 => simp [go_sem, execOp]
          case pN => (generalize Act.eval a = ρ at h ⊢; simp [go_sem, execOp, h, vI])
          case q1 => exact R1.out
          case l1 => rw [vI_length, L1.out] <;> omega
          case o1 => exact vI_one _
          case q2 => exact R2.out
          case l2 => rw [vI_length, L2.out] <;> omega
          case o2 => exact vI_one _
          case ln => rfl
          case on => exact vI_one _
          case hm => omega
          case hb => omega
          case hQ =>
            intro a' w' A' c' hfr hev how hex
            obtain ⟨v0, vA, vN, vB, vD, rfl⟩ := hfr.form hev
            rw [← vI_append, ← vI_append, ← HV.out] at how
            obtain ⟨g', rfl, _, _⟩ := own_at how (by omega)
            have HOW := Lib.hid (own_base how (Nat.le_trans hb0 hb.size))
            clear how hev hfr
            refine NoPanic.normal ?_
            simp only [List.setIfInBounds_toArray, List.set_cons_zero, List.set_cons_succ]
            go_wp2
            go_ret
            exact ⟨_, _, _, rfl, HOW.out, bel_trans hb hex⟩
    · obtain rfl : k = 0 := by omega
      have HC := Lib.hid hcut
      have HN : Hid (cutTo l v m = 0) := hcut
      have HV := Lib.hid (HIN.out 0 HN.out hk (fun h => absurd h.1 (by omega)))
      have e0 : ((0 : Nat) : Int) = 0 := rfl
      clear hcut
      go_wp2_with fail
      obtain ⟨i0, hi, hz0, hz1, hz2⟩ := info_parts infoI
      have hs1 : ∀ w', (Instr.slice 22 (.slice (some ⟨g, 0, none⟩) m c) none (some (.int .i64 (0))) none).run Tryz.prog w' = .ok (.slice (some ⟨g, 0, none⟩) (0) c) w' := fun w' => run_upto w' g m c (0) (by omega)
      have hs2 : ∀ w', (Instr.slice 22 (.slice (some ⟨g, 0, none⟩) m c) (some (.int .i64 (0))) none none).run Tryz.prog w' = .ok (.slice (some ⟨g, offK c (0), none⟩) (m - (0)) (c - (0))) w' := fun w' => run_from w' g m c (0) (by omega)
      have r2 : Rd wr (some ⟨g, offK c (0), none⟩) (vI (l.drop (0))) := Rd.from_ hrw HL.out hmc.1
      have r1 : Rd wr (some ⟨g, 0, none⟩) (vI (l.take (0))) := by rw [vI_take]; exact Rd.take hrw _
      have L1 : Hid ((l.take (0)).length = 0) := by show (l.take (0)).length = 0; rw [List.length_take, HL.out]; omega
      have L2 : Hid ((l.drop (0)).length = m - (0)) := by show (l.drop (0)).length = m - (0); rw [List.length_drop, HL.out]
      have R1 := Lib.hid r1
      have R2 := Lib.hid r2
      have HI := Lib.hid hi
      have HZ0 := Lib.hid hz0
      have HZ1 := Lib.hid hz1
      have HZ2 := Lib.hid hz2
      clear r1 r2 hi hz0 hz1 hz2
      refine wp_region_rg 13 rfl (by kernel_rfl) ?_
      (refine rgT (i := 1) (v := ?_) rfl rfl (by kernel_rfl) (by kernel_rfl) (by kernel_rfl) (by rfl) (fun w' hcw => ?_) ?_; rotate_left; ((try dsimp only at hcw); have hbc := hcw.cells; go_simp; first | done | with_reducible rfl); simp only [List.setIfInBounds_toArray, List.set_cons_zero, List.set_cons_succ])
      (refine rgT (i := 2) (v := ?_) rfl rfl (by kernel_rfl) (by kernel_rfl) (by kernel_rfl) (by rfl) (fun w' hcw => ?_) ?_; rotate_left; ((try dsimp only at hcw); have hbc := hcw.cells; go_simp; first | done | with_reducible rfl); simp only [List.setIfInBounds_toArray, List.set_cons_zero, List.set_cons_succ])
      (refine rgT (i := 3) (v := ?_) rfl rfl (by kernel_rfl) (by kernel_rfl) (by kernel_rfl) (by rfl) (fun w' hcw => ?_) ?_; rotate_left; ((try dsimp only at hcw); have hbc := hcw.cells; go_simp; first | done | with_reducible rfl); simp only [List.setIfInBounds_toArray, List.set_cons_zero, List.set_cons_succ])
      (refine rgT (i := 5) (v := ?_) rfl rfl (by kernel_rfl) (by kernel_rfl) (by kernel_rfl) (by rfl) (fun w' hcw => ?_) ?_; rotate_left; ((try dsimp only at hcw); have hbc := hcw.cells; go_simp; first | done | with_reducible rfl); simp only [List.setIfInBounds_toArray, List.set_cons_zero, List.set_cons_succ])
      (refine rgT (i := 8) (v := ?_) rfl rfl (by kernel_rfl) (by kernel_rfl) (by kernel_rfl) (by rfl) (fun w' hcw => ?_) ?_; rotate_left; ((try dsimp only at hcw); have hbc := hcw.cells; go_simp; first | done | with_reducible rfl); simp only [List.setIfInBounds_toArray, List.set_cons_zero, List.set_cons_succ])
      (refine rgT (i := 9) (v := ?_) rfl rfl (by kernel_rfl) (by kernel_rfl) (by kernel_rfl) (by rfl) (fun w' hcw => ?_) ?_; rotate_left; ((try dsimp only at hcw); have hbc := hcw.cells; go_simp; first | done | with_reducible rfl); simp only [List.setIfInBounds_toArray, List.set_cons_zero, List.set_cons_succ])
      (refine rgT (i := 10) (v := ?_) rfl rfl (by kernel_rfl) (by kernel_rfl) (by kernel_rfl) (by rfl) (fun w' hcw => ?_) ?_; rotate_left; ((try dsimp only at hcw); have hbc := hcw.cells; go_simp; first | done | with_reducible rfl); simp only [List.setIfInBounds_toArray, List.set_cons_zero, List.set_cons_succ])
      refine ins_tail (T := 22) (e := 3) (i := i0) (z := .int .i64 0) (size := 1) (bytes := 8) (i0 := 0) (iA := 4) (iN := 6) (iB := 7) (iD := 11) (iE := 12) (s0 := 33) (sA := 37) (sN := 39) (sB := 40) (sD := 44) (dE := 4) (t1 := 36) (t2 := 43) (xn := .tmp 38) (vn := .int .i64 v) (news := vI [v]) (vs1 := vI (l.take (0))) (vs2 := vI (l.drop (0))) (A1 := some ⟨g, 0, none⟩) (m1 := 0) (c1 := c) (A2 := some ⟨g, offK c (0), none⟩) (m2 := m - (0)) (c2 := c - (0)) _ ?ht ?hi ?hz ?h1 ?h2 rfl (by omega) ⟨⟨_, rfl, rfl, rfl, fun a w => ?p0⟩, ⟨_, rfl, rfl, rfl, rfl⟩, ⟨_, rfl, rfl, rfl, fun a w h => ?pN⟩, ⟨_, rfl, rfl, rfl, rfl⟩, ⟨_, rfl, rfl, rfl, rfl⟩, ⟨_, rfl, rfl, rfl, rfl⟩⟩ ⟨by simp, by decide, by decide, by decide⟩ (fun a h => (h.eval (by decide)).trans rfl) (by kernel_rfl) (by kernel_rfl) (by kernel_rfl) (by kernel_rfl) (by kernel_rfl) (by decide) (by decide) (by kernel_rfl) (by kernel_rfl) (by kernel_rfl) (by kernel_rfl) rfl ?q1 ?l1 ?o1 rfl ?q2 ?l2 ?o2 ?ln ?on ?hm ?hb ?hQ
      case ht => exact Tryz.underlying22
      case hi => exact HI.out
      case hz => exact HZ0.out
      case h1 => exact HZ1.out
      case h2 => exact HZ2.out
      case p0 => simp [go_sem, execOp]
      case pN => (generalize Act.eval a = ρ at h ⊢; simp [go_sem, execOp, h, vI])
      case q1 => exact R1.out
      case l1 => rw [vI_length, L1.out] <;> omega
      case o1 => exact vI_one _
      case q2 => exact R2.out
      case l2 => rw [vI_length, L2.out] <;> omega
      case o2 => exact vI_one _
      case ln => rfl
      case on => exact vI_one _
      case hm => omega
      case hb => omega
      case hQ =>
        intro a' w' A' c' hfr hev how hex
        obtain ⟨v0, vA, vN, vB, vD, rfl⟩ := hfr.form hev
        rw [← vI_append, ← vI_append, ← HV.out] at how
        obtain ⟨g', rfl, _, _⟩ := own_at how (by omega)
        have HOW := Lib.hid (own_base how (Nat.le_trans hb0 hb.size))
        clear how hev hfr
        refine NoPanic.normal ?_
        simp only [List.setIfInBounds_toArray, List.set_cons_zero, List.set_cons_succ]
        go_wp2
        go_ret
        exact ⟨_, _, _, rfl, HOW.out, bel_trans hb hex⟩
end Go.Proofs.YteelmhmdnljjnaaGreat
