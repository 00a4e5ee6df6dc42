/- Texts of this claim, one behind the other: part 3. -/
import Derived.Test.YtcgjnonlndaoeaaGreatDoorU2FnOverlaps
import Derived.Outline
import Derived.WalkLawsBesides
import Derived.WalkSpells
import Derived.BigQuiet
import Derived.Deep.QuietTactic
import Derived.Deep.RegionHeld3
import Derived.Deep.RegionWith
import Derived.Deep.DeepCutAuto
import Derived.Deep.CutBlock
import Derived.Deep.DrawnRows
import Derived.Deep.RegionLaw
/- A number put into a list in order: the reference. -/
namespace Go.Proofs.YtcgjnonlndaoeaaGreatDoor
open Go.RowKit
set_option linter.unusedVariables false
attribute [local go_sem ↓] Go.wp_at_zero Go.wp_at_succ

/-- How many numbers stay ahead of n. -/
def cutTo (l : List Int) (n : Int) : Nat → Nat
  | 0 => 0
  | k + 1 => if n < l.getD k 0 then cutTo l n k else k + 1
theorem cutTo_le (l : List Int) (n : Int) (k : Nat) : cutTo l n k ≤ k := by
  induction k with
  | zero => exact Nat.le_refl _
  | succ k ih => unfold cutTo; split <;> omega
def putI (l : List Int) (n : Int) : List Int :=
  if 0 < cutTo l n l.length ∧ l.getD (cutTo l n l.length - 1) 0 = n then l else l.take (cutTo l n l.length) ++ [n] ++ l.drop (cutTo l n l.length)
/-- A slice whose memory is the call's own, of some base. -/
def RetO (w : World) (base E sz : Nat) (vs : List Value) (e : Ending) (w' : World) : Prop :=
  ∃ g n c, e = .returned (.slice (some ⟨g, 0, none⟩) n c) ∧ w'.ownsRow base E sz (.slice (some ⟨g, 0, none⟩) n c) n vs ∧ Below w.heap.size w w'
theorem run_upto (w : World) (g m c k : Nat) (hk : k ≤ c) : (Instr.slice 22 (.slice (some ⟨g, 0, none⟩) m c) none (some (.int .i64 (k : Int))) none).run Tryz.prog w = .ok (.slice (some ⟨g, 0, none⟩) k c) w := by
  have h2 : (k : Int) ≤ (c : Int) := by omega
  simp [go_sem, h2]
def offK (c k : Nat) : Nat := if c = k then 0 else k
theorem run_from (w : World) (g m c k : Nat) (hk : k ≤ m) : (Instr.slice 22 (.slice (some ⟨g, 0, none⟩) m c) (some (.int .i64 (k : Int))) none none).run Tryz.prog w = .ok (.slice (some ⟨g, offK c k, none⟩) (m - k) (c - k)) w := by
  have h1 : (0 : Int) ≤ (k : Int) := by omega
  have h2 : (k : Int) ≤ (m : Int) := by omega
  unfold offK
  by_cases hc : c = k
  · subst hc
    simp [go_sem, h2]
  · simp [go_sem, h2, hc]
theorem Rd.from_ {w : World} {g c k m : Nat} {l : List Int} (h : Rd w (some ⟨g, 0, none⟩) (vI l)) (hl : l.length = m) (hmc : m ≤ c) : Rd w (some ⟨g, offK c k, none⟩) (vI (l.drop k)) := by
  have h2 := Rd.drop h k c (by rw [vI_length]; omega)
  rw [vI_drop]
  unfold offK
  split
  · next e => rw [if_pos e] at h2; exact h2
  · next e =>
    rw [if_neg e] at h2
    have e2 : (some ⟨g, 0, none⟩ : Option Addr).map (·.add k) = some ⟨g, k, none⟩ := by simp only [Option.map_some]; unfold Addr.add; split <;> simp_all
    rw [e2] at h2
    exact h2
theorem putI_same {l : List Int} {n : Int} {k : Nat} (hk : cutTo l n l.length = k) (h0 : 0 < k) (h1 : l.getD (k - 1) 0 = n) : putI l n = l := by unfold putI; rw [hk, if_pos ⟨h0, h1⟩]
theorem putI_new {l : List Int} {n : Int} {k : Nat} (hk : cutTo l n l.length = k) (h1 : ¬ (0 < k ∧ l.getD (k - 1) 0 = n)) : putI l n = l.take k ++ [n] ++ l.drop k := by unfold putI; rw [hk, if_neg h1]
set_option maxRecDepth 100000 in
set_option maxHeartbeats 1600000 in
theorem l7Put_s (g m c : Nat) (l : List Int) (v : Int) (base : Nat) (w : World) (ho : w.ownsRow base 3 1 (.slice (some ⟨g, 0, none⟩) m c) m (vI l)) (hb0 : base ≤ w.heap.size) (hm : m ≤ 1099511627775) :
    Calls Tryz.prog 70 #[.slice (some ⟨g, 0, none⟩) m c, .int .i64 v] w (RetO w base 3 1 (vI (putI l v))) := by
  have hlm : l.length = m := by have := own_len ho; rw [vI_length] at this; omega
  have hmc : m ≤ c ∧ c ≤ 9223372036854775807 := by
    rcases ho.2 with ⟨h, _⟩ | ⟨g', cap, cur, hv, _, _, h1, h2, _⟩
    · cases h
    · injection hv with _ _ h3
      unfold maxLen at h2
      omega
  have hrd := Rd.of_own ho
  have hm' : cutTo l v l.length = cutTo l v m := by rw [hlm]
  have HL := Lib.hid hlm
  have HO := Lib.hid ho
  have HCM := Lib.hid hm'
  clear hlm ho hm'
  go_enter Tryz.func70, Tryz.ntmps70
  go_wp2
  go_loopw [5] (fun e wr => ∃ k : Nat, k ≤ m ∧ e = .int .i64 k ∧ cutTo l v m = cutTo l v k ∧ Below w.heap.size w wr) (fun e _ => (intOf e).toNat)
  case atStart => exact ⟨m, Nat.le_refl _, rfl, rfl, Below.refl _ _⟩
  case round =>
    obtain ⟨k, hk, rfl, hcut, hb⟩ := hrel
    have hrw := hrd.below hb
    -- what stands behind the loop
    have HIN : Hid (∀ (k' : Nat), cutTo l v m = k' → k' ≤ m → ¬ (0 < k' ∧ l.getD (k' - 1) 0 = v) → putI l v = l.take k' ++ [v] ++ l.drop k') := fun k' h1 h2 h3 => putI_new (HCM.out.trans h1) h3
    by_cases hk0 : 0 < k
    · obtain ⟨j, hjk⟩ : ∃ j, k = j + 1 := ⟨k - 1, by omega⟩
      have hjl : j < l.length := by rw [HL.out]; omega
      obtain ⟨g', off, he, _, c1⟩ := RdI.at_ hrw hjl
      simp only [Option.some.injEq, Addr.mk.injEq, and_true] at he
      obtain ⟨rfl, rfl⟩ := he
      rw [Nat.zero_add] at c1
      have hgd : l.getD j 0 = l[j] := by rw [List.getD_eq_getElem?_getD, List.getElem?_eq_getElem hjl]; rfl
      obtain ⟨x, hx⟩ : ∃ x, l[j] = x := ⟨_, rfl⟩
      rw [hx] at c1 hgd
      have HG := Lib.hid hgd
      have hj1 : (k : Int) - 1 = (j : Int) := by omega
      have hj0 : (0 : Int) ≤ (j : Int) := by omega
      have hjm : (j : Int) < (m : Int) := by omega
      have hjp : (0 : Int) < (k : Int) := by omega
      have HJ := Lib.hid hjk
      rw [hjk] at hcut
      have HC := Lib.hid hcut
      clear hgd hx hcut hjk
      by_cases hvx : v < x
      · have HN : Hid (cutTo l v m = cutTo l v j) := by show cutTo l v m = _; rw [HC.out]; show (if v < l.getD j 0 then _ else _) = _; rw [HG.out, if_pos hvx]
        go_wp2_with fail
        exact ⟨⟨j, by omega, rfl, HN.out, hb⟩, by simp [intOf]; have := HJ.out; omega⟩
      · have HN : Hid (cutTo l v m = k) := by show cutTo l v m = _; rw [HC.out, HJ.out]; show (if v < l.getD j 0 then _ else _) = _; rw [HG.out, if_neg hvx]
        have hvd : decide (v < x) = false := by simpa using hvx
        by_cases hxv : x = v
        · subst hxv
          have HV := Lib.hid (putI_same (HCM.out.trans HN.out) (by omega) (by rw [HJ.out]; exact HG.out))
          have e1 : (x == x) = true := by simp
          go_wp2
          go_ret
          exact ⟨_, _, _, rfl, by rw [HV.out]; exact own_keep HO.out hb, hb⟩
        · have HV := Lib.hid (HIN.out k HN.out hk (fun h => hxv (by rw [← HG.out]; have := h.2; rwa [HJ.out] at this)))
          have e1 : (x == v) = false := by simpa using hxv
          clear hxv hvx
          go_wp2_with fail
          obtain ⟨i0, hi, hz0, hz1, hz2⟩ := info_parts infoI
          have hs1 : ∀ w', (Instr.slice 22 (.slice (some ⟨g, 0, none⟩) m c) none (some (.int .i64 ((k : Int)))) none).run Tryz.prog w' = .ok (.slice (some ⟨g, 0, none⟩) (k) c) w' := fun w' => run_upto w' g m c (k) (by omega)
          have hs2 : ∀ w', (Instr.slice 22 (.slice (some ⟨g, 0, none⟩) m c) (some (.int .i64 ((k : Int)))) none none).run Tryz.prog w' = .ok (.slice (some ⟨g, offK c (k), none⟩) (m - (k)) (c - (k))) w' := fun w' => run_from w' g m c (k) (by omega)
          have r2 : Rd wr (some ⟨g, offK c (k), none⟩) (vI (l.drop (k))) := Rd.from_ hrw HL.out hmc.1
          have r1 : Rd wr (some ⟨g, 0, none⟩) (vI (l.take (k))) := by rw [vI_take]; exact Rd.take hrw _
          have L1 : Hid ((l.take (k)).length = k) := by show (l.take (k)).length = k; rw [List.length_take, HL.out]; omega
          have L2 : Hid ((l.drop (k)).length = m - (k)) := by show (l.drop (k)).length = m - (k); rw [List.length_drop, HL.out]
          have R1 := Lib.hid r1
          have R2 := Lib.hid r2
          have HI := Lib.hid hi
          have HZ0 := Lib.hid hz0
          have HZ1 := Lib.hid hz1
          have HZ2 := Lib.hid hz2
          clear r1 r2 hi hz0 hz1 hz2
          refine wp_region_rg 13 rfl (by kernel_rfl) ?_
          (refine rgT (i := 1) (v := ?_) rfl rfl (by kernel_rfl) (by kernel_rfl) (by kernel_rfl) (by rfl) (fun w' hcw => ?_) ?_; rotate_left; ((try dsimp only at hcw); have hbc := hcw.cells; go_simp; first | done | with_reducible rfl); simp only [List.setIfInBounds_toArray, List.set_cons_zero, List.set_cons_succ])
          (refine rgT (i := 2) (v := ?_) rfl rfl (by kernel_rfl) (by kernel_rfl) (by kernel_rfl) (by rfl) (fun w' hcw => ?_) ?_; rotate_left; ((try dsimp only at hcw); have hbc := hcw.cells; go_simp; first | done | with_reducible rfl); simp only [List.setIfInBounds_toArray, List.set_cons_zero, List.set_cons_succ])
          (refine rgT (i := 3) (v := ?_) rfl rfl (by kernel_rfl) (by kernel_rfl) (by kernel_rfl) (by rfl) (fun w' hcw => ?_) ?_; rotate_left; ((try dsimp only at hcw); have hbc := hcw.cells; go_simp; first | done | with_reducible rfl); simp only [List.setIfInBounds_toArray, List.set_cons_zero, List.set_cons_succ])
          (refine rgT (i := 5) (v := ?_) rfl rfl (by kernel_rfl) (by kernel_rfl) (by kernel_rfl) (by rfl) (fun w' hcw => ?_) ?_; rotate_left; ((try dsimp only at hcw); have hbc := hcw.cells; go_simp; first | done | with_reducible rfl); simp only [List.setIfInBounds_toArray, List.set_cons_zero, List.set_cons_succ])
          (refine rgT (i := 8) (v := ?_) rfl rfl (by kernel_rfl) (by kernel_rfl) (by kernel_rfl) (by rfl) (fun w' hcw => ?_) ?_; rotate_left; ((try dsimp only at hcw); have hbc := hcw.cells; go_simp; first | done | with_reducible rfl); simp only [List.setIfInBounds_toArray, List.set_cons_zero, List.set_cons_succ])
          (refine rgT (i := 9) (v := ?_) rfl rfl (by kernel_rfl) (by kernel_rfl) (by kernel_rfl) (by rfl) (fun w' hcw => ?_) ?_; rotate_left; ((try dsimp only at hcw); have hbc := hcw.cells; go_simp; first | done | with_reducible rfl); simp only [List.setIfInBounds_toArray, List.set_cons_zero, List.set_cons_succ])
          (refine rgT (i := 10) (v := ?_) rfl rfl (by kernel_rfl) (by kernel_rfl) (by kernel_rfl) (by rfl) (fun w' hcw => ?_) ?_; rotate_left; ((try dsimp only at hcw); have hbc := hcw.cells; go_simp; first | done | with_reducible rfl); simp only [List.setIfInBounds_toArray, List.set_cons_zero, List.set_cons_succ])
          refine ins_tail (T := 22) (e := 3) (i := i0) (z := .int .i64 0) (size := 1) (bytes := 8) (i0 := 0) (iA := 4) (iN := 6) (iB := 7) (iD := 11) (iE := 12) (s0 := 33) (sA := 37) (sN := 39) (sB := 40) (sD := 44) (dE := 4) (t1 := 36) (t2 := 43) (xn := .tmp 38) (vn := .int .i64 v) (news := vI [v]) (vs1 := vI (l.take (k))) (vs2 := vI (l.drop (k))) (A1 := some ⟨g, 0, none⟩) (m1 := k) (c1 := c) (A2 := some ⟨g, offK c (k), none⟩) (m2 := m - (k)) (c2 := c - (k)) _ ?ht ?hi ?hz ?h1 ?h2 rfl (by omega) ⟨⟨_, rfl, rfl, rfl, fun a w => ?p0⟩, ⟨_, rfl, rfl, rfl, rfl⟩, ⟨_, rfl, rfl, rfl, fun a w h => ?pN⟩, ⟨_, rfl, rfl, rfl, rfl⟩, ⟨_, rfl, rfl, rfl, rfl⟩, ⟨_, rfl, rfl, rfl, rfl⟩⟩ ⟨by simp, by decide, by decide, by decide⟩ (fun a h => (h.eval (by decide)).trans rfl) (by kernel_rfl) (by kernel_rfl) (by kernel_rfl) (by kernel_rfl) (by kernel_rfl) (by decide) (by decide) (by kernel_rfl) (by kernel_rfl) (by kernel_rfl) (by kernel_rfl) rfl ?q1 ?l1 ?o1 rfl ?q2 ?l2 ?o2 ?ln ?on ?hm ?hb ?hQ
          case ht => exact Tryz.underlying22
          case hi => exact HI.out
          case hz => exact HZ0.out
          case h1 => exact HZ1.out
          case h2 => exact HZ2.out
          case p0 => simp [go_sem, execOp]
          case pN => (generalize Act.eval a = ρ at h ⊢; simp [go_sem, execOp, h, vI])
          case q1 => exact R1.out
          case l1 => rw [vI_length, L1.out] <;> omega
          case o1 => exact vI_one _
          case q2 => exact R2.out
          case l2 => rw [vI_length, L2.out] <;> omega
          case o2 => exact vI_one _
          case ln => rfl
          case on => exact vI_one _
          case hm => omega
          case hb => omega
          case hQ =>
            intro a' w' A' c' hfr hev how hex
            obtain ⟨v0, vA, vN, vB, vD, rfl⟩ := hfr.form hev
            rw [← vI_append, ← vI_append, ← HV.out] at how
            obtain ⟨g', rfl, _, _⟩ := own_at how (by omega)
            have HOW := Lib.hid (own_base how (Nat.le_trans hb0 hb.size))
            clear how hev hfr
            refine NoPanic.normal ?_
            simp only [List.setIfInBounds_toArray, List.set_cons_zero, List.set_cons_succ]
            go_wp2
            go_ret
            exact ⟨_, _, _, rfl, HOW.out, bel_trans hb hex⟩
    · obtain rfl : k = 0 := by omega
      have HC := Lib.hid hcut
      have HN : Hid (cutTo l v m = 0) := hcut
      have HV := Lib.hid (HIN.out 0 HN.out hk (fun h => absurd h.1 (by omega)))
      have e0 : ((0 : Nat) : Int) = 0 := rfl
      clear hcut
      go_wp2_with fail
      obtain ⟨i0, hi, hz0, hz1, hz2⟩ := info_parts infoI
      have hs1 : ∀ w', (Instr.slice 22 (.slice (some ⟨g, 0, none⟩) m c) none (some (.int .i64 (0))) none).run Tryz.prog w' = .ok (.slice (some ⟨g, 0, none⟩) (0) c) w' := fun w' => run_upto w' g m c (0) (by omega)
      have hs2 : ∀ w', (Instr.slice 22 (.slice (some ⟨g, 0, none⟩) m c) (some (.int .i64 (0))) none none).run Tryz.prog w' = .ok (.slice (some ⟨g, offK c (0), none⟩) (m - (0)) (c - (0))) w' := fun w' => run_from w' g m c (0) (by omega)
      have r2 : Rd wr (some ⟨g, offK c (0), none⟩) (vI (l.drop (0))) := Rd.from_ hrw HL.out hmc.1
      have r1 : Rd wr (some ⟨g, 0, none⟩) (vI (l.take (0))) := by rw [vI_take]; exact Rd.take hrw _
      have L1 : Hid ((l.take (0)).length = 0) := by show (l.take (0)).length = 0; rw [List.length_take, HL.out]; omega
      have L2 : Hid ((l.drop (0)).length = m - (0)) := by show (l.drop (0)).length = m - (0); rw [List.length_drop, HL.out]
      have R1 := Lib.hid r1
      have R2 := Lib.hid r2
      have HI := Lib.hid hi
      have HZ0 := Lib.hid hz0
      have HZ1 := Lib.hid hz1
      have HZ2 := Lib.hid hz2
      clear r1 r2 hi hz0 hz1 hz2
      refine wp_region_rg 13 rfl (by kernel_rfl) ?_
      (refine rgT (i := 1) (v := ?_) rfl rfl (by kernel_rfl) (by kernel_rfl) (by kernel_rfl) (by rfl) (fun w' hcw => ?_) ?_; rotate_left; ((try dsimp only at hcw); have hbc := hcw.cells; go_simp; first | done | with_reducible rfl); simp only [List.setIfInBounds_toArray, List.set_cons_zero, List.set_cons_succ])
      (refine rgT (i := 2) (v := ?_) rfl rfl (by kernel_rfl) (by kernel_rfl) (by kernel_rfl) (by rfl) (fun w' hcw => ?_) ?_; rotate_left; ((try dsimp only at hcw); have hbc := hcw.cells; go_simp; first | done | with_reducible rfl); simp only [List.setIfInBounds_toArray, List.set_cons_zero, List.set_cons_succ])
      (refine rgT (i := 3) (v := ?_) rfl rfl (by kernel_rfl) (by kernel_rfl) (by kernel_rfl) (by rfl) (fun w' hcw => ?_) ?_; rotate_left; ((try dsimp only at hcw); have hbc := hcw.cells; go_simp; first | done | with_reducible rfl); simp only [List.setIfInBounds_toArray, List.set_cons_zero, List.set_cons_succ])
      (refine rgT (i := 5) (v := ?_) rfl rfl (by kernel_rfl) (by kernel_rfl) (by kernel_rfl) (by rfl) (fun w' hcw => ?_) ?_; rotate_left; ((try dsimp only at hcw); have hbc := hcw.cells; go_simp; first | done | with_reducible rfl); simp only [List.setIfInBounds_toArray, List.set_cons_zero, List.set_cons_succ])
      (refine rgT (i := 8) (v := ?_) rfl rfl (by kernel_rfl) (by kernel_rfl) (by kernel_rfl) (by rfl) (fun w' hcw => ?_) ?_; rotate_left; ((try dsimp only at hcw); have hbc := hcw.cells; go_simp; first | done | with_reducible rfl); simp only [List.setIfInBounds_toArray, List.set_cons_zero, List.set_cons_succ])
      (refine rgT (i := 9) (v := ?_) rfl rfl (by kernel_rfl) (by kernel_rfl) (by kernel_rfl) (by rfl) (fun w' hcw => ?_) ?_; rotate_left; ((try dsimp only at hcw); have hbc := hcw.cells; go_simp; first | done | with_reducible rfl); simp only [List.setIfInBounds_toArray, List.set_cons_zero, List.set_cons_succ])
      (refine rgT (i := 10) (v := ?_) rfl rfl (by kernel_rfl) (by kernel_rfl) (by kernel_rfl) (by rfl) (fun w' hcw => ?_) ?_; rotate_left; ((try dsimp only at hcw); have hbc := hcw.cells; go_simp; first | done | with_reducible rfl); simp only [List.setIfInBounds_toArray, List.set_cons_zero, List.set_cons_succ])
      refine ins_tail (T := 22) (e := 3) (i := i0) (z := .int .i64 0) (size := 1) (bytes := 8) (i0 := 0) (iA := 4) (iN := 6) (iB := 7) (iD := 11) (iE := 12) (s0 := 33) (sA := 37) (sN := 39) (sB := 40) (sD := 44) (dE := 4) (t1 := 36) (t2 := 43) (xn := .tmp 38) (vn := .int .i64 v) (news := vI [v]) (vs1 := vI (l.take (0))) (vs2 := vI (l.drop (0))) (A1 := some ⟨g, 0, none⟩) (m1 := 0) (c1 := c) (A2 := some ⟨g, offK c (0), none⟩) (m2 := m - (0)) (c2 := c - (0)) _ ?ht ?hi ?hz ?h1 ?h2 rfl (by omega) ⟨⟨_, rfl, rfl, rfl, fun a w => ?p0⟩, ⟨_, rfl, rfl, rfl, rfl⟩, ⟨_, rfl, rfl, rfl, fun a w h => ?pN⟩, ⟨_, rfl, rfl, rfl, rfl⟩, ⟨_, rfl, rfl, rfl, rfl⟩, ⟨_, rfl, rfl, rfl, rfl⟩⟩ ⟨by simp, by decide, by decide, by decide⟩ (fun a h => (h.eval (by decide)).trans rfl) (by kernel_rfl) (by kernel_rfl) (by kernel_rfl) (by kernel_rfl) (by kernel_rfl) (by decide) (by decide) (by kernel_rfl) (by kernel_rfl) (by kernel_rfl) (by kernel_rfl) rfl ?q1 ?l1 ?o1 rfl ?q2 ?l2 ?o2 ?ln ?on ?hm ?hb ?hQ
      case ht => exact Tryz.underlying22
      case hi => exact HI.out
      case hz => exact HZ0.out
      case h1 => exact HZ1.out
      case h2 => exact HZ2.out
      case p0 => simp [go_sem, execOp]
      case pN => (generalize Act.eval a = ρ at h ⊢; simp [go_sem, execOp, h, vI])
      case q1 => exact R1.out
      case l1 => rw [vI_length, L1.out] <;> omega
      case o1 => exact vI_one _
      case q2 => exact R2.out
      case l2 => rw [vI_length, L2.out] <;> omega
      case o2 => exact vI_one _
      case ln => rfl
      case on => exact vI_one _
      case hm => omega
      case hb => omega
      case hQ =>
        intro a' w' A' c' hfr hev how hex
        obtain ⟨v0, vA, vN, vB, vD, rfl⟩ := hfr.form hev
        rw [← vI_append, ← vI_append, ← HV.out] at how
        obtain ⟨g', rfl, _, _⟩ := own_at how (by omega)
        have HOW := Lib.hid (own_base how (Nat.le_trans hb0 hb.size))
        clear how hev hfr
        refine NoPanic.normal ?_
        simp only [List.setIfInBounds_toArray, List.set_cons_zero, List.set_cons_succ]
        go_wp2
        go_ret
        exact ⟨_, _, _, rfl, HOW.out, bel_trans hb hex⟩
end Go.Proofs.YtcgjnonlndaoeaaGreatDoor

/- Numbers in order, each once: the program's way and the reference's way come to one list. No program is in sight. -/
namespace Go.Proofs.YtcgjnonlndaoeaaGreatDoor
open Go.RowKit
set_option linter.unusedVariables false
abbrev Inc (l : List Int) : Prop := l.Pairwise (· < ·)
theorem inc_eq : ∀ (a b : List Int), Inc a → Inc b → (∀ x, x ∈ a ↔ x ∈ b) → a = b
  | [], [], _, _, _ => rfl
  | [], y :: t, _, _, h => absurd ((h y).2 (by simp)) (by simp)
  | x :: s, [], _, _, h => absurd ((h x).1 (by simp)) (by simp)
  | x :: s, y :: t, ha, hb, h => by
    obtain ⟨a1, a2⟩ := List.pairwise_cons.1 ha
    obtain ⟨b1, b2⟩ := List.pairwise_cons.1 hb
    have hxy : x = y := by
      rcases Int.lt_trichotomy x y with h1 | h1 | h1
      · rcases List.mem_cons.1 ((h x).1 (by simp)) with h2 | h2
        · exact h2
        · have := b1 x h2; omega
      · exact h1
      · rcases List.mem_cons.1 ((h y).2 (by simp)) with h2 | h2
        · exact h2.symm
        · have := a1 y h2; omega
    subst hxy
    congr 1
    refine inc_eq s t a2 b2 fun z => ⟨fun hz => ?_, fun hz => ?_⟩
    · rcases List.mem_cons.1 ((h z).1 (by simp [hz])) with h2 | h2
      · have := a1 z hz; omega
      · exact h2
    · rcases List.mem_cons.1 ((h z).2 (by simp [hz])) with h2 | h2
      · have := b1 z hz; omega
      · exact h2
theorem cutTo_above (l : List Int) (n : Int) : ∀ k, k ≤ l.length → ∀ i, cutTo l n k ≤ i → i < k → n < l.getD i 0
  | 0, _, i, _, h => absurd h (by omega)
  | k + 1, hk, i, hc, hi => by
    unfold cutTo at hc
    split at hc
    · next h =>
      rcases Nat.lt_or_ge i k with h1 | h1
      · exact cutTo_above l n k (by omega) i hc h1
      · obtain rfl : i = k := by omega
        exact h
    · omega
theorem cutTo_at (l : List Int) (n : Int) : ∀ k, 0 < cutTo l n k → l.getD (cutTo l n k - 1) 0 ≤ n
  | 0, h => absurd h (by simp [cutTo])
  | k + 1, h => by
    unfold cutTo at h ⊢
    split
    · next h1 => rw [if_pos h1] at h; exact cutTo_at l n k h
    · next h1 => simpa using h1
theorem inc_get {l : List Int} (h : Inc l) {i j : Nat} (hij : i < j) (hj : j < l.length) : l.getD i 0 < l.getD j 0 := by
  rw [Inc, List.pairwise_iff_getElem] at h
  have := h i j (by omega) hj hij
  simpa [List.getD_eq_getElem?_getD, hj, show i < l.length by omega] using this
theorem putI_inc {l : List Int} (h : Inc l) (n : Int) : Inc (putI l n) ∧ ∀ x, x ∈ putI l n ↔ x ∈ l ∨ x = n := by
  unfold putI
  have hk := cutTo_le l n l.length
  have ha := cutTo_above l n l.length (Nat.le_refl _)
  have hat := cutTo_at l n l.length
  generalize cutTo l n l.length = k at hk ha hat
  split
  · next hc =>
    refine ⟨h, fun x => ⟨.inl, fun hx => ?_⟩⟩
    rcases hx with hx | rfl
    · exact hx
    · rw [← hc.2, List.getD_eq_getElem?_getD, List.getElem?_eq_getElem (by omega)]; exact List.getElem_mem _
  · next hc =>
    have hlt : 0 < k → l.getD (k - 1) 0 < n := fun h0 => by
      have := hat h0
      have hne : l.getD (k - 1) 0 ≠ n := fun e => hc ⟨h0, e⟩
      omega
    have hfront : ∀ x ∈ l.take k, x < n := by
      intro x hx
      obtain ⟨i, hi, rfl⟩ := List.mem_iff_getElem.1 hx
      rw [List.length_take] at hi
      rw [List.getElem_take]
      have h1 := hlt (by omega)
      rcases Nat.lt_or_ge i (k - 1) with h2 | h2
      · have := inc_get h h2 (by omega)
        rw [List.getD_eq_getElem?_getD, List.getElem?_eq_getElem (by omega)] at this
        simp only [Option.getD_some] at this
        omega
      · obtain rfl : i = k - 1 := by omega
        rw [List.getD_eq_getElem?_getD, List.getElem?_eq_getElem (by omega)] at h1
        exact h1
    have hback : ∀ x ∈ l.drop k, n < x := by
      intro x hx
      obtain ⟨i, hi, rfl⟩ := List.mem_iff_getElem.1 hx
      rw [List.length_drop] at hi
      rw [List.getElem_drop]
      have := ha (k + i) (by omega) (by omega)
      rwa [List.getD_eq_getElem?_getD, List.getElem?_eq_getElem (by omega)] at this
    refine ⟨?_, fun x => ?_⟩
    · rw [Inc, List.append_assoc, List.pairwise_append]
      refine ⟨List.Pairwise.sublist (List.take_sublist _ _) h, ?_, fun x hx y hy => ?_⟩
      · rw [List.singleton_append, List.pairwise_cons]
        exact ⟨hback, List.Pairwise.sublist (List.drop_sublist _ _) h⟩
      · have := hfront x hx
        rcases List.mem_append.1 hy with hy | hy
        · simp only [List.mem_singleton] at hy; omega
        · have := hback y hy; omega
    · simp only [List.mem_append, List.mem_singleton]
      constructor
      · rintro ((h1 | h1) | h1)
        · exact .inl (List.mem_of_mem_take h1)
        · exact .inr h1
        · exact .inl (List.mem_of_mem_drop h1)
      · rintro (h1 | h1)
        · rw [← List.take_append_drop k l] at h1
          rcases List.mem_append.1 h1 with h2 | h2
          · exact .inl (.inl h2)
          · exact .inr h2
        · exact .inl (.inr h1)
/-- The reference's way. -/
def putAll (l : List Int) : List Int := l.foldl putI []
theorem foldl_inc : ∀ (l acc : List Int), Inc acc → Inc (l.foldl putI acc) ∧ ∀ x, x ∈ l.foldl putI acc ↔ x ∈ acc ∨ x ∈ l
  | [], acc, h => ⟨h, fun x => by simp⟩
  | a :: t, acc, h => by
    obtain ⟨h1, h2⟩ := putI_inc h a
    obtain ⟨h3, h4⟩ := foldl_inc t (putI acc a) h1
    refine ⟨h3, fun x => ?_⟩
    rw [List.foldl_cons, h4, h2, List.mem_cons]
    constructor
    · rintro ((h | h) | h)
      · exact .inl h
      · exact .inr (.inl h)
      · exact .inr (.inr h)
    · rintro (h | h | h)
      · exact .inl (.inl h)
      · exact .inl (.inr h)
      · exact .inr h
/-- The program's way: sorted, and each but once. -/
def srt (l : List Int) : List Int := l.mergeSort fun x y => decide (x ≤ y)
def keepAt (s : List Int) (i : Nat) : Bool := i == 0 || s.getD (i - 1) 0 != s.getD i 0
def dedTo (s : List Int) : Nat → List Int
  | 0 => []
  | k + 1 => dedTo s k ++ (if keepAt s k then [s.getD k 0] else [])
def ord (l : List Int) : List Int := dedTo (srt l) (srt l).length
theorem srt_len (l : List Int) : (srt l).length = l.length := List.length_mergeSort _
theorem srt_mem (l : List Int) (x : Int) : x ∈ srt l ↔ x ∈ l := List.mem_mergeSort
theorem srt_le (l : List Int) : (srt l).Pairwise (· ≤ ·) := by
  have h := List.pairwise_mergeSort (le := fun x y : Int => decide (x ≤ y)) (fun a b c h1 h2 => by simp at *; omega) (fun a b => by simp; omega) l
  exact h.imp (fun h => by simpa using h)
theorem dedTo_len (s : List Int) (k : Nat) : (dedTo s k).length ≤ k := by
  induction k with
  | zero => simp [dedTo]
  | succ k ih => unfold dedTo; rw [List.length_append]; split <;> simp <;> omega
theorem dedTo_all {s : List Int} (hs : s.Pairwise (· ≤ ·)) : ∀ k, k ≤ s.length → Inc (dedTo s k) ∧ (∀ x, x ∈ dedTo s k ↔ x ∈ s.take k) ∧ ∀ x ∈ dedTo s k, 0 < k ∧ x ≤ s.getD (k - 1) 0
  | 0, _ => ⟨List.Pairwise.nil, fun x => by simp [dedTo], fun x hx => by simp [dedTo] at hx⟩
  | k + 1, hk => by
    obtain ⟨h1, h2, h3⟩ := dedTo_all hs k (by omega)
    have hkl : k < s.length := by omega
    have hg : s.getD k 0 = s[k] := by rw [List.getD_eq_getElem?_getD, List.getElem?_eq_getElem hkl]; rfl
    have hmono : 0 < k → s.getD (k - 1) 0 ≤ s.getD k 0 := fun h0 => by
      rw [List.pairwise_iff_getElem] at hs
      have := hs (k - 1) k (by omega) hkl (by omega)
      rw [hg, List.getD_eq_getElem?_getD, List.getElem?_eq_getElem (by omega)]
      exact this
    unfold dedTo
    rw [List.take_succ_eq_append_getElem hkl]
    cases hka : keepAt s k with
    | true =>
      rw [if_pos rfl, hg]
      refine ⟨?_, fun x => ?_, fun x hx => ⟨by omega, ?_⟩⟩
      · rw [Inc, List.pairwise_append]
        refine ⟨h1, by simp, fun x hx y hy => ?_⟩
        simp only [List.mem_singleton] at hy
        subst hy
        obtain ⟨h0, hle⟩ := h3 x hx
        have := hmono h0
        simp only [keepAt, Bool.or_eq_true, beq_iff_eq, bne_iff_ne, ne_eq] at hka
        rcases hka with h | h
        · omega
        · rw [hg] at this h; omega
      · simp only [List.mem_append, h2 x]
      · simp only [Nat.add_sub_cancel, hg]
        rcases List.mem_append.1 hx with hx | hx
        · obtain ⟨h0, hle⟩ := h3 x hx
          have := hmono h0
          rw [hg] at this; omega
        · simp only [List.mem_singleton] at hx; omega
    | false =>
      simp only [Bool.false_eq_true, if_false, List.append_nil]
      simp only [keepAt, Bool.or_eq_false_iff, beq_eq_false_iff_ne, bne_eq_false_iff_eq, ne_eq] at hka
      refine ⟨h1, fun x => ?_, fun x hx => ⟨by omega, ?_⟩⟩
      · rw [h2 x, List.mem_append, List.mem_singleton]
        refine ⟨.inl, fun h => ?_⟩
        rcases h with h | h
        · exact h
        · rw [h, ← hg, ← hka.2, List.getD_eq_getElem?_getD, List.getElem?_eq_getElem (by omega)]
          simp only [Option.getD_some]
          rw [List.mem_iff_getElem]
          exact ⟨k - 1, by rw [List.length_take]; omega, by rw [List.getElem_take]⟩
      · obtain ⟨h0, hle⟩ := h3 x hx
        have := hmono h0
        simp only [Nat.add_sub_cancel]
        omega
theorem ord_eq (l : List Int) : ord l = putAll l := by
  obtain ⟨h1, h2, _⟩ := dedTo_all (srt_le l) (srt l).length (Nat.le_refl _)
  obtain ⟨h3, h4⟩ := foldl_inc l [] List.Pairwise.nil
  refine inc_eq _ _ h1 h3 fun x => ?_
  unfold putAll
  rw [h4]
  rw [show ord l = dedTo (srt l) (srt l).length from rfl, h2, List.take_length, srt_mem]
  simp
theorem ord_len (l : List Int) : (ord l).length ≤ l.length := Nat.le_trans (dedTo_len (srt l) _) (Nat.le_of_eq (srt_len l))
end Go.Proofs.YtcgjnonlndaoeaaGreatDoor

/- Whether a region is right: both sides. -/
namespace Go.Proofs.YtcgjnonlndaoeaaGreatDoor
open Go.RowKit
set_option linter.unusedVariables false
attribute [local go_sem ↓] Go.wp_at_zero Go.wp_at_succ
def vR (W : Int) (A : Option Addr) (n c : Nat) : Value := .agg #[.int .i64 W, .slice A n c]
def sideB (x : Int) : Bool := decide (1 ≤ x) && decide (x ≤ 6)
def okRow (W x : Int) : Bool := decide (0 ≤ x) && decide (x < 2 ^ W.toNat)
theorem isReg_eq (W : Int) (rows : List Int) : isReg W rows = ((sideB W && sideB (rows.length : Int)) && rows.all (okRow W)) := rfl
theorem all_dropI {P : Int → Bool} {F : List Int} {k : Nat} (h : k < F.length) : (F.drop k).all P = (P F[k] && (F.drop (k + 1)).all P) := by
  rw [List.drop_eq_getElem_cons h]
  rfl
theorem isSide_i (x : Int) (w : World) : Calls Tryz.prog 93 #[.int .i64 x] w (Ret w (.bool (sideB x))) := by
  go_enter Tryz.func93, Tryz.ntmps93
  go_wp2_with fail
  refine (between_b _ _ _ _ _ (rfl : sideB x = _)).mono ?_
  rintro e w1 ⟨rfl, hb⟩
  go_wp2_with fail
  go_ret
  exact ⟨rfl, hb⟩
set_option maxHeartbeats 800000 in
theorem IsRegion_i (W : Int) (A : Option Addr) (n c : Nat) (rows : List Int) (w : World) (hr : Rd w A (vI rows)) (hl : rows.length = n) :
    Calls Tryz.prog 73 #[.agg #[.int .i64 W, .slice A n c]] w (Ret w (.bool (isReg W rows))) := by
  have HL := Lib.hid hl
  have hE := isReg_eq W rows
  rw [hl] at hE
  cases h1 : sideB W with
  | false =>
    rw [h1] at hE
    have HV : Hid (isReg W rows = false) := hE
    have H1 := Lib.hid h1
    clear hE h1 hl
    go_enter Tryz.func73, Tryz.ntmps73
    go_wp2_with fail
    refine (isSide_i _ _).mono ?_
    rw [H1.out]
    rintro e w1 ⟨rfl, hb1⟩
    go_wp2_with fail
    go_ret
    exact ⟨by rw [HV.out]; rfl, (by (repeat (first | with_reducible exact Below.refl _ _ | with_reducible assumption | with_reducible apply bel_alloc | with_reducible apply bel_drew | with_reducible apply bel_drewN | ((with_reducible refine bel_set ?_ ?_); rotate_left; (simp <;> omega)) | (with_reducible refine bel_trans ?_ (by with_reducible assumption)))))⟩
  | true =>
    cases h2 : sideB (n : Int) with
    | false =>
      rw [h1, h2] at hE
      have HV : Hid (isReg W rows = false) := hE
      have H1 := Lib.hid h1
      have H2 := Lib.hid h2
      clear hE h1 h2 hl
      go_enter Tryz.func73, Tryz.ntmps73
      go_wp2_with fail
      refine (isSide_i _ _).mono ?_
      rw [H1.out]
      rintro e w1 ⟨rfl, hb1⟩
      have c1 : w1.cell? ⟨w.heap.size, 1, none⟩ = some (.slice A n c) := by simpa using ((Blk.new w 29 #[.int .i64 W, .slice A n c]).below hb1).cell 1
      go_wp2_with fail
      refine (isSide_i _ _).mono ?_
      rw [H2.out]
      rintro e w2 ⟨rfl, hb2⟩
      go_wp2_with fail
      go_ret
      exact ⟨by rw [HV.out]; rfl, (by (repeat (first | with_reducible exact Below.refl _ _ | with_reducible assumption | with_reducible apply bel_alloc | with_reducible apply bel_drew | with_reducible apply bel_drewN | ((with_reducible refine bel_set ?_ ?_); rotate_left; (simp <;> omega)) | (with_reducible refine bel_trans ?_ (by with_reducible assumption)))))⟩
    | true =>
      rw [h1, h2] at hE
      have HV : Hid (isReg W rows = (rows.drop 0).all (okRow W)) := hE
      have H1 := Lib.hid h1
      have H2 := Lib.hid h2
      have hW : 1 ≤ W ∧ W ≤ 6 := by simpa [sideB] using h1
      have hN : 1 ≤ n ∧ n ≤ 6 := by have : 1 ≤ (n : Int) ∧ (n : Int) ≤ 6 := by simpa [sideB] using h2
                                    omega
      obtain ⟨hW1, hW2⟩ := hW
      obtain ⟨hN1, hN2⟩ := hN
      clear hE h1 h2 hl
      go_enter Tryz.func73, Tryz.ntmps73
      go_wp2_with fail
      refine (isSide_i _ _).mono ?_
      rw [H1.out]
      rintro e w1 ⟨rfl, hb1⟩
      have c1 : w1.cell? ⟨w.heap.size, 1, none⟩ = some (.slice A n c) := by simpa using ((Blk.new w 29 #[.int .i64 W, .slice A n c]).below hb1).cell 1
      go_wp2_with fail
      refine (isSide_i _ _).mono ?_
      rw [H2.out]
      rintro e w2 ⟨rfl, hb2⟩
      have hB2 : Blk w2 w.heap.size 29 #[.int .i64 W, .slice A n c] := ((Blk.new w 29 #[.int .i64 W, .slice A n c]).below hb1).below hb2
      have HB2 := Lib.hid hB2
      have hr2 : Rd w2 A (vI rows) := ((hr.alloc _).below hb1).below hb2
      have HR2 := Lib.hid hr2
      have c2 : w2.cell? ⟨w.heap.size, 1, none⟩ = some (.slice A n c) := by simpa using hB2.cell 1
      clear hB2 hr2 c1
      go_wp2_with fail
      go_loopw [19] (fun i wr => ∃ k : Nat, k ≤ n ∧ i = .int .i64 k ∧ (rows.drop 0).all (okRow W) = (rows.drop k).all (okRow W) ∧ Below w2.heap.size w2 wr) (fun i _ => n - (intOf i).toNat)
      case atStart => exact ⟨0, Nat.zero_le _, rfl, rfl, Below.refl _ _⟩
      case round =>
        obtain ⟨k, hk, rfl, hall, hb⟩ := hrel
        clear c2
        by_cases hlt : k < n
        · have hkl : k < rows.length := by rw [HL.out]; exact hlt
          have hk0 : (0 : Int) ≤ (k : Int) := by omega
          have hk1 : (k : Int) < (n : Int) := by omega
          obtain ⟨g, off, rfl, hg, d1⟩ := RdI.at_ (HR2.out.below hb) hkl
          have d2 : wr.cell? ⟨w.heap.size, 0, none⟩ = some (.int .i64 W) := by simpa using (HB2.out.below hb).cell 0
          rw [all_dropI hkl] at hall
          obtain ⟨x, hx⟩ : ∃ x, rows[k] = x := ⟨_, rfl⟩
          rw [hx] at hall d1
          obtain ⟨p, hp⟩ : ∃ p : Int, (2 : Int) ^ W.toNat = p := ⟨_, rfl⟩
          have hp0 : 2 ≤ p ∧ p ≤ 64 := by
            rcases (by omega : W = 1 ∨ W = 2 ∨ W = 3 ∨ W = 4 ∨ W = 5 ∨ W = 6) with rfl | rfl | rfl | rfl | rfl | rfl <;> (simp at hp; omega)
          obtain ⟨hp2, hp64⟩ := hp0
          have hpw : IntKind.i64.wrap p = p := Go.IntWalk.i64_in p (by omega)
          have ho : okRow W x = (decide (0 ≤ x) && decide (x < p)) := by unfold okRow; rw [hp]
          rw [ho] at hall
          clear hx ho
          by_cases hx0 : x < 0
          · rw [show decide (0 ≤ x) = false from by simp; omega, Bool.false_and, Bool.false_and] at hall
            have HF : Hid (isReg W rows = false) := by rw [HV.out, hall]; rfl
            clear hall hp
            go_wp2
            go_ret
            exact ⟨by rw [HF.out]; rfl, (by (repeat (first | with_reducible exact Below.refl _ _ | with_reducible assumption | with_reducible apply bel_alloc | with_reducible apply bel_drew | with_reducible apply bel_drewN | ((with_reducible refine bel_set ?_ ?_); rotate_left; (simp <;> omega)) | (with_reducible refine bel_trans ?_ (by with_reducible assumption)))))⟩
          · by_cases hxp : x < p
            · rw [show decide (0 ≤ x) = true from by simp; omega, show decide (x < p) = true from by simpa using hxp, Bool.true_and, Bool.true_and] at hall
              have HA := Lib.hid hall
              have hge : ¬ (p ≤ x) := by omega
              clear hall
              go_wp2
              exact ⟨⟨k + 1, by omega, by go_num, HA.out, (by (repeat (first | with_reducible exact Below.refl _ _ | with_reducible assumption | with_reducible apply bel_alloc | with_reducible apply bel_drew | with_reducible apply bel_drewN | ((with_reducible refine bel_set ?_ ?_); rotate_left; (simp <;> omega)) | (with_reducible refine bel_trans ?_ (by with_reducible assumption)))))⟩, by simp [intOf]; omega⟩
            · rw [show decide (x < p) = false from by simpa using hxp, Bool.and_false, Bool.false_and] at hall
              have HF : Hid (isReg W rows = false) := by rw [HV.out, hall]; rfl
              have hge : p ≤ x := by omega
              clear hall
              go_wp2
              go_ret
              exact ⟨by rw [HF.out]; rfl, (by (repeat (first | with_reducible exact Below.refl _ _ | with_reducible assumption | with_reducible apply bel_alloc | with_reducible apply bel_drew | with_reducible apply bel_drewN | ((with_reducible refine bel_set ?_ ?_); rotate_left; (simp <;> omega)) | (with_reducible refine bel_trans ?_ (by with_reducible assumption)))))⟩
        · have hkn : k = n := by omega
          subst hkn
          rw [List.drop_of_length_le (l := rows) (i := k) (by rw [HL.out]; omega)] at hall
          have HF : Hid (isReg W rows = true) := by rw [HV.out, hall]; rfl
          have hk1 : ¬ (k : Int) < (k : Int) := by omega
          clear hall
          go_wp2
          go_ret
          exact ⟨by rw [HF.out]; rfl, (by (repeat (first | with_reducible exact Below.refl _ _ | with_reducible assumption | with_reducible apply bel_alloc | with_reducible apply bel_drew | with_reducible apply bel_drewN | ((with_reducible refine bel_set ?_ ?_); rotate_left; (simp <;> omega)) | (with_reducible refine bel_trans ?_ (by with_reducible assumption)))))⟩
set_option maxHeartbeats 800000 in
theorem IsRegion_s (W : Int) (A : Option Addr) (n c : Nat) (rows : List Int) (w : World) (hr : Rd w A (vI rows)) (hl : rows.length = n) :
    Calls Tryz.prog 64 #[.agg #[.int .i64 W, .slice A n c]] w (Ret w (.bool (isReg W rows))) := by
  have HL := Lib.hid hl
  have hE := isReg_eq W rows
  rw [hl] at hE
  cases h1 : sideB W with
  | false =>
    rw [h1] at hE
    have HV : Hid (isReg W rows = false) := hE
    have H1 := Lib.hid h1
    clear hE h1 hl
    go_enter Tryz.func64, Tryz.ntmps64
    go_wp2_with fail
    refine (l1In_b _ _ _ _ _ (rfl : sideB _ = _)).mono ?_
    rw [H1.out]
    rintro e w1 ⟨rfl, hb1⟩
    go_wp2_with fail
    go_ret
    exact ⟨by rw [HV.out]; rfl, (by (repeat (first | with_reducible exact Below.refl _ _ | with_reducible assumption | with_reducible apply bel_alloc | with_reducible apply bel_drew | with_reducible apply bel_drewN | ((with_reducible refine bel_set ?_ ?_); rotate_left; (simp <;> omega)) | (with_reducible refine bel_trans ?_ (by with_reducible assumption)))))⟩
  | true =>
    cases h2 : sideB (n : Int) with
    | false =>
      rw [h1, h2] at hE
      have HV : Hid (isReg W rows = false) := hE
      have H1 := Lib.hid h1
      have H2 := Lib.hid h2
      clear hE h1 h2 hl
      go_enter Tryz.func64, Tryz.ntmps64
      go_wp2_with fail
      refine (l1In_b _ _ _ _ _ (rfl : sideB _ = _)).mono ?_
      rw [H1.out]
      rintro e w1 ⟨rfl, hb1⟩
      have c1 : w1.cell? ⟨w.heap.size, 1, none⟩ = some (.slice A n c) := by simpa using ((Blk.new w 29 #[.int .i64 W, .slice A n c]).below hb1).cell 1
      go_wp2_with fail
      refine (l1In_b _ _ _ _ _ (rfl : sideB _ = _)).mono ?_
      rw [H2.out]
      rintro e w2 ⟨rfl, hb2⟩
      go_wp2_with fail
      go_ret
      exact ⟨by rw [HV.out]; rfl, (by (repeat (first | with_reducible exact Below.refl _ _ | with_reducible assumption | with_reducible apply bel_alloc | with_reducible apply bel_drew | with_reducible apply bel_drewN | ((with_reducible refine bel_set ?_ ?_); rotate_left; (simp <;> omega)) | (with_reducible refine bel_trans ?_ (by with_reducible assumption)))))⟩
    | true =>
      rw [h1, h2] at hE
      have HV : Hid (isReg W rows = (rows.drop 0).all (okRow W)) := hE
      have H1 := Lib.hid h1
      have H2 := Lib.hid h2
      have hW : 1 ≤ W ∧ W ≤ 6 := by simpa [sideB] using h1
      have hN : 1 ≤ n ∧ n ≤ 6 := by have : 1 ≤ (n : Int) ∧ (n : Int) ≤ 6 := by simpa [sideB] using h2
                                    omega
      obtain ⟨hW1, hW2⟩ := hW
      obtain ⟨hN1, hN2⟩ := hN
      clear hE h1 h2 hl
      go_enter Tryz.func64, Tryz.ntmps64
      go_wp2_with fail
      refine (l1In_b _ _ _ _ _ (rfl : sideB _ = _)).mono ?_
      rw [H1.out]
      rintro e w1 ⟨rfl, hb1⟩
      have c1 : w1.cell? ⟨w.heap.size, 1, none⟩ = some (.slice A n c) := by simpa using ((Blk.new w 29 #[.int .i64 W, .slice A n c]).below hb1).cell 1
      go_wp2_with fail
      refine (l1In_b _ _ _ _ _ (rfl : sideB _ = _)).mono ?_
      rw [H2.out]
      rintro e w2 ⟨rfl, hb2⟩
      have hB2 : Blk w2 w.heap.size 29 #[.int .i64 W, .slice A n c] := ((Blk.new w 29 #[.int .i64 W, .slice A n c]).below hb1).below hb2
      have HB2 := Lib.hid hB2
      have hr2 : Rd w2 A (vI rows) := ((hr.alloc _).below hb1).below hb2
      have HR2 := Lib.hid hr2
      have c2 : w2.cell? ⟨w.heap.size, 1, none⟩ = some (.slice A n c) := by simpa using hB2.cell 1
      clear hB2 hr2 c1
      go_wp2_with fail
      go_loopw [3] (fun i wr => ∃ k : Nat, k ≤ n ∧ i = .int .i64 k ∧ (rows.drop 0).all (okRow W) = (rows.drop k).all (okRow W) ∧ Below w2.heap.size w2 wr) (fun i _ => n - (intOf i).toNat)
      case atStart => exact ⟨0, Nat.zero_le _, rfl, rfl, Below.refl _ _⟩
      case round =>
        obtain ⟨k, hk, rfl, hall, hb⟩ := hrel
        clear c2
        have d3 : wr.cell? ⟨w.heap.size, 1, none⟩ = some (.slice A n c) := by simpa using (HB2.out.below hb).cell 1
        have hgw := (HB2.out.below hb).lt
        by_cases hlt : k < n
        · have hkl : k < rows.length := by rw [HL.out]; exact hlt
          have hk0 : (0 : Int) ≤ (k : Int) := by omega
          have hk1 : (k : Int) < (n : Int) := by omega
          obtain ⟨g, off, rfl, hg, d1⟩ := RdI.at_ (HR2.out.below hb) hkl
          have d2 : wr.cell? ⟨w.heap.size, 0, none⟩ = some (.int .i64 W) := by simpa using (HB2.out.below hb).cell 0
          rw [all_dropI hkl] at hall
          obtain ⟨x, hx⟩ : ∃ x, rows[k] = x := ⟨_, rfl⟩
          rw [hx] at hall d1
          obtain ⟨p, hp⟩ : ∃ p : Int, (2 : Int) ^ W.toNat = p := ⟨_, rfl⟩
          have hp0 : 2 ≤ p ∧ p ≤ 64 := by
            rcases (by omega : W = 1 ∨ W = 2 ∨ W = 3 ∨ W = 4 ∨ W = 5 ∨ W = 6) with rfl | rfl | rfl | rfl | rfl | rfl <;> (simp at hp; omega)
          obtain ⟨hp2, hp64⟩ := hp0
          have hpw : IntKind.i64.wrap p = p := Go.IntWalk.i64_in p (by omega)
          have ho : okRow W x = (decide (0 ≤ x) && decide (x < p)) := by unfold okRow; rw [hp]
          rw [ho] at hall
          clear hx ho
          by_cases hx0 : x < 0
          · rw [show decide (0 ≤ x) = false from by simp; omega, Bool.false_and, Bool.false_and] at hall
            have HF : Hid (isReg W rows = false) := by rw [HV.out, hall]; rfl
            have hx0d : decide (x < 0) = true := by simpa using hx0
            clear hall hp hx0
            go_wp2_with fail
            (refine wp_region_below (by kernel_rfl) (by kernel_rfl) ?_; (repeat (first | go_big_quiet_skip | (refine quietV (v := ?_) (by rfl) rfl (fun w' hbw => ?_) ?_; rotate_left; ((try dsimp only at hbw); have hbc := (bcell hbw).1; have hbf := (bcell hbw).2; go_simp; first | done | with_reducible rfl | fail); simp only [List.setIfInBounds_toArray, List.set_cons_zero, List.set_cons_succ]))); refine wpQuiet_nil ?_; intro wq hbq)
            go_wp2_with fail
            go_ret
            exact ⟨by rw [HF.out]; rfl, (by (repeat (first | with_reducible exact Below.refl _ _ | with_reducible assumption | with_reducible apply bel_alloc | with_reducible apply bel_drew | with_reducible apply bel_drewN | ((with_reducible refine bel_set ?_ ?_); rotate_left; (simp <;> omega)) | (with_reducible refine bel_trans ?_ (by with_reducible assumption)))))⟩
          · by_cases hxp : x < p
            · rw [show decide (0 ≤ x) = true from by simp; omega, show decide (x < p) = true from by simpa using hxp, Bool.true_and, Bool.true_and] at hall
              have HA := Lib.hid hall
              have hge : decide (p ≤ x) = false := by simp; omega
              have hx0d : decide (x < 0) = false := by simpa using hx0
              clear hall
              go_wp2_with fail
              (refine wp_region_below (by kernel_rfl) (by kernel_rfl) ?_; (repeat (first | go_big_quiet_skip | (refine quietV (v := ?_) (by rfl) rfl (fun w' hbw => ?_) ?_; rotate_left; ((try dsimp only at hbw); have hbc := (bcell hbw).1; have hbf := (bcell hbw).2; go_simp; first | done | with_reducible rfl | fail); simp only [List.setIfInBounds_toArray, List.set_cons_zero, List.set_cons_succ]))); refine wpQuiet_nil ?_; intro wq hbq)
              go_wp2_with fail
              exact ⟨⟨k + 1, by omega, by go_num, HA.out, (by (repeat (first | with_reducible exact Below.refl _ _ | with_reducible assumption | with_reducible apply bel_alloc | with_reducible apply bel_drew | with_reducible apply bel_drewN | ((with_reducible refine bel_set ?_ ?_); rotate_left; (simp <;> omega)) | (with_reducible refine bel_trans ?_ (by with_reducible assumption)))))⟩, by simp [intOf]; omega⟩
            · rw [show decide (x < p) = false from by simpa using hxp, Bool.and_false, Bool.false_and] at hall
              have HF : Hid (isReg W rows = false) := by rw [HV.out, hall]; rfl
              have hge : decide (p ≤ x) = true := by simp; omega
              have hx0d : decide (x < 0) = false := by simpa using hx0
              clear hall
              go_wp2_with fail
              (refine wp_region_below (by kernel_rfl) (by kernel_rfl) ?_; (repeat (first | go_big_quiet_skip | (refine quietV (v := ?_) (by rfl) rfl (fun w' hbw => ?_) ?_; rotate_left; ((try dsimp only at hbw); have hbc := (bcell hbw).1; have hbf := (bcell hbw).2; go_simp; first | done | with_reducible rfl | fail); simp only [List.setIfInBounds_toArray, List.set_cons_zero, List.set_cons_succ]))); refine wpQuiet_nil ?_; intro wq hbq)
              go_wp2_with fail
              go_ret
              exact ⟨by rw [HF.out]; rfl, (by (repeat (first | with_reducible exact Below.refl _ _ | with_reducible assumption | with_reducible apply bel_alloc | with_reducible apply bel_drew | with_reducible apply bel_drewN | ((with_reducible refine bel_set ?_ ?_); rotate_left; (simp <;> omega)) | (with_reducible refine bel_trans ?_ (by with_reducible assumption)))))⟩
        · have hkn : k = n := by omega
          subst hkn
          rw [List.drop_of_length_le (l := rows) (i := k) (by rw [HL.out]; omega)] at hall
          have HF : Hid (isReg W rows = true) := by rw [HV.out, hall]; rfl
          have hk1 : ¬ (k : Int) < (k : Int) := by omega
          clear hall
          go_wp2
          go_ret
          exact ⟨by rw [HF.out]; rfl, (by (repeat (first | with_reducible exact Below.refl _ _ | with_reducible assumption | with_reducible apply bel_alloc | with_reducible apply bel_drew | with_reducible apply bel_drewN | ((with_reducible refine bel_set ?_ ?_); rotate_left; (simp <;> omega)) | (with_reducible refine bel_trans ?_ (by with_reducible assumption)))))⟩
end Go.Proofs.YtcgjnonlndaoeaaGreatDoor

/- The mask of a region: both sides. -/
namespace Go.Proofs.YtcgjnonlndaoeaaGreatDoor
open Go.RowKit
set_option linter.unusedVariables false
attribute [local go_sem ↓] Go.wp_at_zero Go.wp_at_succ
def maskV (W : Int) (rows : List Int) : Nat := if isReg W rows then mkTo W.toNat rows rows.length else 0
/-- One row more of a mask: the numbers that the walk meets. -/
theorem mask_step {m : Nat} {rows : List Int} (hm : m ≤ 6) (h6 : rows.length ≤ 6) (h : ∀ k (hk : k < rows.length), ∃ q : Nat, rows[k] = (q : Int) ∧ q < 2 ^ m) {k : Nat} (hk : k < rows.length) :
    ∃ q s t v : Nat, rows[k] = (q : Int) ∧ (k : Int) * (m : Int) = (s : Int) ∧ s ≤ 36 ∧ (q : Int) * 2 ^ s = (t : Int) ∧ t < 2 ^ 36 ∧ v = mkTo m rows (k + 1) ∧ v < 2 ^ 36 ∧ mkTo m rows k + t = v ∧ bits .or .i64 (mkTo m rows k : Nat) (t : Int) = (v : Int) := by
  obtain ⟨q, hq, hlt⟩ := h k hk
  have h1 := mkTo_lt h k (by omega)
  have h2 := mkTo_lt h (k + 1) (by omega)
  have h3 : (k + 1) * m ≤ 6 * 6 := Nat.mul_le_mul (by omega) hm
  have h4 : 2 ^ ((k + 1) * m) ≤ 2 ^ 36 := Nat.pow_le_pow_right (by decide) h3
  have e : mkTo m rows (k + 1) = mkTo m rows k + q * 2 ^ (k * m) := by
    show mkTo m rows k + (rows.getD k 0).toNat * 2 ^ (k * m) = _
    rw [List.getD_eq_getElem?_getD, List.getElem?_eq_getElem hk, Option.getD_some, hq]
    rfl
  have h5 : k * m ≤ 36 := by rw [Nat.succ_mul] at h3; omega
  refine ⟨q, k * m, q * 2 ^ (k * m), mkTo m rows (k + 1), hq, by simp, h5, by simp, by omega, rfl, by omega, e.symm, ?_⟩
  rw [i64_or _ _ (by omega) (by omega), or_high h1, e]
theorem wrapN {v : Nat} (h : v < 2 ^ 36) : IntKind.i64.wrap (v : Int) = (v : Int) := Go.IntWalk.i64_in _ (by omega)
set_option maxHeartbeats 800000 in
theorem mask_i (W : Int) (A : Option Addr) (n c : Nat) (rows : List Int) (w : World) (hr : Rd w A (vI rows)) (hl : rows.length = n) (hv : isReg W rows = true) :
    Calls Tryz.prog 50 #[.agg #[.int .i64 W, .slice A n c]] w (Ret w (.int .i64 (maskV W rows : Nat))) := by
  obtain ⟨m, rfl, hm1, hm6, hn1, hn6, hrow⟩ := isReg_yes hv
  have HV : Hid (maskV (m : Int) rows = mkTo m rows rows.length) := by show maskV _ rows = _; unfold maskV; rw [if_pos hv]; rfl
  have HL := Lib.hid hl
  have HROW := Lib.hid hrow
  rw [hl] at hn6 hn1
  clear hv hl hrow
  go_enter Tryz.func50, Tryz.ntmps50
  go_wp2
  go_loopw [9, 3] (fun i t wr => ∃ k v : Nat, k ≤ n ∧ i = .int .i64 k ∧ t = .int .i64 v ∧ v = mkTo m rows k ∧ Below (w.alloc (.cells #[.int .i64 (m : Int), .slice A n c] 29)).heap.size (w.alloc (.cells #[.int .i64 (m : Int), .slice A n c] 29)) wr) (fun i _ _ => n - (intOf i).toNat)
  case atStart => exact ⟨0, 0, Nat.zero_le _, rfl, rfl, rfl, Below.refl _ _⟩
  case round =>
    obtain ⟨k, v, hk, rfl, rfl, hv, hb⟩ := hrel
    by_cases hlt : k < n
    · have hkl : k < rows.length := by rw [HL.out]; exact hlt
      have hk0 : (0 : Int) ≤ (k : Int) := by omega
      have hk1 : (k : Int) < (n : Int) := by omega
      have hB := (Blk.new w 29 #[.int .i64 (m : Int), .slice A n c]).below hb
      have d0 : wr.cell? ⟨w.heap.size, 0, none⟩ = some (.int .i64 (m : Int)) := by simpa using hB.cell 0
      have hgw := hB.lt
      obtain ⟨g, off, rfl, hg, d1⟩ := RdI.at_ ((hr.alloc _).below hb) hkl
      obtain ⟨q, s, t, v', e1, e2, e3, e4, e5, e6, e7, e8, e9⟩ := mask_step hm6 (by rw [HL.out]; exact hn6) HROW.out hkl
      rw [e1] at d1
      rw [← hv] at e8 e9
      have HE := Lib.hid e6
      have s0 : (0 : Int) ≤ (s : Int) := by omega
      have s1 : (s : Int) ≤ 64 := by omega
      have w1 := wrapN e5
      clear e1 e6 hv hB
      go_wp2
      exact ⟨⟨k + 1, v', by omega, by go_num, rfl, HE.out, hb⟩, by simp [intOf]; omega⟩
    · have hkn : k = n := by omega
      subst hkn
      rw [← HL.out] at hv
      have HE := Lib.hid hv
      have hk1 : ¬ (k : Int) < (k : Int) := by omega
      clear hv
      go_wp2
      go_ret
      exact ⟨by rw [HV.out, ← HE.out]; rfl, (by (repeat (first | with_reducible exact Below.refl _ _ | with_reducible assumption | with_reducible apply bel_alloc | with_reducible apply bel_drew | with_reducible apply bel_drewN | ((with_reducible refine bel_set ?_ ?_); rotate_left; (simp <;> omega)) | (with_reducible refine bel_trans ?_ (by with_reducible assumption)))))⟩
set_option maxHeartbeats 1600000 in
theorem MaskOf_s (W : Int) (A : Option Addr) (n c : Nat) (rows : List Int) (w : World) (hr : Rd w A (vI rows)) (hl : rows.length = n) :
    Calls Tryz.prog 43 #[.agg #[.int .i64 W, .slice A n c]] w (Ret w (.int .i64 (maskV W rows : Nat))) := by
  cases hv : isReg W rows with
  | false =>
    have HV : Hid (maskV W rows = 0) := by show maskV _ rows = _; unfold maskV; rw [hv]; rfl
    have HL := Lib.hid hl
    have HF := Lib.hid hv
    clear hv hl
    go_enter Tryz.func43, Tryz.ntmps43
    go_wp2_with fail
    go_loopw [4, 3] (fun i t wr => i = .int .i64 0 ∧ t = .int .i64 0 ∧ Below (w.alloc (.cells #[.int .i64 W, .slice A n c] 29)).heap.size (w.alloc (.cells #[.int .i64 W, .slice A n c] 29)) wr) (fun _ _ _ => 0)
    case atStart => exact ⟨rfl, rfl, Below.refl _ _⟩
    case round =>
      obtain ⟨rfl, rfl, hb⟩ := hrel
      have hB := (Blk.new w 29 #[.int .i64 W, .slice A n c]).below hb
      have d0 : wr.cell? ⟨w.heap.size, 0, none⟩ = some (.int .i64 W) := by simpa using hB.cell 0
      have d1 : wr.cell? ⟨w.heap.size, 1, none⟩ = some (.slice A n c) := by simpa using hB.cell 1
      have hrw := Lib.hid ((hr.alloc _).below hb)
      clear hB
      by_cases hn : n = 0
      · have hn1 : ¬ (0 : Int) < (n : Int) := by omega
        go_wp2_with fail
        go_ret
        exact ⟨by rw [HV.out]; rfl, (by (repeat (first | with_reducible exact Below.refl _ _ | with_reducible assumption | with_reducible apply bel_alloc | with_reducible apply bel_drew | with_reducible apply bel_drewN | ((with_reducible refine bel_set ?_ ?_); rotate_left; (simp <;> omega)) | (with_reducible refine bel_trans ?_ (by with_reducible assumption)))))⟩
      · have hn1 : (0 : Int) < (n : Int) := by omega
        go_wp2_with fail
        refine (IsRegion_s _ _ _ _ rows _ hrw.out HL.out).mono ?_
        rw [HF.out]
        rintro e w1 ⟨rfl, hb1⟩
        go_wp2_with fail
        go_ret
        exact ⟨by rw [HV.out]; rfl, (by (repeat (first | with_reducible exact Below.refl _ _ | with_reducible assumption | with_reducible apply bel_alloc | with_reducible apply bel_drew | with_reducible apply bel_drewN | ((with_reducible refine bel_set ?_ ?_); rotate_left; (simp <;> omega)) | (with_reducible refine bel_trans ?_ (by with_reducible assumption)))))⟩
  | true =>
    have HT := Lib.hid hv
    obtain ⟨m, rfl, hm1, hm6, hn1, hn6, hrow⟩ := isReg_yes hv
    have HV : Hid (maskV (m : Int) rows = mkTo m rows rows.length) := by show maskV _ rows = _; unfold maskV; rw [if_pos hv]; rfl
    have HL := Lib.hid hl
    have HROW := Lib.hid hrow
    rw [hl] at hn6 hn1
    clear hv hl hrow
    go_enter Tryz.func43, Tryz.ntmps43
    go_wp2
    go_loopw [4, 3] (fun i t wr => ∃ k v : Nat, k ≤ n ∧ i = .int .i64 k ∧ t = .int .i64 v ∧ v = mkTo m rows k ∧ Below (w.alloc (.cells #[.int .i64 (m : Int), .slice A n c] 29)).heap.size (w.alloc (.cells #[.int .i64 (m : Int), .slice A n c] 29)) wr) (fun i _ _ => n - (intOf i).toNat)
    case atStart => exact ⟨0, 0, Nat.zero_le _, rfl, rfl, rfl, Below.refl _ _⟩
    case round =>
      obtain ⟨k, v, hk, rfl, rfl, hv, hb⟩ := hrel
      have hB := (Blk.new w 29 #[.int .i64 (m : Int), .slice A n c]).below hb
      have d0 : wr.cell? ⟨w.heap.size, 0, none⟩ = some (.int .i64 (m : Int)) := by simpa using hB.cell 0
      have d1' : wr.cell? ⟨w.heap.size, 1, none⟩ = some (.slice A n c) := by simpa using hB.cell 1
      have hgw := hB.lt
      have hrw := (hr.alloc _).below hb
      clear hB
      by_cases hlt : k < n
      · have hkl : k < rows.length := by rw [HL.out]; exact hlt
        have hk0 : (0 : Int) ≤ (k : Int) := by omega
        have hk1 : (k : Int) < (n : Int) := by omega
        have HRW := Lib.hid hrw
        obtain ⟨g, off, hA, hg, d1⟩ := RdI.at_ hrw hkl
        subst hA
        obtain ⟨q, s, t, v', e1, e2, e3, e4, e5, e6, e7, e8, e9⟩ := mask_step hm6 (by rw [HL.out]; exact hn6) HROW.out hkl
        rw [e1] at d1
        rw [← hv] at e8
        have HE := Lib.hid e6
        have s0 : (0 : Int) ≤ (s : Int) := by omega
        have s1 : (s : Int) ≤ 64 := by omega
        have w1 := wrapN e5
        have w2 := wrapN e7
        have w3 : IntKind.i64.wrap (s : Int) = (s : Int) := Go.IntWalk.i64_in _ (by omega)
        have e10 : (v : Int) + (t : Int) = (v' : Int) := by omega
        clear e1 e6 hv e9 e8 hrw
        go_wp2_with fail
        refine (IsRegion_s _ _ _ _ rows _ HRW.out HL.out).mono ?_
        rw [HT.out]
        rintro e w4 ⟨rfl, hb4⟩
        have y0 := keep_below hb4 d0
        have y1 := keep_below hb4 d1'
        have y2 := keep_below hb4 d1
        have hgw4 : w.heap.size < w4.heap.size := Nat.lt_of_lt_of_le hgw hb4.size
        have hg4 : g < w4.heap.size := Nat.lt_of_lt_of_le hg hb4.size
        go_wp2_with fail
        (refine wp_region_below (by kernel_rfl) (by kernel_rfl) ?_; (repeat (first | go_big_quiet_skip | (refine quietV (v := ?_) (by rfl) rfl (fun w' hbw => ?_) ?_; rotate_left; ((try dsimp only at hbw); have hbc := (bcell hbw).1; have hbf := (bcell hbw).2; go_simp; first | done | with_reducible rfl | fail); simp only [List.setIfInBounds_toArray, List.set_cons_zero, List.set_cons_succ]))); refine wpQuiet_nil ?_; intro wq hbq)
        go_wp2_with fail
        exact ⟨⟨k + 1, v', by omega, by go_num, rfl, HE.out, (by (repeat (first | with_reducible exact Below.refl _ _ | with_reducible assumption | with_reducible apply bel_alloc | with_reducible apply bel_drew | with_reducible apply bel_drewN | ((with_reducible refine bel_set ?_ ?_); rotate_left; (simp <;> omega)) | (with_reducible refine bel_trans ?_ (by with_reducible assumption)))))⟩, by simp [intOf]; omega⟩
      · have hkn : k = n := by omega
        subst hkn
        rw [← HL.out] at hv
        have HE := Lib.hid hv
        have hk1 : ¬ (k : Int) < (k : Int) := by omega
        clear hv hrw
        go_wp2
        go_ret
        exact ⟨by rw [HV.out, ← HE.out]; rfl, (by (repeat (first | with_reducible exact Below.refl _ _ | with_reducible assumption | with_reducible apply bel_alloc | with_reducible apply bel_drew | with_reducible apply bel_drewN | ((with_reducible refine bel_set ?_ ?_); rotate_left; (simp <;> omega)) | (with_reducible refine bel_trans ?_ (by with_reducible assumption)))))⟩
end Go.Proofs.YtcgjnonlndaoeaaGreatDoor

/- Slices of slices of integers: the rows' blocks, kept and written; append at such a slice. -/
namespace Go.Proofs.YtcgjnonlndaoeaaGreatDoor
open Go.RowKit
set_option linter.unusedVariables false

/-- Rows that lie in blocks of their own. -/
structure Rows (w : World) (t : TypeId) (G : List Nat) (R : List (List Value)) : Prop where
  len : G.length = R.length
  nd : G.Nodup
  blk : ∀ i (h : i < G.length) (h' : i < R.length), Blk w (G[i]'h) t (R[i]'h').toArray
section
variable {w w' : World} {t : TypeId} {G : List Nat} {R : List (List Value)}
theorem Rows.nil (w : World) (t : TypeId) : Rows w t [] [] := ⟨rfl, List.nodup_nil, fun i h => by simp at h⟩
theorem Rows.below (h : Rows w t G R) (hb : Below w.heap.size w w') : Rows w' t G R := ⟨h.len, h.nd, fun i a b => (h.blk i a b).below hb⟩
theorem Rows.drew (h : Rows w t G R) : Rows w.drew t G R := ⟨h.len, h.nd, h.blk⟩
theorem Rows.alloc (h : Rows w t G R) (o : Obj) : Rows (w.alloc o) t G R := ⟨h.len, h.nd, fun i a b => (h.blk i a b).alloc o⟩
theorem Rows.grown {row : Option Nat} (h : Rows w t G R) (hg : w.grownBy w' row) (hn : ∀ g ∈ G, some g ≠ row) : Rows w' t G R :=
  ⟨h.len, h.nd, fun i a b => (h.blk i a b).grown hg (hn _ (List.getElem_mem a))⟩
theorem Rows.far (h : Rows w t G R) {p : Addr} (hp : p.block ∉ G) (u : Value) : Rows (w.setCell p u) t G R :=
  ⟨h.len, h.nd, fun i a b => (h.blk i a b).far (fun e => hp (e ▸ List.getElem_mem a)) u⟩
theorem Rows.lt (h : Rows w t G R) : ∀ g ∈ G, g < w.heap.size := by
  intro g hg
  obtain ⟨i, hi, rfl⟩ := List.mem_iff_getElem.1 hg
  exact (h.blk i hi (by rw [← h.len]; exact hi)).lt
theorem Rows.push (h : Rows w t G R) {g : Nat} {vs : List Value} (hb : Blk w g t vs.toArray) (hg : g ∉ G) : Rows w t (G ++ [g]) (R ++ [vs]) := by
  refine ⟨by simp [h.len], ?_, fun i a b => ?_⟩
  · rw [List.nodup_append]
    refine ⟨h.nd, by simp, fun x hx y hy => ?_⟩
    simp only [List.mem_singleton] at hy
    subst hy
    rintro rfl
    exact hg hx
  · by_cases hi : i < G.length
    · simp only [List.getElem_append_left hi, List.getElem_append_left (h.len ▸ hi : i < R.length)]
      exact h.blk i hi _
    · have e : i = G.length := by simp at a; omega
      subst e
      simp only [List.getElem_append_right (Nat.le_refl _), List.getElem_append_right (Nat.le_of_eq h.len.symm), Nat.sub_self]
      simpa [h.len] using hb
theorem Rows.set_ (h : Rows w t G R) {i : Nat} (hi : i < G.length) (hi' : i < R.length) (k : Nat) (u : Value) : Rows (w.setCell ⟨G[i]'hi, k, Option.none⟩ u) t G (R.set i ((R[i]'hi').set k u)) := by
  refine ⟨by simp [h.len], h.nd, fun j a b => ?_⟩
  by_cases e : i = j
  · subst e
    rw [List.getElem_set_self]
    simpa using (h.blk i hi hi').set_ k u
  · rw [List.getElem_set_ne e]
    refine (h.blk j a _).far ?_ u
    intro he
    have := (List.pairwise_iff_getElem.1 h.nd)
    rcases Nat.lt_or_gt_of_ne e with h1 | h1
    · exact this i j hi a h1 he.symm
    · exact this j i a hi h1 he
theorem Rows.cell (h : Rows w t G R) {i : Nat} (hi : i < G.length) (hi' : i < R.length) (k : Nat) : w.cell? ⟨G[i]'hi, k, Option.none⟩ = (R[i]'hi')[k]? := by
  rw [(h.blk i hi hi').cell]; simp
end
theorem Rd.far {w : World} {A : Option Addr} {vs : List Value} (h : Rd w A vs) {p : Addr} (hp : ∀ g, ob A = some g → g ≠ p.block) (u : Value) : Rd (w.setCell p u) A vs := by
  rcases h with h | ⟨g, off, rfl, h⟩
  · exact .inl h
  · exact .inr ⟨g, off, rfl, fun j v hv => (World.cell?_setCell_other w p _ u (fun e => hp g rfl (by rw [e]))).trans (h j v hv)⟩
/-- The headers of rows of m. -/
def hds (m : Nat) (G : List Nat) : List H := G.map fun g => (some ⟨g, 0, none⟩, m, m)
theorem hds_length (m : Nat) (G : List Nat) : (hds m G).length = G.length := by simp [hds]
theorem hds_append (m : Nat) (G : List Nat) (g : Nat) : hds m (G ++ [g]) = hds m G ++ [(some ⟨g, 0, none⟩, m, m)] := by simp [hds]
theorem hds_get (m : Nat) (G : List Nat) (i : Nat) (h : i < G.length) : (hds m G)[i]'(by rw [hds_length]; exact h) = (some ⟨G[i], 0, none⟩, m, m) := by simp [hds]
theorem infoS : (Tryz.prog.info? 22).map (fun i => (i.zero, i.size, i.bytes)) = some (some (.slice none 0 0), 1, 24) := by kernel_rfl
end Go.Proofs.YtcgjnonlndaoeaaGreatDoor

/- Slices of slices of cells: read. -/
namespace Go.Proofs.YtcgjnonlndaoeaaGreatDoor
open Go.RowKit
set_option linter.unusedVariables false
/-- A slice of slices of cells, as it reads. -/
structure RdP (w : World) (A : Option Addr) (n : Nat) (hs : List H) (F : List (List C)) : Prop where
  top : Rd w A (vS hs)
  hlen : hs.length = n
  flen : F.length = n
  row : ∀ k (a : k < hs.length) (b : k < F.length), F[k].length = hs[k].2.1 ∧ Rd w hs[k].1 (vC F[k])
theorem RdP.below {w w' : World} {A : Option Addr} {n : Nat} {hs : List H} {F : List (List C)} (h : RdP w A n hs F) (hb : Below w.heap.size w w') : RdP w' A n hs F :=
  ⟨h.top.below hb, h.hlen, h.flen, fun k a b => ⟨(h.row k a b).1, (h.row k a b).2.below hb⟩⟩
theorem RdP.alloc {w : World} {A : Option Addr} {n : Nat} {hs : List H} {F : List (List C)} (h : RdP w A n hs F) (o : Obj) : RdP (w.alloc o) A n hs F := h.below (Below.alloc (Below.refl _ _) (Nat.le_refl _) o)
theorem RdP.nil (w : World) : RdP w none 0 [] [] := ⟨.inl rfl, rfl, rfl, fun k a => by simp at a⟩
theorem RdP.at_ {w : World} {A : Option Addr} {n : Nat} {hs : List H} {F : List (List C)} (h : RdP w A n hs F) {k : Nat} (hk : k < n) :
    ∃ (x : H) (f : List C) (g off : Nat), hs[k]? = some x ∧ F[k]? = some f ∧ A = some ⟨g, off, none⟩ ∧ g < w.heap.size ∧ w.cell? ⟨g, off + k, none⟩ = some (.slice x.1 x.2.1 x.2.2) ∧ f.length = x.2.1 ∧ Rd w x.1 (vC f) := by
  have a : k < hs.length := by rw [h.hlen]; exact hk
  have b : k < F.length := by rw [h.flen]; exact hk
  obtain ⟨g, off, e, hg, c1⟩ := RdS.at_ h.top a
  exact ⟨hs[k], F[k], g, off, List.getElem?_eq_getElem a, List.getElem?_eq_getElem b, e, hg, c1, (h.row k a b).1, (h.row k a b).2⟩
def totC (F : List (List C)) : Nat := (F.map List.length).sum
theorem totC_take (F : List (List C)) (j : Nat) (h : j < F.length) : totC (F.take (j + 1)) = totC (F.take j) + F[j].length := by
  rw [List.take_succ_eq_append_getElem h]
  simp only [totC, List.map_append, List.map_cons, List.map_nil, List.sum_append, List.sum_cons, List.sum_nil, Nat.add_zero]
theorem totC_le (F : List (List C)) (j : Nat) : totC (F.take j) ≤ totC F := by
  have : totC F = totC (F.take j) + totC (F.drop j) := by
    have := List.take_append_drop j F
    conv => lhs; rw [← this]
    simp only [totC, List.map_append, List.sum_append]
  omega
theorem totC_row (F : List (List C)) {k : Nat} {f : List C} (h : F[k]? = some f) : f.length ≤ totC F := by
  obtain ⟨hk, rfl⟩ := List.getElem?_eq_some_iff.1 h
  have := totC_take F k hk
  have := totC_le F (k + 1)
  omega
end Go.Proofs.YtcgjnonlndaoeaaGreatDoor

/- Pieces: whether they are some, their area. -/
namespace Go.Proofs.YtcgjnonlndaoeaaGreatDoor
open Go.RowKit
set_option linter.unusedVariables false
attribute [local go_sem ↓] Go.wp_at_zero Go.wp_at_succ
def pcs (F : List (List C)) : Bool := F.all isShape && (decide (1 ≤ (F.length : Int)) && decide ((F.length : Int) ≤ 5))
def paV (F : List (List C)) : Int := if pcs F then (totC F : Nat) else 0
theorem all_drop {F : List (List C)} {k : Nat} {f : List C} (h : F[k]? = some f) : (F.drop k).all isShape = (isShape f && (F.drop (k + 1)).all isShape) := by
  obtain ⟨hk, rfl⟩ := List.getElem?_eq_some_iff.1 h
  rw [List.drop_eq_getElem_cons hk]
  rfl
theorem pcs_small {F : List (List C)} (h : pcs F = true) : F.length ≤ 5 ∧ totC F ≤ 40 := by
  unfold pcs at h
  simp only [Bool.and_eq_true, decide_eq_true_eq, List.all_eq_true] at h
  obtain ⟨h1, h2, h3⟩ := h
  have key : ∀ G : List (List C), (∀ f ∈ G, isShape f = true) → totC G ≤ 8 * G.length := by
    intro G
    induction G with
    | nil => intro _; simp [totC]
    | cons f t ih =>
      intro hG
      have a := (shape_len (hG f (by simp))).2
      have b := ih (fun g hg => hG g (by simp [hg]))
      simp only [totC, List.map_cons, List.sum_cons, List.length_cons] at b ⊢
      omega
  have := key F h1
  omega
theorem ArePieces_i (A : Option Addr) (n c : Nat) (hs : List H) (F : List (List C)) (w : World) (h : RdP w A n hs F) (hn : n ≤ 1048576) (hm : totC F ≤ 1048576) :
    Calls Tryz.prog 83 #[.slice A n c] w (Ret w (.bool (pcs F))) := by
  have HP := Lib.hid h
  have HV : Hid (pcs F = ((F.drop 0).all isShape && (decide (1 ≤ (n : Int)) && decide ((n : Int) ≤ 5)))) := by show pcs F = _; unfold pcs; rw [h.flen]; rfl
  clear h
  go_enter Tryz.func83, Tryz.ntmps83
  go_wp2
  go_loopw [7] (fun i wr => ∃ k : Nat, k ≤ n ∧ i = .int .i64 k ∧ (F.drop 0).all isShape = (F.drop k).all isShape ∧ Below w.heap.size w wr) (fun i _ => n - (intOf i).toNat)
  case atStart => exact ⟨0, Nat.zero_le _, rfl, rfl, Below.refl _ _⟩
  case round =>
    obtain ⟨k, hk, rfl, hall, hb⟩ := hrel
    by_cases hlt : k < n
    · have hk0 : (0 : Int) ≤ (k : Int) := by omega
      have hk1 : (k : Int) < (n : Int) := by omega
      obtain ⟨x, f, g, off, _, hfx, rfl, hg, d1, l1, r1⟩ := (HP.out.below hb).at_ hlt
      have hmf := totC_row F hfx
      rw [all_drop hfx] at hall
      obtain ⟨B1, m1, k1⟩ := x
      dsimp only at d1 l1 r1
      have hm1 : m1 ≤ 1099511627776 := by omega
      have L1 := Lib.hid l1
      have R1 := Lib.hid r1
      clear l1 r1 hfx hmf
      cases hsf : isShape f with
      | true =>
        rw [hsf, Bool.true_and] at hall
        have HA := Lib.hid hall
        have HS := Lib.hid hsf
        clear hall hsf
        go_wp2_with fail
        refine (IsShape_i _ _ _ f _ R1.out L1.out hm1).mono ?_
        rw [HS.out]
        rintro e w1 ⟨rfl, hb1⟩
        go_wp2_with fail
        exact ⟨⟨k + 1, by omega, by go_num, HA.out, (by (repeat (first | with_reducible exact Below.refl _ _ | with_reducible assumption | with_reducible apply bel_alloc | with_reducible apply bel_drew | with_reducible apply bel_drewN | ((with_reducible refine bel_set ?_ ?_); rotate_left; (simp <;> omega)) | (with_reducible refine bel_trans ?_ (by with_reducible assumption)))))⟩, by simp [intOf]; omega⟩
      | false =>
        rw [hsf, Bool.false_and] at hall
        have HA : Hid (pcs F = false) := by rw [HV.out, hall]; rfl
        have HS := Lib.hid hsf
        clear hall hsf
        go_wp2_with fail
        refine (IsShape_i _ _ _ f _ R1.out L1.out hm1).mono ?_
        rw [HS.out]
        rintro e w1 ⟨rfl, hb1⟩
        go_wp2_with fail
        go_ret
        exact ⟨by rw [HA.out]; rfl, (by (repeat (first | with_reducible exact Below.refl _ _ | with_reducible assumption | with_reducible apply bel_alloc | with_reducible apply bel_drew | with_reducible apply bel_drewN | ((with_reducible refine bel_set ?_ ?_); rotate_left; (simp <;> omega)) | (with_reducible refine bel_trans ?_ (by with_reducible assumption)))))⟩
    · have hkn : k = n := by omega
      subst hkn
      rw [List.drop_of_length_le (l := F) (i := k) (by rw [HP.out.flen]; omega)] at hall
      have HA : Hid (pcs F = (decide (1 ≤ (k : Int)) && decide ((k : Int) ≤ 5))) := by rw [HV.out, hall]; rfl
      have hk1 : ¬ (k : Int) < (k : Int) := by omega
      clear hall
      go_wp2_with fail
      refine (between_b _ _ _ _ _ HA.out).mono ?_
      rintro e w1 ⟨rfl, hb1⟩
      go_wp2_with fail
      go_ret
      exact ⟨rfl, bel_trans hb hb1⟩
theorem ArePieces_s (A : Option Addr) (n c : Nat) (hs : List H) (F : List (List C)) (w : World) (h : RdP w A n hs F) (hn : n ≤ 1048576) (hm : totC F ≤ 1048576) :
    Calls Tryz.prog 65 #[.slice A n c] w (Ret w (.bool (pcs F))) := by
  have HP := Lib.hid h
  have HV : Hid (pcs F = ((F.drop 0).all isShape && (decide (1 ≤ (n : Int)) && decide ((n : Int) ≤ 5)))) := by show pcs F = _; unfold pcs; rw [h.flen]; rfl
  clear h
  go_enter Tryz.func65, Tryz.ntmps65
  go_wp2
  go_loopw [3] (fun i wr => ∃ k : Nat, k ≤ n ∧ i = .int .i64 k ∧ (F.drop 0).all isShape = (F.drop k).all isShape ∧ Below w.heap.size w wr) (fun i _ => n - (intOf i).toNat)
  case atStart => exact ⟨0, Nat.zero_le _, rfl, rfl, Below.refl _ _⟩
  case round =>
    obtain ⟨k, hk, rfl, hall, hb⟩ := hrel
    by_cases hlt : k < n
    · have hk0 : (0 : Int) ≤ (k : Int) := by omega
      have hk1 : (k : Int) < (n : Int) := by omega
      obtain ⟨x, f, g, off, _, hfx, rfl, hg, d1, l1, r1⟩ := (HP.out.below hb).at_ hlt
      have hmf := totC_row F hfx
      rw [all_drop hfx] at hall
      obtain ⟨B1, m1, k1⟩ := x
      dsimp only at d1 l1 r1
      have hm1 : m1 ≤ 1099511627776 := by omega
      have L1 := Lib.hid l1
      have R1 := Lib.hid r1
      clear l1 r1 hfx hmf
      cases hsf : isShape f with
      | true =>
        rw [hsf, Bool.true_and] at hall
        have HA := Lib.hid hall
        have HS := Lib.hid hsf
        clear hall hsf
        go_wp2_with fail
        refine (IsShape_s _ _ _ f _ R1.out L1.out hm1).mono ?_
        rw [HS.out]
        rintro e w1 ⟨rfl, hb1⟩
        go_wp2_with fail
        exact ⟨⟨k + 1, by omega, by go_num, HA.out, (by (repeat (first | with_reducible exact Below.refl _ _ | with_reducible assumption | with_reducible apply bel_alloc | with_reducible apply bel_drew | with_reducible apply bel_drewN | ((with_reducible refine bel_set ?_ ?_); rotate_left; (simp <;> omega)) | (with_reducible refine bel_trans ?_ (by with_reducible assumption)))))⟩, by simp [intOf]; omega⟩
      | false =>
        rw [hsf, Bool.false_and] at hall
        have HA : Hid (pcs F = false) := by rw [HV.out, hall]; rfl
        have HS := Lib.hid hsf
        clear hall hsf
        go_wp2_with fail
        refine (IsShape_s _ _ _ f _ R1.out L1.out hm1).mono ?_
        rw [HS.out]
        rintro e w1 ⟨rfl, hb1⟩
        go_wp2_with fail
        go_ret
        exact ⟨by rw [HA.out]; rfl, (by (repeat (first | with_reducible exact Below.refl _ _ | with_reducible assumption | with_reducible apply bel_alloc | with_reducible apply bel_drew | with_reducible apply bel_drewN | ((with_reducible refine bel_set ?_ ?_); rotate_left; (simp <;> omega)) | (with_reducible refine bel_trans ?_ (by with_reducible assumption)))))⟩
    · have hkn : k = n := by omega
      subst hkn
      rw [List.drop_of_length_le (l := F) (i := k) (by rw [HP.out.flen]; omega)] at hall
      have HA : Hid (pcs F = (decide (1 ≤ (k : Int)) && decide ((k : Int) ≤ 5))) := by rw [HV.out, hall]; rfl
      have hk1 : ¬ (k : Int) < (k : Int) := by omega
      clear hall
      go_wp2_with fail
      refine (l1In_b _ _ _ _ _ HA.out).mono ?_
      rintro e w1 ⟨rfl, hb1⟩
      go_wp2_with fail
      go_ret
      exact ⟨rfl, bel_trans hb hb1⟩
end Go.Proofs.YtcgjnonlndaoeaaGreatDoor

/- Shapes turned, their orientations, their placements in a region: plain functions. No program is in sight. -/
namespace Go.Proofs.YtcgjnonlndaoeaaGreatDoor
open Go.RowKit
set_option linter.unusedVariables false
/-- The mask of cells of a region. -/
def posM (W : Nat) (c : C) : Nat := (c.2 * W + c.1).toNat
def hasR (W : Int) (rows : List Int) (c : C) : Bool :=
  (decide (0 ≤ c.1) && decide (c.1 < W)) && (decide (0 ≤ c.2) && decide (c.2 < rows.length)) && (rows.getD c.2.toNat 0).toNat.testBit c.1.toNat
def mcV (W : Int) (rows : List Int) : List C → Nat → Option Nat
  | [], n => some n
  | c :: t, n => if hasR W rows c && !n.testBit (posM W.toNat c) then mcV W rows t (n + 2 ^ posM W.toNat c) else none
theorem hasR_pos {m : Nat} {rows : List Int} {c : C} (h : hasR (m : Int) rows c = true) : ∃ x y : Nat, c = ((x : Int), (y : Int)) ∧ x < m ∧ y < rows.length ∧ posM m c = y * m + x ∧ y * m + x < m * rows.length := by
  unfold hasR at h
  simp only [Bool.and_eq_true, decide_eq_true_eq] at h
  obtain ⟨⟨⟨h1, h2⟩, h3, h4⟩, _⟩ := h
  obtain ⟨x, hx⟩ := Int.eq_ofNat_of_zero_le h1
  obtain ⟨y, hy⟩ := Int.eq_ofNat_of_zero_le h3
  have e : c = ((x : Int), (y : Int)) := Prod.ext hx hy
  subst e
  simp only at h2 h4
  have hx' : x < m := by omega
  have hy' : y < rows.length := by omega
  refine ⟨x, y, rfl, hx', hy', ?_, ?_⟩
  · show ((y : Int) * (m : Int) + (x : Int)).toNat = _
    rw [show (y : Int) * (m : Int) + (x : Int) = ((y * m + x : Nat) : Int) from by simp]
    exact Int.toNat_natCast _
  · have : (y + 1) * m ≤ rows.length * m := Nat.mul_le_mul_right m hy'
    rw [Nat.succ_mul] at this
    rw [Nat.mul_comm m]
    omega
theorem mcV_lt {m : Nat} {rows : List Int} (h36 : m * rows.length ≤ 36) : ∀ (l : List C) (n v : Nat), n < 2 ^ (m * rows.length) → mcV (m : Int) rows l n = some v → v < 2 ^ (m * rows.length)
  | [], n, v, hn, h => by simp only [mcV, Option.some.injEq] at h; omega
  | c :: t, n, v, hn, h => by
    unfold mcV at h
    split at h
    · next hc =>
      simp only [Bool.and_eq_true, Bool.not_eq_true'] at hc
      obtain ⟨x, y, _, _, _, hp, hlt⟩ := hasR_pos hc.1
      have e : ((m : Int)).toNat = m := Int.toNat_natCast _
      rw [e] at h hc
      have h62 : (2 : Nat) ^ (m * rows.length) ≤ 2 ^ 36 := Nat.pow_le_pow_right (by decide) h36
      have : n + 2 ^ posM m c < 2 ^ (m * rows.length) := by
        rw [← or_bit (by omega) (by omega) hc.2]
        exact Nat.or_lt_two_pow hn (Nat.pow_lt_pow_right (by decide) (by omega))
      exact mcV_lt h36 t _ v this h
    · cases h
/-- The placements of a shape at one place, in a row, in all rows, of all orientations, in the order of the search. -/
def optL : Option Nat → List Int
  | some m => [(m : Int)]
  | none => []
def plAt (W : Int) (rows : List Int) (t : List C) (y x : Nat) : List Int := optL (mcV W rows (mv t x y) 0)
def rowX (W : Int) (rows : List Int) (t : List C) (y : Nat) : Nat → List Int
  | 0 => []
  | k + 1 => rowX W rows t y k ++ plAt W rows t y k
def rowY (W : Int) (rows : List Int) (t : List C) : Nat → List Int
  | 0 => []
  | k + 1 => rowY W rows t k ++ rowX W rows t k W.toNat
def rawTo (W : Int) (rows : List Int) (F : List (List C)) : Nat → List Int
  | 0 => []
  | k + 1 => rawTo W rows F k ++ rowY W rows (F.getD k []) rows.length
def rawV (W : Int) (rows : List Int) (s : List C) : List Int := rawTo W rows (orV s) (orV s).length
def plV (W : Int) (rows : List Int) (s : List C) : List Int := if isReg W rows then putAll (rawV W rows s) else []
/-- What placements are: masks of the grid. -/
def Msk (N : Nat) (l : List Int) : Prop := ∀ x ∈ l, ∃ q : Nat, x = (q : Int) ∧ q < 2 ^ N
theorem Msk.nil (N : Nat) : Msk N [] := by simp [Msk]
theorem Msk.app {N : Nat} {a b : List Int} (h : Msk N a) (k : Msk N b) : Msk N (a ++ b) := fun x hx => by
  rcases List.mem_append.1 hx with h1 | h1
  · exact h x h1
  · exact k x h1
theorem plAt_msk {m : Nat} {rows : List Int} (h36 : m * rows.length ≤ 36) (t : List C) (y x : Nat) : Msk (m * rows.length) (plAt (m : Int) rows t y x) ∧ (plAt (m : Int) rows t y x).length ≤ 1 := by
  unfold plAt
  rcases hv : mcV (m : Int) rows (mv t x y) 0 with _ | v
  · exact ⟨Msk.nil _, by simp [optL]⟩
  · refine ⟨fun z hz => ?_, by simp [optL]⟩
    simp only [optL, List.mem_singleton] at hz
    exact ⟨v, hz, mcV_lt h36 _ 0 v (Nat.pow_pos (by decide)) hv⟩
theorem rowX_msk {m : Nat} {rows : List Int} (h36 : m * rows.length ≤ 36) (t : List C) (y : Nat) : ∀ k, Msk (m * rows.length) (rowX (m : Int) rows t y k) ∧ (rowX (m : Int) rows t y k).length ≤ k
  | 0 => ⟨Msk.nil _, by simp [rowX]⟩
  | k + 1 => by
    obtain ⟨h1, h2⟩ := rowX_msk h36 t y k
    obtain ⟨h3, h4⟩ := plAt_msk h36 t y k
    refine ⟨h1.app h3, ?_⟩
    show (rowX _ _ _ _ _ ++ plAt _ _ _ _ _).length ≤ _
    rw [List.length_append]
    omega
theorem rowY_msk {m : Nat} {rows : List Int} (h36 : m * rows.length ≤ 36) (t : List C) : ∀ k, Msk (m * rows.length) (rowY (m : Int) rows t k) ∧ (rowY (m : Int) rows t k).length ≤ k * m
  | 0 => ⟨Msk.nil _, by simp [rowY]⟩
  | k + 1 => by
    obtain ⟨h1, h2⟩ := rowY_msk h36 t k
    obtain ⟨h3, h4⟩ := rowX_msk h36 t k m
    have e : ((m : Int)).toNat = m := Int.toNat_natCast _
    refine ⟨?_, ?_⟩
    · show Msk _ (rowY _ _ _ _ ++ rowX _ _ _ _ _)
      rw [e]
      exact h1.app h3
    · show (rowY _ _ _ _ ++ rowX _ _ _ _ _).length ≤ _
      rw [List.length_append, e, Nat.succ_mul]
      omega
theorem rawTo_msk {m : Nat} {rows : List Int} (h36 : m * rows.length ≤ 36) (F : List (List C)) : ∀ k, Msk (m * rows.length) (rawTo (m : Int) rows F k) ∧ (rawTo (m : Int) rows F k).length ≤ k * 36
  | 0 => ⟨Msk.nil _, by simp [rawTo]⟩
  | k + 1 => by
    obtain ⟨h1, h2⟩ := rawTo_msk h36 F k
    obtain ⟨h3, h4⟩ := rowY_msk h36 (F.getD k []) rows.length
    refine ⟨h1.app h3, ?_⟩
    show (rawTo _ _ _ _ ++ rowY _ _ _ _).length ≤ _
    rw [Nat.mul_comm rows.length] at h4
    rw [List.length_append, Nat.succ_mul]
    omega
theorem reg36 {W : Int} {rows : List Int} (h : isReg W rows = true) : ∃ m : Nat, W = (m : Int) ∧ m * rows.length ≤ 36 := by
  obtain ⟨m, rfl, _, h6, _, h7, _⟩ := isReg_yes h
  have : m * rows.length ≤ 6 * 6 := Nat.mul_le_mul h6 h7
  exact ⟨m, rfl, this⟩
theorem rawV_len {W : Int} {rows : List Int} (h : isReg W rows = true) (s : List C) : (rawV W rows s).length ≤ 288 := by
  obtain ⟨m, rfl, h36⟩ := reg36 h
  have h1 := (rawTo_msk h36 (orV s) (orV s).length).2
  have h2 := orV_len s
  have : (orV s).length * 36 ≤ 8 * 36 := Nat.mul_le_mul_right _ h2
  unfold rawV
  omega
theorem putAll_mem (l : List Int) (x : Int) : x ∈ putAll l ↔ x ∈ l := by
  have := (foldl_inc l [] List.Pairwise.nil).2 x
  simpa [putAll] using this
theorem putAll_len (l : List Int) : (putAll l).length ≤ l.length := by rw [← ord_eq]; exact ord_len l
theorem plV_len (W : Int) (rows : List Int) (s : List C) : (plV W rows s).length ≤ 288 := by
  unfold plV
  split
  · next h => exact Nat.le_trans (putAll_len _) (rawV_len h s)
  · simp
theorem plV_msk (W : Int) (rows : List Int) (s : List C) : Msk 36 (plV W rows s) := by
  unfold plV
  split
  · next h =>
    obtain ⟨m, rfl, h36⟩ := reg36 h
    intro x hx
    obtain ⟨q, e, hq⟩ := (rawTo_msk h36 (orV s) (orV s).length).1 x ((putAll_mem _ _).1 hx)
    exact ⟨q, e, Nat.lt_of_lt_of_le hq (Nat.pow_le_pow_right (by decide) h36)⟩
  · exact Msk.nil _
theorem plV_inc (W : Int) (rows : List Int) (s : List C) : Inc (plV W rows s) := by
  unfold plV
  split
  · exact (foldl_inc _ [] List.Pairwise.nil).1
  · exact List.Pairwise.nil
theorem bit_testP (m k : Nat) (hm : m < 2 ^ 62) : (bits .and .i64 ((m : Int) / 2 ^ k) 1 == 1) = m.testBit k := by
  have e : ((m : Int) / 2 ^ k) = ((m / 2 ^ k : Nat) : Int) := by simp
  have hle := Nat.div_le_self m (2 ^ k)
  have h1 := i64_and (m / 2 ^ k) 1 (by omega) (by decide)
  rw [e, show (1 : Int) = ((1 : Nat) : Int) from rfl, h1, Nat.and_one_is_mod, bit_and]
  cases m.testBit k <;> rfl
/-- What the mask of cells answers. -/
def mcR : Option Nat → Value
  | some v => .tuple #[.int .i64 (v : Int), .bool true]
  | none => .tuple #[.int .i64 0, .bool false]
theorem mcV_no {W : Int} {rows : List Int} {c : C} {t : List C} {n : Nat} (h : (hasR W rows c && !n.testBit (posM W.toNat c)) = false) : mcV W rows (c :: t) n = none := by unfold mcV; rw [h]; rfl
theorem mcV_yes {W : Int} {rows : List Int} {c : C} {t : List C} {n : Nat} (h : (hasR W rows c && !n.testBit (posM W.toNat c)) = true) : mcV W rows (c :: t) n = mcV W rows t (n + 2 ^ posM W.toNat c) := by
  show (if _ then _ else _) = _
  rw [if_pos h]
theorem putAll_snoc (l : List Int) (x : Int) : putAll (l ++ [x]) = putI (putAll l) x := by simp [putAll]
/-- The placements of all pieces. -/
def catTo (W : Int) (rows : List Int) (P : List (List C)) : Nat → List Int
  | 0 => []
  | k + 1 => catTo W rows P k ++ plV W rows (P.getD k [])
def allV (W : Int) (rows : List Int) (P : List (List C)) : List Int := putAll (catTo W rows P P.length)
theorem catTo_msk (W : Int) (rows : List Int) (P : List (List C)) : ∀ k, Msk 36 (catTo W rows P k) ∧ (catTo W rows P k).length ≤ 288 * k
  | 0 => ⟨Msk.nil _, by simp [catTo]⟩
  | k + 1 => by
    obtain ⟨h1, h2⟩ := catTo_msk W rows P k
    refine ⟨h1.app (plV_msk W rows _), ?_⟩
    have := plV_len W rows (P.getD k [])
    show (catTo W rows P k ++ plV _ _ _).length ≤ _
    rw [List.length_append]
    omega
theorem allV_msk (W : Int) (rows : List Int) (P : List (List C)) : Msk 36 (allV W rows P) := fun x hx => (catTo_msk W rows P P.length).1 x ((putAll_mem _ _).1 hx)
theorem allV_len (W : Int) (rows : List Int) (P : List (List C)) : (allV W rows P).length ≤ 288 * P.length := Nat.le_trans (putAll_len _) (catTo_msk W rows P P.length).2
theorem allV_inc (W : Int) (rows : List Int) (P : List (List C)) : Inc (allV W rows P) := (foldl_inc _ [] List.Pairwise.nil).1
/-- Masks gathered one by one, as long as all is well. -/
def optTo (ok : Nat → Nat → Bool) (f : Nat → Nat) : Nat → Option Nat
  | 0 => some 0
  | k + 1 => match optTo ok f k with
    | none => none
    | some u => if ok k u then some (u ||| f k) else none
theorem optTo_succ {ok : Nat → Nat → Bool} {f : Nat → Nat} {k u : Nat} (h : optTo ok f k = some u) : optTo ok f (k + 1) = if ok k u then some (u ||| f k) else none := by
  show (match optTo ok f k with | none => none | some u => if ok k u then some (u ||| f k) else none) = _
  rw [h]
theorem optTo_stay {ok : Nat → Nat → Bool} {f : Nat → Nat} {k : Nat} (h : optTo ok f k = none) : ∀ j, optTo ok f (k + j) = none
  | 0 => h
  | j + 1 => by
    show (match optTo ok f (k + j) with | none => none | some u => if ok (k + j) u then some (u ||| f (k + j)) else none) = _
    rw [optTo_stay h j]
theorem optTo_no {ok : Nat → Nat → Bool} {f : Nat → Nat} {k u n : Nat} (h : optTo ok f k = some u) (h2 : ok k u = false) (hn : k < n) : optTo ok f n = none := by
  have h3 : optTo ok f (k + 1) = none := by rw [optTo_succ h, h2]; rfl
  have := optTo_stay h3 (n - (k + 1))
  rwa [show k + 1 + (n - (k + 1)) = n by omega] at this
/-- Masks that are a solution, a covering. -/
def optIs : Option Nat → Nat → Bool
  | none, _ => false
  | some u, v => u == v
def solOk (W : Int) (rows : List Int) (P : List (List C)) (l : List Int) (k u : Nat) : Bool := (plV W rows (P.getD k [])).any (· == l.getD k 0) && u &&& (l.getD k 0).toNat == 0
def solTo (W : Int) (rows : List Int) (P : List (List C)) (l : List Int) : Nat → Option Nat := optTo (solOk W rows P l) (fun k => (l.getD k 0).toNat)
def solV (W : Int) (rows : List Int) (P : List (List C)) (l : List Int) : Bool := (isReg W rows && pcs P) && (l.length == P.length && optIs (solTo W rows P l l.length) (maskV W rows))
def covOk (L l : List Int) (k : Nat) (_u : Nat) : Bool := L.any (· == l.getD k 0) && (k == 0 || decide (l.getD (k - 1) 0 < l.getD k 0))
def covTo (L l : List Int) : Nat → Option Nat := optTo (covOk L l) (fun k => (l.getD k 0).toNat)
def covV (W : Int) (rows : List Int) (P : List (List C)) (l : List Int) : Bool := (isReg W rows && pcs P) && optIs (covTo (allV W rows P) l l.length) (maskV W rows)
theorem has_msk {L : List Int} (h : Msk 36 L) {m : Int} (hm : L.any (· == m) = true) : ∃ q : Nat, m = (q : Int) ∧ q < 2 ^ 36 := by
  rw [List.any_eq_true] at hm
  obtain ⟨x, hx, e⟩ := hm
  rw [beq_iff_eq] at e
  subst e
  exact h x hx
end Go.Proofs.YtcgjnonlndaoeaaGreatDoor

/- Has a region a cell? The mask of some cells: both sides. -/
namespace Go.Proofs.YtcgjnonlndaoeaaGreatDoor
open Go.RowKit
set_option linter.unusedVariables false
attribute [local go_sem ↓] Go.wp_at_zero Go.wp_at_succ

set_option maxHeartbeats 1600000 in
theorem has_i (W : Int) (A : Option Addr) (n c : Nat) (rows : List Int) (x y : Int) (w : World) (hr : Rd w A (vI rows)) (hl : rows.length = n) (hv : isReg W rows = true) (hx : -1000 ≤ x ∧ x ≤ 1000) (hy : -1000 ≤ y ∧ y ≤ 1000) :
    Calls Tryz.prog 112 #[.agg #[.int .i64 W, .slice A n c], .int .i64 x, .int .i64 y] w (Ret w (.bool (hasR W rows (x, y)))) := by
  obtain ⟨m, rfl, hm1, hm6, hn1, hn6, hrow⟩ := isReg_yes hv
  rw [hl] at hn1 hn6
  have HL := Lib.hid hl
  have HR := Lib.hid (hr.alloc (.cells #[.int .i64 (m : Int), .slice A n c] 29))
  have HROW := Lib.hid hrow
  have hdef : hasR (m : Int) rows (x, y) = (((decide (0 ≤ x) && decide (x < m)) && (decide (0 ≤ y) && decide (y < (n : Int)))) && (rows.getD y.toNat 0).toNat.testBit x.toNat) := by unfold hasR; rw [hl]
  have HD := Lib.hid hdef
  clear hl hr hrow hv hdef
  by_cases hxm : 0 ≤ x ∧ x < m
  · by_cases hyn : 0 ≤ y ∧ y < n
    · obtain ⟨p, rfl⟩ := Int.eq_ofNat_of_zero_le hxm.1
      obtain ⟨q, rfl⟩ := Int.eq_ofNat_of_zero_le hyn.1
      have hkl : q < rows.length := by rw [HL.out]; omega
      obtain ⟨t, ht, htl⟩ := HROW.out q hkl
      have hgd : (rows.getD ((q : Int)).toNat 0).toNat = t := by rw [Int.toNat_natCast, List.getD_eq_getElem?_getD, List.getElem?_eq_getElem hkl, Option.getD_some, ht]; rfl
      have HV : Hid (hasR (m : Int) rows ((p : Int), (q : Int)) = t.testBit p) := by
        show _ = _
        rw [HD.out, hgd, Int.toNat_natCast]
        simp only [show (0 : Int) ≤ (p : Int) from by omega, show (0 : Int) ≤ (q : Int) from by omega, show (p : Int) < (m : Int) from by omega, show (q : Int) < (n : Int) from by omega, decide_true, Bool.and_true, Bool.true_and]
      have h26 : t < 2 ^ 62 := Nat.lt_of_lt_of_le htl (Nat.pow_le_pow_right (by decide) (by omega))
      have hbit := bit_testP t p h26
      have ht26 : t < 2 ^ 6 := Nat.lt_of_lt_of_le htl (Nat.pow_le_pow_right (by decide) hm6)
      obtain ⟨d, hd⟩ : ∃ d, t / 2 ^ p = d := ⟨_, rfl⟩
      have hdI : (t : Int) / 2 ^ p = (d : Int) := by rw [← hd]; simp
      rw [hdI] at hbit
      have hp0 : (0 : Int) ≤ (p : Int) := by omega
      have hp64 : (p : Int) ≤ 64 := by omega
      have hq0 : (0 : Int) ≤ (q : Int) := by omega
      have hq1 : (q : Int) < (n : Int) := by omega
      have b1 : true = (decide ((0 : Int) ≤ (p : Int)) && decide ((p : Int) ≤ (m : Int) - 1)) := by simp; omega
      have b2 : true = (decide ((0 : Int) ≤ (q : Int)) && decide ((q : Int) ≤ (n : Int) - 1)) := by simp; omega
      have B1 := Lib.hid b1
      have B2 := Lib.hid b2
      have e1 : IntKind.i64.wrap ((m : Int) - 1) = (m : Int) - 1 := Go.IntWalk.i64_in _ (by omega)
      have e2 : IntKind.i64.wrap ((n : Int) - 1) = (n : Int) - 1 := Go.IntWalk.i64_in _ (by omega)
      have HKL := Lib.hid hkl
      have HTT := Lib.hid ht
      clear ht htl hgd hd hxm hyn b1 b2 h26
      go_enter Tryz.func112, Tryz.ntmps112
      go_wp2_with fail
      refine (between_b (p : Int) 0 ((m : Int) - 1) true _ B1.out).mono ?_
      rintro e w1 ⟨rfl, hb1⟩
      have hB := (Blk.new w 29 #[.int .i64 (m : Int), .slice A n c]).below hb1
      have d0 : w1.cell? ⟨w.heap.size, 0, none⟩ = some (.int .i64 (m : Int)) := by simpa using hB.cell 0
      have d1 : w1.cell? ⟨w.heap.size, 1, none⟩ = some (.slice A n c) := by simpa using hB.cell 1
      have hgw := hB.lt
      go_wp2_with fail
      refine (between_b (q : Int) 0 ((n : Int) - 1) true _ B2.out).mono ?_
      rintro e w2 ⟨rfl, hb2⟩
      have d2 := keep_below hb2 d1
      have hgw2 : w.heap.size < w2.heap.size := Nat.lt_of_lt_of_le hgw hb2.size
      obtain ⟨g, off, hA, hg, c1⟩ := RdI.at_ ((HR.out.below hb1).below hb2) HKL.out
      rw [HTT.out] at c1
      subst hA
      go_wp2_with fail
      go_ret
      exact ⟨by rw [HV.out, ← hbit]; rfl, (by (repeat (first | with_reducible exact Below.refl _ _ | with_reducible assumption | with_reducible apply bel_alloc | with_reducible apply bel_drew | with_reducible apply bel_drewN | ((with_reducible refine bel_set ?_ ?_); rotate_left; (simp <;> omega)) | (with_reducible refine bel_trans ?_ (by with_reducible assumption)))))⟩
    · have HV : Hid (hasR (m : Int) rows (x, y) = false) := by
        show _ = _
        rw [HD.out]
        have : (decide (0 ≤ y) && decide (y < (n : Int))) = false := by
          rw [Bool.eq_false_iff]; intro h; simp only [Bool.and_eq_true, decide_eq_true_eq] at h; exact hyn h
        rw [this, Bool.and_false, Bool.false_and]
      have b1 : true = (decide ((0 : Int) ≤ x) && decide (x ≤ (m : Int) - 1)) := by simp; omega
      have b2 : false = (decide ((0 : Int) ≤ y) && decide (y ≤ (n : Int) - 1)) := by
        symm; rw [Bool.eq_false_iff]; intro h; simp only [Bool.and_eq_true, decide_eq_true_eq] at h; exact hyn ⟨h.1, by omega⟩
      have B1 := Lib.hid b1
      have B2 := Lib.hid b2
      have e1 : IntKind.i64.wrap ((m : Int) - 1) = (m : Int) - 1 := Go.IntWalk.i64_in _ (by omega)
      have e2 : IntKind.i64.wrap ((n : Int) - 1) = (n : Int) - 1 := Go.IntWalk.i64_in _ (by omega)
      clear hxm hyn b1 b2
      go_enter Tryz.func112, Tryz.ntmps112
      go_wp2_with fail
      refine (between_b x 0 ((m : Int) - 1) true _ B1.out).mono ?_
      rintro e w1 ⟨rfl, hb1⟩
      have hB := (Blk.new w 29 #[.int .i64 (m : Int), .slice A n c]).below hb1
      have d0 : w1.cell? ⟨w.heap.size, 0, none⟩ = some (.int .i64 (m : Int)) := by simpa using hB.cell 0
      have d1 : w1.cell? ⟨w.heap.size, 1, none⟩ = some (.slice A n c) := by simpa using hB.cell 1
      have hgw := hB.lt
      go_wp2_with fail
      refine (between_b y 0 ((n : Int) - 1) false _ B2.out).mono ?_
      rintro e w2 ⟨rfl, hb2⟩
      go_wp2_with fail
      go_ret
      exact ⟨by rw [HV.out]; rfl, (by (repeat (first | with_reducible exact Below.refl _ _ | with_reducible assumption | with_reducible apply bel_alloc | with_reducible apply bel_drew | with_reducible apply bel_drewN | ((with_reducible refine bel_set ?_ ?_); rotate_left; (simp <;> omega)) | (with_reducible refine bel_trans ?_ (by with_reducible assumption)))))⟩
  · have HV : Hid (hasR (m : Int) rows (x, y) = false) := by
      show _ = _
      rw [HD.out]
      have : (decide (0 ≤ x) && decide (x < (m : Int))) = false := by
        rw [Bool.eq_false_iff]; intro h; simp only [Bool.and_eq_true, decide_eq_true_eq] at h; exact hxm h
      rw [this, Bool.false_and, Bool.false_and]
    have b1 : false = (decide ((0 : Int) ≤ x) && decide (x ≤ (m : Int) - 1)) := by
      symm; rw [Bool.eq_false_iff]; intro h; simp only [Bool.and_eq_true, decide_eq_true_eq] at h; exact hxm ⟨h.1, by omega⟩
    have B1 := Lib.hid b1
    have e1 : IntKind.i64.wrap ((m : Int) - 1) = (m : Int) - 1 := Go.IntWalk.i64_in _ (by omega)
    clear hxm b1
    go_enter Tryz.func112, Tryz.ntmps112
    go_wp2_with fail
    refine (between_b x 0 ((m : Int) - 1) false _ B1.out).mono ?_
    rintro e w1 ⟨rfl, hb1⟩
    go_wp2_with fail
    go_ret
    exact ⟨by rw [HV.out]; rfl, (by (repeat (first | with_reducible exact Below.refl _ _ | with_reducible assumption | with_reducible apply bel_alloc | with_reducible apply bel_drew | with_reducible apply bel_drewN | ((with_reducible refine bel_set ?_ ?_); rotate_left; (simp <;> omega)) | (with_reducible refine bel_trans ?_ (by with_reducible assumption)))))⟩
set_option maxHeartbeats 1600000 in
theorem l6In_s (W : Int) (A : Option Addr) (n c : Nat) (rows : List Int) (x y : Int) (w : World) (hr : Rd w A (vI rows)) (hl : rows.length = n) (hv : isReg W rows = true) (hx : -1000 ≤ x ∧ x ≤ 1000) (hy : -1000 ≤ y ∧ y ≤ 1000) :
    Calls Tryz.prog 82 #[.agg #[.int .i64 W, .slice A n c], .int .i64 x, .int .i64 y] w (Ret w (.bool (hasR W rows (x, y)))) := by
  obtain ⟨m, rfl, hm1, hm6, hn1, hn6, hrow⟩ := isReg_yes hv
  rw [hl] at hn1 hn6
  have HL := Lib.hid hl
  have HR := Lib.hid (hr.alloc (.cells #[.int .i64 (m : Int), .slice A n c] 29))
  have HROW := Lib.hid hrow
  have hdef : hasR (m : Int) rows (x, y) = (((decide (0 ≤ x) && decide (x < m)) && (decide (0 ≤ y) && decide (y < (n : Int)))) && (rows.getD y.toNat 0).toNat.testBit x.toNat) := by unfold hasR; rw [hl]
  have HD := Lib.hid hdef
  clear hl hr hrow hv hdef
  cases c1 : decide (x ≥ 0) with
  | false =>
    have HV : Hid (hasR (m : Int) rows (x, y) = false) := by show _ = _; rw [HD.out, show decide (0 ≤ x) = false from c1]; rfl
    go_enter Tryz.func82, Tryz.ntmps82
    go_wp2_with fail
    go_ret
    exact ⟨by rw [HV.out]; rfl, (by (repeat (first | with_reducible exact Below.refl _ _ | with_reducible assumption | with_reducible apply bel_alloc | with_reducible apply bel_drew | with_reducible apply bel_drewN | ((with_reducible refine bel_set ?_ ?_); rotate_left; (simp <;> omega)) | (with_reducible refine bel_trans ?_ (by with_reducible assumption)))))⟩
  | true =>
    cases c2 : decide (y ≥ 0) with
    | false =>
      have HV : Hid (hasR (m : Int) rows (x, y) = false) := by show _ = _; rw [HD.out, show decide (0 ≤ y) = false from c2]; simp
      go_enter Tryz.func82, Tryz.ntmps82
      go_wp2_with fail
      go_ret
      exact ⟨by rw [HV.out]; rfl, (by (repeat (first | with_reducible exact Below.refl _ _ | with_reducible assumption | with_reducible apply bel_alloc | with_reducible apply bel_drew | with_reducible apply bel_drewN | ((with_reducible refine bel_set ?_ ?_); rotate_left; (simp <;> omega)) | (with_reducible refine bel_trans ?_ (by with_reducible assumption)))))⟩
    | true =>
      cases c3 : decide (x < (m : Int)) with
      | false =>
        have HV : Hid (hasR (m : Int) rows (x, y) = false) := by show _ = _; rw [HD.out, c3]; simp
        go_enter Tryz.func82, Tryz.ntmps82
        go_wp2_with fail
        go_ret
        exact ⟨by rw [HV.out]; rfl, (by (repeat (first | with_reducible exact Below.refl _ _ | with_reducible assumption | with_reducible apply bel_alloc | with_reducible apply bel_drew | with_reducible apply bel_drewN | ((with_reducible refine bel_set ?_ ?_); rotate_left; (simp <;> omega)) | (with_reducible refine bel_trans ?_ (by with_reducible assumption)))))⟩
      | true =>
        cases c4 : decide (y < (n : Int)) with
        | false =>
          have HV : Hid (hasR (m : Int) rows (x, y) = false) := by show _ = _; rw [HD.out, c4]; simp
          go_enter Tryz.func82, Tryz.ntmps82
          go_wp2_with fail
          go_ret
          exact ⟨by rw [HV.out]; rfl, (by (repeat (first | with_reducible exact Below.refl _ _ | with_reducible assumption | with_reducible apply bel_alloc | with_reducible apply bel_drew | with_reducible apply bel_drewN | ((with_reducible refine bel_set ?_ ?_); rotate_left; (simp <;> omega)) | (with_reducible refine bel_trans ?_ (by with_reducible assumption)))))⟩
        | true =>
          have hx0 := of_decide_eq_true c1
          have hy0 := of_decide_eq_true c2
          have hx1 := of_decide_eq_true c3
          have hy1 := of_decide_eq_true c4
          obtain ⟨p, rfl⟩ := Int.eq_ofNat_of_zero_le hx0
          obtain ⟨q, rfl⟩ := Int.eq_ofNat_of_zero_le hy0
          have hkl : q < rows.length := by rw [HL.out]; omega
          obtain ⟨t, ht, htl⟩ := HROW.out q hkl
          have hgd : (rows.getD ((q : Int)).toNat 0).toNat = t := by rw [Int.toNat_natCast, List.getD_eq_getElem?_getD, List.getElem?_eq_getElem hkl, Option.getD_some, ht]; rfl
          have HV : Hid (hasR (m : Int) rows ((p : Int), (q : Int)) = t.testBit p) := by
            show _ = _
            rw [HD.out, hgd, Int.toNat_natCast, show decide ((0 : Int) ≤ (p : Int)) = true from c1, show decide ((0 : Int) ≤ (q : Int)) = true from c2, c3, c4]
            simp
          have h26 : t < 2 ^ 62 := Nat.lt_of_lt_of_le htl (Nat.pow_le_pow_right (by decide) (by omega))
          have hbit := bit_testP t p h26
          have ht26 : t < 2 ^ 6 := Nat.lt_of_lt_of_le htl (Nat.pow_le_pow_right (by decide) hm6)
          obtain ⟨d, hd⟩ : ∃ d, t / 2 ^ p = d := ⟨_, rfl⟩
          have hdI : (t : Int) / 2 ^ p = (d : Int) := by rw [← hd]; simp
          rw [hdI] at hbit
          have hp64 : (p : Int) ≤ 64 := by omega
          have HRR := HR.out
          obtain ⟨g, off, hA, hg, c9⟩ := RdI.at_ HRR hkl
          rw [ht] at c9
          subst hA
          clear ht htl hgd hd h26 HRR
          go_enter Tryz.func82, Tryz.ntmps82
          go_wp2_with fail
          go_ret
          exact ⟨by rw [HV.out, ← hbit]; rfl, (by (repeat (first | with_reducible exact Below.refl _ _ | with_reducible assumption | with_reducible apply bel_alloc | with_reducible apply bel_drew | with_reducible apply bel_drewN | ((with_reducible refine bel_set ?_ ?_); rotate_left; (simp <;> omega)) | (with_reducible refine bel_trans ?_ (by with_reducible assumption)))))⟩
theorem InRegion_s (W : Int) (A : Option Addr) (n c : Nat) (rows : List Int) (x y : Int) (w : World) (hr : Rd w A (vI rows)) (hl : rows.length = n) (hx : -1000 ≤ x ∧ x ≤ 1000) (hy : -1000 ≤ y ∧ y ≤ 1000) :
    Calls Tryz.prog 109 #[.agg #[.int .i64 W, .slice A n c], .int .i64 x, .int .i64 y] w (Ret w (.bool (isReg W rows && hasR W rows (x, y)))) := by
  have HL := Lib.hid hl
  have HR := Lib.hid (hr.alloc (.cells #[.int .i64 W, .slice A n c] 29))
  have HX := Lib.hid hx
  have HY := Lib.hid hy
  clear hl hr hx hy
  cases hv : isReg W rows with
  | false =>
    have HV := Lib.hid hv
    clear hv
    go_enter Tryz.func109, Tryz.ntmps109
    go_wp2_with fail
    refine (IsRegion_s _ _ _ _ rows _ HR.out HL.out).mono ?_
    rw [HV.out]
    rintro e w1 ⟨rfl, hb1⟩
    go_wp2_with fail
    go_ret
    exact ⟨rfl, (by (repeat (first | with_reducible exact Below.refl _ _ | with_reducible assumption | with_reducible apply bel_alloc | with_reducible apply bel_drew | with_reducible apply bel_drewN | ((with_reducible refine bel_set ?_ ?_); rotate_left; (simp <;> omega)) | (with_reducible refine bel_trans ?_ (by with_reducible assumption)))))⟩
  | true =>
    have HV := Lib.hid hv
    clear hv
    go_enter Tryz.func109, Tryz.ntmps109
    go_wp2_with fail
    refine (IsRegion_s _ _ _ _ rows _ HR.out HL.out).mono ?_
    rw [HV.out]
    rintro e w1 ⟨rfl, hb1⟩
    have hB := (Blk.new w 29 #[.int .i64 W, .slice A n c]).below hb1
    have d0 : w1.cell? ⟨w.heap.size, 0, none⟩ = some (.int .i64 W) := by simpa using hB.cell 0
    have d1 : w1.cell? ⟨w.heap.size, 1, none⟩ = some (.slice A n c) := by simpa using hB.cell 1
    have hgw := hB.lt
    go_wp2_with fail
    refine (l6In_s _ _ _ _ rows x y _ (HR.out.below hb1) HL.out HV.out HX.out HY.out).mono ?_
    rintro e w2 ⟨rfl, hb2⟩
    go_wp2_with fail
    go_ret
    exact ⟨by simp, (by (repeat (first | with_reducible exact Below.refl _ _ | with_reducible assumption | with_reducible apply bel_alloc | with_reducible apply bel_drew | with_reducible apply bel_drewN | ((with_reducible refine bel_set ?_ ?_); rotate_left; (simp <;> omega)) | (with_reducible refine bel_trans ?_ (by with_reducible assumption)))))⟩
theorem mc_num {m n : Nat} {rows : List Int} {x y : Int} (h36 : m * rows.length ≤ 36) (h : hasR (m : Int) rows (x, y) = true) :
    ∃ p q s j : Nat, x = (p : Int) ∧ y = (q : Int) ∧ p < m ∧ (q : Int) * (m : Int) = (s : Int) ∧ (s : Int) + (p : Int) = (j : Int) ∧ posM m (x, y) = j ∧ j < 36 ∧ j < m * rows.length ∧ s ≤ 36 := by
  obtain ⟨p, q, e, h1, h2, h3, h4⟩ := hasR_pos h
  injection e with e1 e2
  exact ⟨p, q, q * m, q * m + p, e1, e2, h1, by simp, by simp, h3, by omega, h4, by omega⟩
set_option maxRecDepth 100000 in
set_option maxHeartbeats 3200000 in
theorem MaskOfCells_i (W : Int) (A B : Option Addr) (n c k cb : Nat) (rows : List Int) (cs : List C) (w : World) (hr : Rd w A (vI rows)) (hl : rows.length = n) (hv : isReg W rows = true) (hrc : Rd w B (vC cs)) (hlc : cs.length = k) (hk : k ≤ 1048576) (hs : ∀ d ∈ cs, small d) :
    Calls Tryz.prog 91 #[.agg #[.int .i64 W, .slice A n c], .slice B k cb] w (Ret w (mcR (mcV W rows cs 0))) := by
  have hv0 := hv
  obtain ⟨m, rfl, hm1, hm6, hn1, hn6, hrow⟩ := isReg_yes hv
  have h36 : m * rows.length ≤ 6 * 6 := Nat.mul_le_mul hm6 hn6
  have HL := Lib.hid hl
  have HV := Lib.hid hv0
  have HR := Lib.hid (hr.alloc (.cells #[.int .i64 (m : Int), .slice A n c] 29))
  have HRC := Lib.hid (hrc.alloc (.cells #[.int .i64 (m : Int), .slice A n c] 29))
  have HLC := Lib.hid hlc
  have HS := Lib.hid hs
  have H36 : Hid (m * rows.length ≤ 36) := h36
  have hmt : ((m : Int)).toNat = m := Int.toNat_natCast _
  have HMT := Lib.hid hmt
  clear hl hr hrow hv hv0 hrc hlc hs h36 hn1 hn6 hmt
  go_enter Tryz.func91, Tryz.ntmps91
  go_wp2_with fail
  refine (IsRegion_i _ _ _ _ rows _ HR.out HL.out).mono ?_
  rw [HV.out]
  rintro e w1 ⟨rfl, hb1⟩
  have HB1 := Lib.hid ((Blk.new w 29 #[.int .i64 (m : Int), .slice A n c]).below hb1)
  have HR1 := Lib.hid (HR.out.below hb1)
  have HRC1 := Lib.hid (HRC.out.below hb1)
  have hbw1 : Below w.heap.size w w1 := bel_trans (bel_alloc (Below.refl _ _) _) hb1
  clear hb1
  go_wp2_with fail
  go_loopw [14, 6] (fun e14 e6 wr => ∃ (i v : Nat), i ≤ k ∧ e14 = .int .i64 i ∧ e6 = .int .i64 (v : Int) ∧ v < 2 ^ (m * rows.length) ∧ mcV (m : Int) rows cs 0 = mcV (m : Int) rows (cs.drop i) v ∧ Below w1.heap.size w1 wr) (fun e14 _ _ => k - (intOf e14).toNat)
  case atStart => exact ⟨0, 0, Nat.zero_le _, rfl, rfl, Nat.pow_pos (by decide), rfl, Below.refl _ _⟩
  case round =>
    obtain ⟨i, v, hi, rfl, rfl, hvl, hmc, hb⟩ := hrel
    have hv36 : v < 2 ^ 36 := Nat.lt_of_lt_of_le hvl (Nat.pow_le_pow_right (by decide) H36.out)
    by_cases hlt : i < k
    · have hkl : i < cs.length := by rw [HLC.out]; exact hlt
      have hi0 : (0 : Int) ≤ (i : Int) := by omega
      have hi1 : (i : Int) < (k : Int) := by omega
      obtain ⟨g, off, hA, hg, d1, d2⟩ := RdC.at_ (HRC1.out.below hb) hkl
      have hsm := HS.out _ (List.getElem_mem hkl)
      rw [List.drop_eq_getElem_cons hkl] at hmc
      obtain ⟨x, hx⟩ : ∃ x, cs[i].1 = x := ⟨_, rfl⟩
      obtain ⟨y, hy⟩ : ∃ y, cs[i].2 = y := ⟨_, rfl⟩
      rw [show cs[i] = (x, y) from Prod.ext hx hy] at hmc hsm
      rw [hx] at d1
      rw [hy] at d2
      unfold small at hsm
      simp only at hsm
      have hNO : (hasR (m : Int) rows (x, y) && !v.testBit (posM m (x, y))) = false → mcV (m : Int) rows cs 0 = none := fun h => by rw [hmc]; exact mcV_no (by rw [HMT.out]; exact h)
      have hYES : (hasR (m : Int) rows (x, y) && !v.testBit (posM m (x, y))) = true → mcV (m : Int) rows cs 0 = mcV (m : Int) rows (cs.drop (i + 1)) (v + 2 ^ posM m (x, y)) := fun h => by rw [hmc, mcV_yes (by rw [HMT.out]; exact h), HMT.out]
      have HNO := Lib.hid hNO
      have HYES := Lib.hid hYES
      have HSX := Lib.hid hsm.1
      have HSY := Lib.hid hsm.2
      have hB := HB1.out.below hb
      have b0 : wr.cell? ⟨w.heap.size, 0, none⟩ = some (.int .i64 (m : Int)) := by simpa using hB.cell 0
      have b1 : wr.cell? ⟨w.heap.size, 1, none⟩ = some (.slice A n c) := by simpa using hB.cell 1
      have hgw := hB.lt
      have HVL := Lib.hid hvl
      subst hA
      clear hmc hx hy hsm hB hNO hYES hvl
      cases hh : hasR (m : Int) rows (x, y) with
      | false =>
        have HH := Lib.hid hh
        have HN := Lib.hid (HNO.out (by rw [hh]; rfl))
        clear hh HNO HYES
        go_wp2_with fail
        refine (has_i (m : Int) A n c rows x y _ ((HR1.out.below hb).alloc _) HL.out HV.out HSX.out HSY.out).mono ?_
        rw [HH.out]
        rintro e w2 ⟨rfl, hb2⟩
        go_wp2_with fail
        go_ret2
        exact ⟨by rw [HN.out]; rfl, bel_trans hbw1 (bel_trans hb (bel_trans (bel_alloc (Below.refl _ _) _) hb2))⟩
      | true =>
        have HH := Lib.hid hh
        obtain ⟨p, q, s, j, rfl, rfl, hpm, hs, hj, hpos, hj36, hjl, hs36⟩ := mc_num H36.out hh (n := n)
        have hj0 : (0 : Int) ≤ (j : Int) := by omega
        have hj64 : (j : Int) ≤ 64 := by omega
        have hv62 : v < 2 ^ 62 := by omega
        have hbit := bit_testP v j hv62
        obtain ⟨d, hd⟩ : ∃ d, v / 2 ^ j = d := ⟨_, rfl⟩
        have hdI : (v : Int) / 2 ^ j = (d : Int) := by rw [← hd]; simp
        rw [hdI] at hbit
        have es : IntKind.i64.wrap (s : Int) = (s : Int) := Go.IntWalk.i64_in _ (by omega)
        have ej : IntKind.i64.wrap (j : Int) = (j : Int) := Go.IntWalk.i64_in _ (by omega)
        have h2j : (2 : Nat) ^ j < 2 ^ 36 := Nat.pow_lt_pow_right (by decide) hj36
        obtain ⟨t, ht⟩ : ∃ t : Nat, 2 ^ j = t := ⟨_, rfl⟩
        have htI : (2 : Int) ^ j = (t : Int) := by rw [← ht]; simp
        have hdT : (v : Int) / (t : Int) = (d : Int) := by rw [← htI]; exact hdI
        clear hdI
        rw [hpos] at HNO HYES
        rw [ht] at HYES
        have hTT : v.testBit j = false → v ||| t = v + t ∧ v + t < 2 ^ (m * rows.length) := fun h => by
          have h1 := or_bit hv62 (by omega) h
          rw [ht] at h1
          refine ⟨h1, ?_⟩
          rw [← h1, ← ht]
          exact Nat.or_lt_two_pow HVL.out (Nat.pow_lt_pow_right (by decide) hjl)
        have HTT := Lib.hid hTT
        rw [ht] at h2j
        clear hh hpos hd ht hTT
        cases hb2 : v.testBit j with
        | true =>
          have HN := Lib.hid (HNO.out (by rw [HH.out, hb2]; rfl))
          rw [hb2] at hbit
          clear hb2 HNO HYES HTT
          go_wp2_with fail
          refine (has_i (m : Int) A n c rows (p : Int) (q : Int) _ ((HR1.out.below hb).alloc _) HL.out HV.out HSX.out HSY.out).mono ?_
          rw [HH.out]
          rintro e w2 ⟨rfl, hb2⟩
          have hDK := (Blk.new wr 77 #[.int .i64 (p : Int), .int .i64 (q : Int)]).below hb2
          have c0 : w2.cell? ⟨wr.heap.size, 0, none⟩ = some (.int .i64 (p : Int)) := by simpa using hDK.cell 0
          have c1 : w2.cell? ⟨wr.heap.size, 1, none⟩ = some (.int .i64 (q : Int)) := by simpa using hDK.cell 1
          have cl := hDK.lt
          have y0 := keep_below hb2 (keep_alloc (o := .cells #[.int .i64 (p : Int), .int .i64 (q : Int)] 77) b0)
          have yl : w.heap.size < w2.heap.size := by omega
          clear hDK d1 d2 b0 b1
          go_wp2_with fail
          go_ret2
          exact ⟨by rw [HN.out]; rfl, bel_trans hbw1 (bel_trans hb (bel_trans (bel_alloc (Below.refl _ _) _) hb2))⟩
        | false =>
          have HN := Lib.hid (HYES.out (by rw [HH.out, hb2]; rfl))
          rw [hb2] at hbit
          obtain ⟨h1, h2⟩ := HTT.out hb2
          have hor : bits .or .i64 (v : Int) (t : Int) = ((v + t : Nat) : Int) := by rw [i64_or v t (by omega) (by omega), h1]
          have H2 := Lib.hid h2
          have HOR := Lib.hid hor
          clear hb2 HNO HYES HTT h1 h2 hor
          go_wp2_with fail
          refine (has_i (m : Int) A n c rows (p : Int) (q : Int) _ ((HR1.out.below hb).alloc _) HL.out HV.out HSX.out HSY.out).mono ?_
          rw [HH.out]
          rintro e w2 ⟨rfl, hb2⟩
          have hDK := (Blk.new wr 77 #[.int .i64 (p : Int), .int .i64 (q : Int)]).below hb2
          have c0 : w2.cell? ⟨wr.heap.size, 0, none⟩ = some (.int .i64 (p : Int)) := by simpa using hDK.cell 0
          have c1 : w2.cell? ⟨wr.heap.size, 1, none⟩ = some (.int .i64 (q : Int)) := by simpa using hDK.cell 1
          have cl := hDK.lt
          have y0 := keep_below hb2 (keep_alloc (o := .cells #[.int .i64 (p : Int), .int .i64 (q : Int)] 77) b0)
          have yl : w.heap.size < w2.heap.size := by omega
          have hor := HOR.out
          clear hDK d1 d2 b0 b1
          go_wp2_with fail
          exact ⟨⟨i + 1, v + t, by omega, by go_num, rfl, H2.out, HN.out, bel_trans hb (bel_trans (bel_alloc (Below.refl _ _) _) hb2)⟩, by simp [intOf]; omega⟩
    · obtain rfl : i = k := by omega
      rw [List.drop_of_length_le (by rw [HLC.out]; omega)] at hmc
      have HN := Lib.hid hmc
      have hi1 : ¬ (i : Int) < (i : Int) := by omega
      clear hmc hvl
      go_wp2_with fail
      go_ret2
      exact ⟨by rw [HN.out]; rfl, bel_trans hbw1 hb⟩
set_option maxRecDepth 100000 in
set_option maxHeartbeats 3200000 in
theorem MaskOfCells_s (W : Int) (A B : Option Addr) (n c k cb : Nat) (rows : List Int) (cs : List C) (w : World) (hr : Rd w A (vI rows)) (hl : rows.length = n) (hv : isReg W rows = true) (hrc : Rd w B (vC cs)) (hlc : cs.length = k) (hk : k ≤ 1048576) (hs : ∀ d ∈ cs, small d) :
    Calls Tryz.prog 89 #[.agg #[.int .i64 W, .slice A n c], .slice B k cb] w (Ret w (mcR (mcV W rows cs 0))) := by
  have hv0 := hv
  obtain ⟨m, rfl, hm1, hm6, hn1, hn6, hrow⟩ := isReg_yes hv
  have h36 : m * rows.length ≤ 6 * 6 := Nat.mul_le_mul hm6 hn6
  have HL := Lib.hid hl
  have HV := Lib.hid hv0
  have HR := Lib.hid (hr.alloc (.cells #[.int .i64 (m : Int), .slice A n c] 29))
  have HRC := Lib.hid (hrc.alloc (.cells #[.int .i64 (m : Int), .slice A n c] 29))
  have HLC := Lib.hid hlc
  have HS := Lib.hid hs
  have H36 : Hid (m * rows.length ≤ 36) := h36
  have hmt : ((m : Int)).toNat = m := Int.toNat_natCast _
  have HMT := Lib.hid hmt
  have HB1 := Lib.hid (Blk.new w 29 #[.int .i64 (m : Int), .slice A n c])
  have hbw1 : Below w.heap.size w (w.alloc (.cells #[.int .i64 (m : Int), .slice A n c] 29)) := bel_alloc (Below.refl _ _) _
  clear hl hr hrow hv hv0 hrc hlc hs h36 hn1 hn6 hmt
  go_enter Tryz.func89, Tryz.ntmps89
  go_wp2_with fail
  obtain ⟨w1, hw1⟩ : ∃ w1, w.alloc (.cells #[.int .i64 (m : Int), .slice A n c] 29) = w1 := ⟨_, rfl⟩
  rw [hw1] at HR HRC HB1 hbw1 ⊢
  clear hw1
  go_loopw [7, 6] (fun e14 e6 wr => ∃ (i v : Nat), i ≤ k ∧ e14 = .int .i64 i ∧ e6 = .int .i64 (v : Int) ∧ v < 2 ^ (m * rows.length) ∧ mcV (m : Int) rows cs 0 = mcV (m : Int) rows (cs.drop i) v ∧ Below w1.heap.size w1 wr) (fun e14 _ _ => k - (intOf e14).toNat)
  case atStart => exact ⟨0, 0, Nat.zero_le _, rfl, rfl, Nat.pow_pos (by decide), rfl, Below.refl _ _⟩
  case round =>
    obtain ⟨i, v, hi, rfl, rfl, hvl, hmc, hb⟩ := hrel
    have hv36 : v < 2 ^ 36 := Nat.lt_of_lt_of_le hvl (Nat.pow_le_pow_right (by decide) H36.out)
    have hB := HB1.out.below hb
    have b0 : wr.cell? ⟨w.heap.size, 0, none⟩ = some (.int .i64 (m : Int)) := by simpa using hB.cell 0
    have b1 : wr.cell? ⟨w.heap.size, 1, none⟩ = some (.slice A n c) := by simpa using hB.cell 1
    have hgw := hB.lt
    clear hB
    by_cases hlt : i < k
    · have hkl : i < cs.length := by rw [HLC.out]; exact hlt
      have hi0 : (0 : Int) ≤ (i : Int) := by omega
      have hi1 : (i : Int) < (k : Int) := by omega
      obtain ⟨g, off, hA, hg, d1, d2⟩ := RdC.at_ (HRC.out.below hb) hkl
      have hsm := HS.out _ (List.getElem_mem hkl)
      rw [List.drop_eq_getElem_cons hkl] at hmc
      obtain ⟨x, hx⟩ : ∃ x, cs[i].1 = x := ⟨_, rfl⟩
      obtain ⟨y, hy⟩ : ∃ y, cs[i].2 = y := ⟨_, rfl⟩
      rw [show cs[i] = (x, y) from Prod.ext hx hy] at hmc hsm
      rw [hx] at d1
      rw [hy] at d2
      unfold small at hsm
      simp only at hsm
      have hNO : (hasR (m : Int) rows (x, y) && !v.testBit (posM m (x, y))) = false → mcV (m : Int) rows cs 0 = none := fun h => by rw [hmc]; exact mcV_no (by rw [HMT.out]; exact h)
      have hYES : (hasR (m : Int) rows (x, y) && !v.testBit (posM m (x, y))) = true → mcV (m : Int) rows cs 0 = mcV (m : Int) rows (cs.drop (i + 1)) (v + 2 ^ posM m (x, y)) := fun h => by rw [hmc, mcV_yes (by rw [HMT.out]; exact h), HMT.out]
      have HNO := Lib.hid hNO
      have HYES := Lib.hid hYES
      have HSX := Lib.hid hsm.1
      have HSY := Lib.hid hsm.2
      have HVL := Lib.hid hvl
      subst hA
      clear hmc hx hy hsm hNO hYES hvl
      cases hh : hasR (m : Int) rows (x, y) with
      | false =>
        have HIR : Hid (∀ w0, Below wr.heap.size wr w0 → Calls Tryz.prog 109 #[.agg #[.int .i64 (m : Int), .slice A n c], .int .i64 x, .int .i64 y] w0 (Ret w0 (.bool false))) := fun w0 h => by
          have h2 := InRegion_s (m : Int) A n c rows x y w0 ((HR.out.below hb).below h) HL.out HSX.out HSY.out
          rw [HV.out, hh] at h2
          exact h2
        have HN := Lib.hid (HNO.out (by rw [hh]; rfl))
        clear hh HNO HYES
        go_wp2_with fail
        (refine wp_region_below (by kernel_rfl) (by kernel_rfl) ?_; (repeat (first | go_big_quiet_skip | (refine quietV (v := ?_) (by rfl) rfl (fun w' hbw => ?_) ?_; rotate_left; ((try dsimp only at hbw); have hbc := (bcell hbw).1; have hbf := (bcell hbw).2; go_simp; first | done | with_reducible rfl | (with_reducible exact callsB (v := .bool false) (HIR.out _ hbw) hbw)); simp only [List.setIfInBounds_toArray, List.set_cons_zero, List.set_cons_succ]))); refine wpQuiet_nil ?_; intro wq hbq)
        go_wp2_with fail
        go_ret2
        exact ⟨by rw [HN.out]; rfl, bel_trans hbw1 (bel_trans hb hbq)⟩
      | true =>
        have HH := Lib.hid hh
        obtain ⟨p, q, s, j, rfl, rfl, hpm, hs, hj, hpos, hj36, hjl, hs36⟩ := mc_num H36.out hh (n := n)
        have HIR : Hid (∀ w0, Below wr.heap.size wr w0 → Calls Tryz.prog 109 #[.agg #[.int .i64 (m : Int), .slice A n c], .int .i64 (p : Int), .int .i64 (q : Int)] w0 (Ret w0 (.bool true))) := fun w0 h => by
          have h2 := InRegion_s (m : Int) A n c rows (p : Int) (q : Int) w0 ((HR.out.below hb).below h) HL.out HSX.out HSY.out
          rw [HV.out, hh] at h2
          exact h2
        have hj0 : (0 : Int) ≤ (j : Int) := by omega
        have hj64 : (j : Int) ≤ 64 := by omega
        have hv62 : v < 2 ^ 62 := by omega
        have hbit := bit_testP v j hv62
        obtain ⟨d, hd⟩ : ∃ d, v / 2 ^ j = d := ⟨_, rfl⟩
        have hdI : (v : Int) / 2 ^ j = (d : Int) := by rw [← hd]; simp
        rw [hdI] at hbit
        have es : IntKind.i64.wrap (s : Int) = (s : Int) := Go.IntWalk.i64_in _ (by omega)
        have ej : IntKind.i64.wrap (j : Int) = (j : Int) := Go.IntWalk.i64_in _ (by omega)
        have h2j : (2 : Nat) ^ j < 2 ^ 36 := Nat.pow_lt_pow_right (by decide) hj36
        obtain ⟨t, ht⟩ : ∃ t : Nat, 2 ^ j = t := ⟨_, rfl⟩
        have htI : (2 : Int) ^ j = (t : Int) := by rw [← ht]; simp
        have hdT : (v : Int) / (t : Int) = (d : Int) := by rw [← htI]; exact hdI
        rw [hpos] at HNO HYES
        rw [ht] at HYES
        have hTT : v.testBit j = false → v + t < 2 ^ (m * rows.length) := fun h => by
          have h1 := or_bit hv62 (by omega) h
          rw [ht] at h1
          rw [← h1, ← ht]
          exact Nat.or_lt_two_pow HVL.out (Nat.pow_lt_pow_right (by decide) hjl)
        have HTT := Lib.hid hTT
        rw [ht] at h2j
        have et : IntKind.i64.wrap (t : Int) = (t : Int) := Go.IntWalk.i64_in _ (by omega)
        obtain ⟨u, hu⟩ : ∃ u, u = v + t := ⟨_, rfl⟩
        have huI : (v : Int) + (t : Int) = (u : Int) := by omega
        have eu : IntKind.i64.wrap (u : Int) = (u : Int) := Go.IntWalk.i64_in _ (by omega)
        rw [← hu] at HTT HYES
        clear hh hpos hd ht hTT hu hdI
        cases hb2 : v.testBit j with
        | true =>
          have HN := Lib.hid (HNO.out (by rw [HH.out, hb2]; rfl))
          rw [hb2] at hbit
          clear hb2 HNO HYES HTT
          go_wp2_with fail
          (refine wp_region_below (by kernel_rfl) (by kernel_rfl) ?_; (repeat (first | go_big_quiet_skip | (refine quietV (v := ?_) (by rfl) rfl (fun w' hbw => ?_) ?_; rotate_left; ((try dsimp only at hbw); have hbc := (bcell hbw).1; have hbf := (bcell hbw).2; go_simp; first | done | with_reducible rfl | (with_reducible exact callsB (v := .bool true) (HIR.out _ hbw) hbw)); simp only [List.setIfInBounds_toArray, List.set_cons_zero, List.set_cons_succ]))); refine wpQuiet_nil ?_; intro wq hbq)
          go_wp2_with fail
          go_ret2
          exact ⟨by rw [HN.out]; rfl, bel_trans hbw1 (bel_trans hb hbq)⟩
        | false =>
          have HN := Lib.hid (HYES.out (by rw [HH.out, hb2]; rfl))
          rw [hb2] at hbit
          have H2 := Lib.hid (HTT.out hb2)
          clear hb2 HNO HYES HTT
          go_wp2_with fail
          (refine wp_region_below (by kernel_rfl) (by kernel_rfl) ?_; (repeat (first | go_big_quiet_skip | (refine quietV (v := ?_) (by rfl) rfl (fun w' hbw => ?_) ?_; rotate_left; ((try dsimp only at hbw); have hbc := (bcell hbw).1; have hbf := (bcell hbw).2; go_simp; first | done | with_reducible rfl | (with_reducible exact callsB (v := .bool true) (HIR.out _ hbw) hbw)); simp only [List.setIfInBounds_toArray, List.set_cons_zero, List.set_cons_succ]))); refine wpQuiet_nil ?_; intro wq hbq)
          have b0' := keep_below hbq b0
          have d1' := keep_below hbq d1
          have d2' := keep_below hbq d2
          have hgw' : w.heap.size < wq.heap.size := Nat.lt_of_lt_of_le hgw hbq.size
          have hg' : g < wq.heap.size := Nat.lt_of_lt_of_le hg hbq.size
          clear b0 b1 d1 d2 HIR
          go_wp2_with fail
          (refine wp_region_below (by kernel_rfl) (by kernel_rfl) ?_; (repeat (first | go_big_quiet_skip | (refine quietV (v := ?_) (by rfl) rfl (fun w' hbw => ?_) ?_; rotate_left; ((try dsimp only at hbw); have hbc := (bcell hbw).1; have hbf := (bcell hbw).2; go_simp; first | done | with_reducible rfl | fail); simp only [List.setIfInBounds_toArray, List.set_cons_zero, List.set_cons_succ]))); refine wpQuiet_nil ?_; intro wz hbz)
          go_wp2_with fail
          exact ⟨⟨i + 1, u, by omega, by go_num, by first | rfl | (simp <;> omega), H2.out, HN.out, bel_trans hb (bel_trans hbq hbz)⟩, by simp [intOf]; omega⟩
    · obtain rfl : i = k := by omega
      rw [List.drop_of_length_le (by rw [HLC.out]; omega)] at hmc
      have HN := Lib.hid hmc
      have hi1 : ¬ (i : Int) < (i : Int) := by omega
      clear hmc hvl
      go_wp2_with fail
      refine (IsRegion_s _ _ _ _ rows _ (HR.out.below hb) HL.out).mono ?_
      rw [HV.out]
      rintro e w2 ⟨rfl, hb2⟩
      go_wp2_with fail
      go_ret2
      exact ⟨by rw [HN.out]; rfl, bel_trans hbw1 (bel_trans hb hb2)⟩
end Go.Proofs.YtcgjnonlndaoeaaGreatDoor

/- An append of numbers as one step of a region that draws its order. -/
namespace Go.Proofs.YtcgjnonlndaoeaaGreatDoor
open Go.RowKit
set_option linter.unusedVariables false
attribute [local go_sem ↓] Go.wp_at_zero Go.wp_at_succ

section
variable {ops : Array Oper} {o : Oper} {a : Act} {w : World} {K : Act → World → Prop} {Q : Exit → Act → World → Prop} {E : Prop}
/-- An append of numbers as one step of a region that draws. -/
theorem step_appI (hg : o.guard = none) (s x : Operand) (ho : o.op = .call { callee := .builtin .append, args := #[s, x], argTypes := #[22, 22] })
    (base : Nat) (A : Option Addr) (n c : Nat) (l : List Int) (hs : a.eval s = .slice A n c) (hown : w.ownsRow base 3 1 (.slice A n c) n (vI l))
    (A2 : Option Addr) (m c2 : Nat) (l2 : List Int) (hx : a.eval x = .slice A2 m c2) (hr : Rd w A2 (vI l2)) (hl : l2.length = m) (hb : n + m ≤ 1099511627776) (hbase : base ≤ w.heap.size)
    (h : ∀ A' c' w', w'.ownsRow base 3 1 (.slice A' (n + m) c') (n + m) (vI (l ++ l2)) → w.grownBy w' (ob A) → (ob A' = ob A ∨ ob A' = some w.heap.size) → K (a.put o.dst (.slice A' (n + m) c')) w') :
    if Region.wanted o (yielded ops a.tmps) = true then Oper.wp Tryz.prog o a w K Q else E := by
  rw [if_pos (by simp [Region.wanted, hg])]
  obtain ⟨i0, hi, hz0, hz1, hz2⟩ := info_parts infoI
  refine wp_app w s x _ ho base _ i0 _ 1 8 Tryz.underlying22 hi hz0 hz1 hz2 rfl (by omega) A n c _ hs hown A2 m c2 _ hx hr (by rw [vI_length, hl]; omega) (vI_one _) (by unfold maxLen; omega) (by omega) hbase ?_
  intro A' c' w' h1
  rw [← vI_append] at h1
  exact h A' c' w' h1
end
theorem at_or {A D : Option Addr} {n m : Nat} (h : ob A = ob D ∨ ob A = some n) (hmn : m ≤ n) : ob A = ob D ∨ ∀ g, ob A = some g → m ≤ g := by
  rcases h with h | h
  · exact .inl h
  · refine .inr fun g e => ?_
    rw [h] at e
    injection e with e
    omega
end Go.Proofs.YtcgjnonlndaoeaaGreatDoor

/- The reference's draws of regions. -/
namespace Go.Proofs.YtcgjnonlndaoeaaGreatDoor
open Go.RowKit
set_option linter.unusedVariables false
attribute [local go_sem ↓] Go.wp_at_zero Go.wp_at_succ

theorem shl1 (m : Nat) (hm : m ≤ 6) : ∃ v : Int, (2 : Int) ^ m = v ∧ 1 ≤ v ∧ v ≤ 64 := by
  have h1 : (2 : Nat) ^ m ≤ 2 ^ 6 := Nat.pow_le_pow_right (by decide) hm
  have h2 : 0 < (2 : Nat) ^ m := Nat.pow_pos (by decide)
  refine ⟨((2 ^ m : Nat) : Int), by simp, by omega, by omega⟩
/-- A region with rows of its own, beside a Bool. -/
def RetRgB (w : World) (W : Int) (k : Nat) (e : Ending) (w' : World) : Prop :=
  ∃ D cD rows b, e = .returned (.tuple #[.agg #[.int .i64 W, .slice D k cD], .bool b]) ∧ w'.ownsRow w.heap.size 3 1 (.slice D k cD) k (vI rows) ∧ Below w.heap.size w w'
set_option maxRecDepth 100000 in
set_option maxHeartbeats 1600000 in
theorem RectangleOf_s (m h : Nat) (w : World) (hm1 : 1 ≤ m) (hm : m ≤ 6) (hh1 : 1 ≤ h) (hh : h ≤ 6) : Calls Tryz.prog 117 #[.int .i64 (m : Int), .int .i64 (h : Int)] w (RetRgB w (m : Int) h) := by
  have hB0 := Blk.new w 29 #[.int .i64 0, .slice none 0 0]
  have HB0 := Lib.hid hB0
  have hb0 : Below w.heap.size w (w.alloc (.cells #[.int .i64 0, .slice none 0 0] 29)) := bel_alloc (Below.refl _ _) _
  have hm0 : (0 : Int) ≤ (m : Int) := by omega
  have hm64 : (m : Int) ≤ 64 := by omega
  have em : IntKind.i64.wrap (m : Int) = (m : Int) := Go.IntWalk.i64_in _ (by omega)
  obtain ⟨v, hv, hv1, hv64⟩ := shl1 m hm
  have ev : IntKind.i64.wrap v = v := Go.IntWalk.i64_in _ (by omega)
  have HV := Lib.hid hv
  have i1 := fun u => l1In_t (m : Int) 1 6 u (by omega) (by omega)
  have i2 := fun u => l1In_t (h : Int) 1 6 u (by omega) (by omega)
  have I1 := Lib.hid i1
  have I2 := Lib.hid i2
  clear i1 i2 hv hB0
  go_enter Tryz.func117, Tryz.ntmps117
  go_wp2_with fail
  refine (I1.out _).mono ?_
  rintro e w1 ⟨rfl, hb1⟩
  go_wp2_with fail
  refine (I2.out _).mono ?_
  rintro e w2 ⟨rfl, hb2⟩
  have HB2 := Lib.hid (bel_trans hb0 (bel_trans hb1 hb2))
  have HBK := Lib.hid (HB0.out.below (bel_trans hb1 hb2))
  clear hb0 hb1 hb2
  have hlow : w.heap.size < w2.heap.size := HBK.out.lt
  have HBN := Lib.hid (Blk.new w2 29 #[.int .i64 (m : Int), .slice none 0 0])
  go_wp2_with fail
  go_loopw [7] (fun e7 wr => ∃ (y cD : Nat) (D : Option Addr) (rows : List Int), y ≤ h ∧ e7 = .int .i64 y ∧ Blk wr w2.heap.size 29 #[.int .i64 (m : Int), .slice D y cD] ∧ wr.ownsRow (w2.heap.size + 1) 3 1 (.slice D y cD) y (vI rows) ∧ Blk wr w.heap.size 29 #[.int .i64 0, .slice none 0 0] ∧ Below w.heap.size w wr ∧ w2.heap.size < wr.heap.size) (fun e7 _ => h - (intOf e7).toNat)
  case atStart => exact ⟨0, 0, none, [], Nat.zero_le _, rfl, HBN.out, own_nil _ _ _ _, HBK.out.alloc _, bel_alloc HB2.out _, by simp⟩
  case round =>
    clear HBN HBK
    obtain ⟨y, cD, D, rows, hy, rfl, hBr, hO, hBz, hb, hsz⟩ := hrel
    have HBR := Lib.hid hBr
    have HO := Lib.hid hO
    have HBZ := Lib.hid hBz
    have HB := Lib.hid hb
    have c0 : wr.cell? ⟨w2.heap.size, 0, none⟩ = some (.int .i64 (m : Int)) := by simpa using hBr.cell 0
    have c1 : wr.cell? ⟨w2.heap.size, 1, none⟩ = some (.slice D y cD) := by simpa using hBr.cell 1
    have f1 := hBr.frozen 1
    clear hBr hO hBz hb
    by_cases hlt : y < h
    · have hy1 : (y : Int) < (h : Int) := by omega
      have hvI : (1 : Int) * 2 ^ m = v := by rw [Int.one_mul]; exact HV.out
      go_wp2_with fail
      go_region_law ((refine step_appI rfl (.tmp 25) (.tmp 29) rfl (w2.heap.size + 1) D y cD rows (by simp [Act.eval]) (own_keep HO.out (bel_alloc (bel_drew (Below.refl _ _)) _)) (some ⟨wr.heap.size, 0, none⟩) 1 1 [IntKind.i64.wrap (v - 1)] (by simp [Act.eval]) (rd_newI _ _ _) rfl (by omega) (by simp; omega) ?_); intro D8 c8 w8 ho8 hg8 hat8; have HO8 := Lib.hid ho8; have HG8 := Lib.hid hg8; clear ho8 hg8 hat8; have HB8 := Lib.hid ((HBR.out.below (bel_alloc (bel_drew (Below.refl _ _)) _)).grown HG8.out (fun e => by have h9 := (own_lt HO.out _ e.symm).1; omega)); have d8 : w8.cell? ⟨w2.heap.size, 1, none⟩ = some (.slice D y cD) := (by simpa using HB8.out.cell 1); have f8 : w8.frozen? ⟨w2.heap.size, 1, none⟩ = false := HB8.out.frozen 1; have l8 : w2.heap.size < w8.heap.size := HB8.out.lt)
      all_goals
        have hP : Blk (w8.setCell ⟨w2.heap.size, 1, none⟩ (.slice D8 (y + 1) c8)) w2.heap.size 29 #[.int .i64 (m : Int), .slice D8 (y + 1) c8] := HB8.out.set_ 1 _
        have hg2 : wr.grownBy w8 (ob D) := ⟨HG8.out.os, HG8.out.tape, HG8.out.output, by have h3 := HG8.out.size; simp at h3; omega, fun k hk hn => (HG8.out.block k (by simp; omega) hn).trans (Below.heap_alloc wr _ k hk)⟩
        have hZ8 := (HBZ.out.grown hg2 (fun e => by have h9 := (own_lt HO.out _ e.symm).1; omega)).far (p := ⟨w2.heap.size, 1, none⟩) (by show w.heap.size ≠ w2.heap.size; omega) (.slice D8 (y + 1) c8)
        have hO8 := own_set HO8.out (p := ⟨w2.heap.size, 1, none⟩) (fun g e => by have h9 := (own_lt HO8.out g e).1; show g ≠ w2.heap.size; omega) (.slice D8 (y + 1) c8)
        have hb8 : Below w.heap.size w (w8.setCell ⟨w2.heap.size, 1, none⟩ (.slice D8 (y + 1) c8)) := bel_set (bel_grown HB.out hg2 (fun g e => by have h9 := (own_lt HO.out g e).1; omega)) (by show w.heap.size ≤ w2.heap.size; omega)
        have HP := Lib.hid hP
        have HZ8 := Lib.hid hZ8
        have HO9 := Lib.hid hO8
        have HB9 := Lib.hid hb8
        clear hP hg2 hZ8 hO8 hb8
        go_wp2_with fail
        exact ⟨⟨y + 1, c8, D8, _, by omega, by go_num, HP.out, HO9.out, HZ8.out, HB9.out, by simpa using l8⟩, by simp [intOf]; omega⟩
    · obtain rfl : y = h := by omega
      have hy1 : ¬ (y : Int) < (y : Int) := by omega
      have z0 : wr.cell? ⟨w.heap.size, 0, none⟩ = some (.int .i64 0) := by simpa using HBZ.out.cell 0
      have z1 : wr.cell? ⟨w.heap.size, 1, none⟩ = some (.slice none 0 0) := by simpa using HBZ.out.cell 1
      have g0 := HBZ.out.frozen 0
      have g1 := HBZ.out.frozen 1
      have hD := (HBZ.out.set_ 0 (.int .i64 (m : Int))).set_ 1 (.slice D y cD)
      have e0 : ((wr.setCell ⟨w.heap.size, 0, none⟩ (.int .i64 (m : Int))).setCell ⟨w.heap.size, 1, none⟩ (.slice D y cD)).cell? ⟨w.heap.size, 0, none⟩ = some (.int .i64 (m : Int)) := by simpa using hD.cell 0
      have e1 : ((wr.setCell ⟨w.heap.size, 0, none⟩ (.int .i64 (m : Int))).setCell ⟨w.heap.size, 1, none⟩ (.slice D y cD)).cell? ⟨w.heap.size, 1, none⟩ = some (.slice D y cD) := by simpa using hD.cell 1
      have E0 := Lib.hid e0
      have E1 := Lib.hid e1
      clear hD e0 e1
      go_wp2_with fail
      have e0 := E0.out
      have e1 := E1.out
      have ne : ∀ g, ob D = some g → g ≠ w.heap.size := fun g e => by have := (own_lt HO.out g e).1; omega
      exact bodyPost_ret (v := .tuple #[.agg #[.int .i64 (m : Int), .slice D y cD], .bool true]) (by simp [results, Tryz.results117, go_sem, e0, e1]) rfl
        ⟨_, _, _, _, rfl, own_set (own_set (own_base HO.out (by omega)) ne _) ne _, bel_set (bel_set HB.out (Nat.le_refl _)) (Nat.le_refl _)⟩
/-- A region with rows of its own. -/
def RetRg (w : World) (W : Int) (k : Nat) (rows : List Int) (e : Ending) (w' : World) : Prop :=
  ∃ D cD, e = .returned (.agg #[.int .i64 W, .slice D k cD]) ∧ w'.ownsRow w.heap.size 3 1 (.slice D k cD) k (vI rows) ∧ Below w.heap.size w w'
set_option maxRecDepth 100000 in
set_option maxHeartbeats 1600000 in
theorem l6Copy_s (W : Int) (A : Option Addr) (n c : Nat) (rows : List Int) (w : World) (hr : Rd w A (vI rows)) (hl : rows.length = n) (hn : n ≤ 1048576) : Calls Tryz.prog 147 #[.agg #[.int .i64 W, .slice A n c]] w (RetRg w W n rows) := by
  have HL := Lib.hid hl
  have HR := Lib.hid (hr.alloc (.cells #[.int .i64 W, .slice A n c] 29))
  have HB0 := Lib.hid (Blk.new w 29 #[.int .i64 W, .slice A n c])
  obtain ⟨w1, hw1⟩ : ∃ w1, w.alloc (.cells #[.int .i64 W, .slice A n c] 29) = w1 := ⟨_, rfl⟩
  have hb1 : Below w.heap.size w w1 := by rw [← hw1]; exact bel_alloc (Below.refl _ _) _
  have hsz : w1.heap.size = w.heap.size + 1 := by rw [← hw1]; simp
  rw [hw1] at HR HB0
  have HW1 := Lib.hid hw1
  have hBZ := Blk.new w1 29 #[.int .i64 0, .slice none 0 0]
  have hb2 := bel_alloc hb1 (.cells #[.int .i64 0, .slice none 0 0] 29)
  have hR2 := HR.out.alloc (.cells #[.int .i64 0, .slice none 0 0] 29)
  have hBR := HB0.out.alloc (.cells #[.int .i64 0, .slice none 0 0] 29)
  rw [hsz] at hBZ
  obtain ⟨w2, hw2⟩ : ∃ w2, w1.alloc (.cells #[.int .i64 0, .slice none 0 0] 29) = w2 := ⟨_, rfl⟩
  have hsz2 : w2.heap.size = w.heap.size + 2 := by rw [← hw2]; simp [hsz]
  rw [hw2] at hBZ hb2 hR2 hBR
  have HW2 := Lib.hid hw2
  have HSZ := Lib.hid hsz
  have HSZ2 := Lib.hid hsz2
  have HBZ := Lib.hid hBZ
  have HB2 := Lib.hid hb2
  have HR2 := Lib.hid hR2
  have HBR := Lib.hid hBR
  have c0 : w2.cell? ⟨w.heap.size, 0, none⟩ = some (.int .i64 W) := by simpa using hBR.cell 0
  have c1 : w2.cell? ⟨w.heap.size, 1, none⟩ = some (.slice A n c) := by simpa using hBR.cell 1
  have l0 := hBR.lt
  clear hl hr hw1 hb1 hsz hBZ hb2 hR2 hw2 hsz2 hBR HR HB0
  go_enter Tryz.func147, Tryz.ntmps147
  go_wp2_with fail
  rw [HW1.out]
  rw [HW2.out]
  clear HW1 HW2
  go_region_law ((refine step_appI rfl (.tmp 5) (.tmp 7) rfl (w.heap.size + 2) (some ⟨w2.heap.size, 0, none⟩) 0 0 [] (by simp [Act.eval]) (by have h := own_new w2 3 1 0 #[] rfl (by simp [maxLen]) (base := w.heap.size + 2) (by rw [HSZ2.out]; exact Nat.le_refl _); exact h) A n c rows (by simp [Act.eval]) ((HR2.out.below (bel_alloc (bel_drew (Below.refl _ _)) _))) HL.out (by omega) (by simp [HSZ2.out]) ?_); intro D8 c8 w8 ho8 hg8 hat8; rw [List.nil_append, Nat.zero_add] at ho8; have HO8 := Lib.hid ho8; have HG8 := Lib.hid hg8; clear ho8 hg8 hat8; have HZ8 := Lib.hid ((HBZ.out.below (bel_alloc (bel_drew (Below.refl _ _)) _)).grown HG8.out (fun e => by simp only [ob, Option.map_some, Option.some.injEq] at e; have := HSZ2.out; omega)); have z0 : w8.cell? ⟨w.heap.size + 1, 0, none⟩ = some (.int .i64 0) := (by simpa using HZ8.out.cell 0); have z1 : w8.cell? ⟨w.heap.size + 1, 1, none⟩ = some (.slice none 0 0) := (by simpa using HZ8.out.cell 1); have g0 := HZ8.out.frozen 0; have g1 := HZ8.out.frozen 1; have l8 := HZ8.out.lt; have HX8 := Lib.hid ((HBR.out.below (bel_alloc (bel_drew (Below.refl _ _)) _)).grown HG8.out (fun e => by simp only [ob, Option.map_some, Option.some.injEq] at e; have := HSZ2.out; omega)); have x0 : w8.cell? ⟨w.heap.size, 0, none⟩ = some (.int .i64 W) := (by simpa using HX8.out.cell 0))
  all_goals
    have hD := (HZ8.out.set_ 0 (.int .i64 W)).set_ 1 (.slice D8 n c8)
    have e0 : ((w8.setCell ⟨w.heap.size + 1, 0, none⟩ (.int .i64 W)).setCell ⟨w.heap.size + 1, 1, none⟩ (.slice D8 n c8)).cell? ⟨w.heap.size + 1, 0, none⟩ = some (.int .i64 W) := by simpa using hD.cell 0
    have e1 : ((w8.setCell ⟨w.heap.size + 1, 0, none⟩ (.int .i64 W)).setCell ⟨w.heap.size + 1, 1, none⟩ (.slice D8 n c8)).cell? ⟨w.heap.size + 1, 1, none⟩ = some (.slice D8 n c8) := by simpa using hD.cell 1
    have ne : ∀ g, ob D8 = some g → g ≠ w.heap.size + 1 := fun g e => by have := (own_lt HO8.out g e).1; omega
    have hbw : Below w.heap.size w w8 := bel_grown (bel_alloc (bel_drew HB2.out) (.cells #[] 3)) HG8.out (fun g e => by simp only [ob, Option.map_some, Option.some.injEq] at e; have := HSZ2.out; omega)
    have HNE := Lib.hid ne
    have HBW := Lib.hid hbw
    have E0 := Lib.hid e0
    have E1 := Lib.hid e1
    clear hD e0 e1 ne hbw z0 z1 g0 g1
    go_wp2_with fail
    have e0 := E0.out
    have e1 := E1.out
    exact bodyPost_ret (v := .agg #[.int .i64 W, .slice D8 n c8]) (by simp [results, Tryz.results147, go_sem, e0, e1]) rfl
      ⟨_, _, rfl, own_set (own_set (own_base HO8.out (by omega)) HNE.out _) HNE.out _, bel_set (bel_set HBW.out (by show w.heap.size ≤ w.heap.size + 1; omega)) (by show w.heap.size ≤ w.heap.size + 1; omega)⟩
theorem own_frz {w : World} {base g n c e size : Nat} {l : List Value} (ho : w.ownsRow base e size (.slice (some ⟨g, 0, none⟩) n c) n l) (k : Nat) : w.frozen? ⟨g, k, none⟩ = false := by
  rcases ho.2 with ⟨hv, _⟩ | ⟨g', cap, cur, hv, hb, hg, _⟩
  · cases hv
  · injection hv with h1 h2 h3
    injection h1 with h1
    injection h1 with h1
    subst h1
    exact Blk.frozen hg k
theorem own_putI {w : World} {base g n c : Nat} {l : List Int} (ho : w.ownsRow base 3 1 (.slice (some ⟨g, 0, none⟩) n c) n (vI l)) {k : Nat} (hk : k < n) (v : Int) :
    (w.setCell ⟨g, k, none⟩ (.int .i64 v)).ownsRow base 3 1 (.slice (some ⟨g, 0, none⟩) n c) n (vI (l.set k v)) := by
  have hl := own_len ho
  rw [vI_length, Nat.mul_one] at hl
  refine ⟨by rw [vI_length, List.length_set, hl, Nat.mul_one], ?_⟩
  rcases ho.2 with ⟨hv, _⟩ | ⟨g', cap, cur, hv, hb, hg, hnc, hm, hs, ht⟩
  · cases hv
  · injection hv with h1 h2 h3
    injection h1 with h1
    injection h1 with h1
    subst h1
    refine .inr ⟨g, cap, cur.setIfInBounds k (.int .i64 v), by rw [h3], hb, Blk.set_ (cs := cur) hg k _, hnc, hm, by simpa using hs, ?_⟩
    rw [Nat.mul_one] at ht ⊢
    rw [show (cur.setIfInBounds k (.int .i64 v)).toList = cur.toList.set k (.int .i64 v) by simp, List.take_set, ht]
    simp [vI, List.map_set]
theorem shlx (m : Nat) (hm : m ≤ 6) : ∃ v : Int, (2 : Int) ^ m = v ∧ IntKind.i64.wrap v = v := by
  obtain ⟨v, h1, h2, h3⟩ := shl1 m hm
  exact ⟨v, h1, Go.IntWalk.i64_in _ (by omega)⟩
set_option maxRecDepth 100000 in
set_option maxHeartbeats 1600000 in
theorem RemoveCell_s (m : Nat) (A : Option Addr) (n c x y : Nat) (rows : List Int) (w : World) (hr : Rd w A (vI rows)) (hl : rows.length = n) (hn : n ≤ 6) (hx : x < m) (hy : y < n) (hm : m ≤ 6) :
    Calls Tryz.prog 118 #[.agg #[.int .i64 (m : Int), .slice A n c], .int .i64 (x : Int), .int .i64 (y : Int)] w (RetRgB w (m : Int) n) := by
  have HL := Lib.hid hl
  have HR := Lib.hid (hr.alloc (.cells #[.int .i64 (m : Int), .slice A n c] 29))
  have HB0 := Lib.hid (Blk.new w 29 #[.int .i64 (m : Int), .slice A n c])
  obtain ⟨w1, hw1⟩ : ∃ w1, w.alloc (.cells #[.int .i64 (m : Int), .slice A n c] 29) = w1 := ⟨_, rfl⟩
  have hb1 : Below w.heap.size w w1 := by rw [← hw1]; exact bel_alloc (Below.refl _ _) _
  have hsz : w1.heap.size = w.heap.size + 1 := by rw [← hw1]; simp
  rw [hw1] at HR HB0
  have HW1 := Lib.hid hw1
  have hBZ := Blk.new w1 29 #[.int .i64 0, .slice none 0 0]
  have hb2 := bel_alloc hb1 (.cells #[.int .i64 0, .slice none 0 0] 29)
  have hR2 := HR.out.alloc (.cells #[.int .i64 0, .slice none 0 0] 29)
  have hBR := HB0.out.alloc (.cells #[.int .i64 0, .slice none 0 0] 29)
  rw [hsz] at hBZ
  obtain ⟨w2, hw2⟩ : ∃ w2, w1.alloc (.cells #[.int .i64 0, .slice none 0 0] 29) = w2 := ⟨_, rfl⟩
  have hsz2 : w2.heap.size = w.heap.size + 2 := by rw [← hw2]; simp [hsz]
  rw [hw2] at hBZ hb2 hR2 hBR
  have HW2 := Lib.hid hw2
  have HSZ := Lib.hid hsz
  have HSZ2 := Lib.hid hsz2
  have HBZ := Lib.hid hBZ
  have HB2 := Lib.hid hb2
  have HR2 := Lib.hid hR2
  have HBR := Lib.hid hBR
  have c0 : w2.cell? ⟨w.heap.size, 0, none⟩ = some (.int .i64 (m : Int)) := by simpa using hBR.cell 0
  have c1 : w2.cell? ⟨w.heap.size, 1, none⟩ = some (.slice A n c) := by simpa using hBR.cell 1
  have l0 := hBR.lt
  clear hl hr hw1 hb1 hsz hBZ hb2 hR2 hw2 hsz2 hBR HR HB0
  go_enter Tryz.func118, Tryz.ntmps118
  go_wp2_with fail
  rw [HW1.out]
  rw [HW2.out]
  clear HW1 HW2
  go_wp2_with fail
  refine (l6Copy_s (m : Int) A n c rows _ HR2.out HL.out (by omega)).mono ?_
  rintro e w3 ⟨D, cD, rfl, hO, hb3⟩
  have HB3 := Lib.hid (bel_trans HB2.out hb3)
  have HO3 := Lib.hid (own_base hO (show w.heap.size + 2 ≤ w2.heap.size by rw [HSZ2.out]; exact Nat.le_refl _))
  have HBZ3 := Lib.hid (HBZ.out.below hb3)
  have HR3 := Lib.hid (HR2.out.below hb3)
  have HBR3 := Lib.hid (HBR.out.below hb3)
  have HBN3 := Lib.hid (Blk.new w3 29 #[.int .i64 (m : Int), .slice D n cD])
  have c0 : w3.cell? ⟨w.heap.size, 0, none⟩ = some (.int .i64 (m : Int)) := by simpa using HBR3.out.cell 0
  have c1 : w3.cell? ⟨w.heap.size, 1, none⟩ = some (.slice A n c) := by simpa using HBR3.out.cell 1
  have l0 := HBR3.out.lt
  clear hO hb3
  go_wp2_with fail
  refine (InRegion_s (m : Int) A n c rows (x : Int) (y : Int) _ (HR3.out.alloc _) HL.out (by omega) (by omega)).mono ?_
  obtain ⟨b, hb⟩ : ∃ b, (isReg (m : Int) rows && hasR (m : Int) rows ((x : Int), (y : Int))) = b := ⟨_, rfl⟩
  rw [hb]
  clear hb c0 c1 l0
  rintro e w4 ⟨rfl, hb4⟩
  have HB4 := Lib.hid (bel_trans (bel_alloc HB3.out (.cells #[.int .i64 (m : Int), .slice D n cD] 29)) hb4)
  have HZ4 := Lib.hid ((HBZ3.out.alloc (.cells #[.int .i64 (m : Int), .slice D n cD] 29)).below hb4)
  have HN4 := Lib.hid (HBN3.out.below hb4)
  have HO4 := Lib.hid (own_keep (HO3.out.alloc (.cells #[.int .i64 (m : Int), .slice D n cD] 29)) hb4)
  have hl3 := HBZ3.out.lt
  have c0 : w4.cell? ⟨w3.heap.size, 0, none⟩ = some (.int .i64 (m : Int)) := by simpa using HN4.out.cell 0
  have c1 : w4.cell? ⟨w3.heap.size, 1, none⟩ = some (.slice D n cD) := by simpa using HN4.out.cell 1
  have l0 := HN4.out.lt
  have z0 : w4.cell? ⟨w.heap.size + 1, 0, none⟩ = some (.int .i64 0) := by simpa using HZ4.out.cell 0
  have z1 : w4.cell? ⟨w.heap.size + 1, 1, none⟩ = some (.slice none 0 0) := by simpa using HZ4.out.cell 1
  have g0 := HZ4.out.frozen 0
  have g1 := HZ4.out.frozen 1
  have zl := HZ4.out.lt
  have hD3 : ∀ g, ob D = some g → g < w3.heap.size := fun g e => (own_lt HO3.out g e).2
  clear hb4 HBZ3 HBN3 HO3 HBR3
  have key : ∀ (u : World) (rw2 : List Int), u.ownsRow (w.heap.size + 2) 3 1 (.slice D n cD) n (vI rw2) → Below w.heap.size w u → Blk u (w.heap.size + 1) 29 #[.int .i64 0, .slice none 0 0] → ∀ bb,
      ((u.setCell ⟨w.heap.size + 1, 0, none⟩ (.int .i64 (m : Int))).setCell ⟨w.heap.size + 1, 1, none⟩ (.slice D n cD)).cell? ⟨w.heap.size + 1, 0, none⟩ = some (.int .i64 (m : Int)) ∧ ((u.setCell ⟨w.heap.size + 1, 0, none⟩ (.int .i64 (m : Int))).setCell ⟨w.heap.size + 1, 1, none⟩ (.slice D n cD)).cell? ⟨w.heap.size + 1, 1, none⟩ = some (.slice D n cD) ∧
      RetRgB w (m : Int) n (.returned (.tuple #[.agg #[.int .i64 (m : Int), .slice D n cD], .bool bb])) ((u.setCell ⟨w.heap.size + 1, 0, none⟩ (.int .i64 (m : Int))).setCell ⟨w.heap.size + 1, 1, none⟩ (.slice D n cD)) := fun u rw2 ho hbu hz bb => by
    have hD := (hz.set_ 0 (.int .i64 (m : Int))).set_ 1 (.slice D n cD)
    have ne : ∀ g, ob D = some g → g ≠ w.heap.size + 1 := fun g e => by have := (own_lt ho g e).1; omega
    exact ⟨by simpa using hD.cell 0, by simpa using hD.cell 1, _, _, _, _, rfl, own_set (own_set (own_base ho (by omega)) ne _) ne _, bel_set (bel_set hbu (by show w.heap.size ≤ w.heap.size + 1; omega)) (by show w.heap.size ≤ w.heap.size + 1; omega)⟩
  have HKEY := Lib.hid key
  clear key
  cases b with
  | false =>
    go_wp2_with fail
    obtain ⟨e0, e1, e2⟩ := HKEY.out w4 _ HO4.out HB4.out HZ4.out false
    exact bodyPost_ret (v := .tuple #[.agg #[.int .i64 (m : Int), .slice D n cD], .bool false]) (by simp [results, Tryz.results118, go_sem, e0, e1]) rfl e2
  | true =>
    obtain ⟨gd, hD, hgb, hgl⟩ := own_someD HO4.out (show 1 ≤ n by omega)
    have hgd3 := hD3 gd (by rw [hD]; rfl)
    subst hD
    have hRD := Rd.of_own HO4.out
    obtain ⟨ga, oa, hA2, hga, d0⟩ := RdI.at_ hRD (show y < rows.length by rw [HL.out]; exact hy)
    injection hA2 with hA2
    injection hA2 with e1 e2
    subst e1 e2
    obtain ⟨z, hz⟩ : ∃ z, rows[y]'(by rw [HL.out]; exact hy) = z := ⟨_, rfl⟩
    rw [hz, Nat.zero_add] at d0
    have hcap := own_capD HO4.out
    have hfz : w4.frozen? ⟨gd, y, none⟩ = false := by
      rcases HO4.out.2 with ⟨hv, _⟩ | ⟨g, cap, cur, hv, hb, hg, _⟩
      · cases hv
      · injection hv with h1 h2 h3
        injection h1 with h1
        injection h1 with h1
        subst h1
        exact Blk.frozen hg y
    have hy0 : (0 : Int) ≤ (y : Int) := by omega
    have hy1 : (y : Int) < (n : Int) := by omega
    have hx0 : (0 : Int) ≤ (x : Int) := by omega
    have hx64 : (x : Int) ≤ 64 := by omega
    have ex : IntKind.i64.wrap (x : Int) = (x : Int) := Go.IntWalk.i64_in _ (by omega)
    obtain ⟨v, hv, ev⟩ := shlx x (by omega)
    have HVV := Lib.hid hv
    have hvI : (1 : Int) * 2 ^ x = v := by rw [Int.one_mul]; exact hv
    clear hz hRD hv
    go_wp2_with fail
    go_region
    all_goals
      obtain ⟨u, hu⟩ : ∃ u, wrap64 (z - v) = u := ⟨_, rfl⟩
      rw [hu]
      have hP := own_putI HO4.out hy u
      have hbP : Below w.heap.size w ((w4.setCell ⟨gd, y, none⟩ (.int .i64 u)).drew) := bel_drew (bel_set HB4.out (by show w.heap.size ≤ gd; omega))
      have hzP := HZ4.out.far (p := ⟨gd, y, none⟩) (by show w.heap.size + 1 ≠ gd; omega) (.int .i64 u)
      have hnP := HN4.out.far (p := ⟨gd, y, none⟩) (by show w3.heap.size ≠ gd; omega) (.int .i64 u)
      have hP2 := own_keep hP (bel_drew (Below.refl _ _))
      have hzP2 := hzP.drew
      have hnP2 := hnP.drew
      obtain ⟨W5, hW5⟩ : ∃ W5, (w4.setCell ⟨gd, y, none⟩ (.int .i64 u)).drew = W5 := ⟨_, rfl⟩
      rw [hW5] at hP2 hbP hzP2 hnP2 ⊢
      clear hP hzP hnP hW5 hu c0 c1 l0 z0 z1 g0 g1 zl d0 hfz
      have c0 : W5.cell? ⟨w3.heap.size, 0, none⟩ = some (.int .i64 (m : Int)) := by simpa using hnP2.cell 0
      have c1 : W5.cell? ⟨w3.heap.size, 1, none⟩ = some (.slice (some ⟨gd, 0, none⟩) n cD) := by simpa using hnP2.cell 1
      have l0 := hnP2.lt
      have z0 : W5.cell? ⟨w.heap.size + 1, 0, none⟩ = some (.int .i64 0) := by simpa using hzP2.cell 0
      have z1 : W5.cell? ⟨w.heap.size + 1, 1, none⟩ = some (.slice none 0 0) := by simpa using hzP2.cell 1
      have g0 := hzP2.frozen 0
      have g1 := hzP2.frozen 1
      have zl := hzP2.lt
      obtain ⟨e0, e1, e2⟩ := HKEY.out _ _ hP2 hbP hzP2 true
      have E0 := Lib.hid e0
      have E1 := Lib.hid e1
      have E2 := Lib.hid e2
      clear hP2 hbP hzP2 hnP2 e0 e1 e2
      go_wp2_with fail
      have e0 := E0.out
      have e1 := E1.out
      exact bodyPost_ret (v := .tuple #[.agg #[.int .i64 (m : Int), .slice (some ⟨gd, 0, none⟩) n cD], .bool true]) (by simp [results, Tryz.results118, go_sem, e0, e1]) rfl E2.out
end Go.Proofs.YtcgjnonlndaoeaaGreatDoor

/- The reference's draws of regions: rectangles without some cells, and odd ones. -/
namespace Go.Proofs.YtcgjnonlndaoeaaGreatDoor
open Go.RowKit
set_option linter.unusedVariables false
attribute [local go_sem ↓] Go.wp_at_zero Go.wp_at_succ

/-- A region was drawn: width and rows fit. -/
def RetRgD (w : World) (g : Nat) (A : Option Addr) (n c : Nat) (bs : List UInt8) (e : Ending) (w' : World) : Prop :=
  ∃ (m k : Nat) (D : Option Addr) (cD : Nat) (rows : List Int), e = .returned (.agg #[.int .i64 (m : Int), .slice D k cD]) ∧ w'.ownsRow (w.heap.size + 1) 3 1 (.slice D k cD) k (vI rows) ∧ 1 ≤ m ∧ m ≤ 6 ∧ 1 ≤ k ∧ k ≤ 6 ∧ Cur w' g A n c bs ∧ w.grownBy w' (some g)
set_option maxRecDepth 100000 in
set_option maxHeartbeats 3200000 in
theorem l6Draw_s (A : Option Addr) (n c g most : Nat) (bs : List UInt8) (w : World) (hc : Cur w g A n c bs) (hn : n ≤ 1048576) (hm1 : 1 ≤ most) (hm6 : most ≤ 6) :
    Calls Tryz.prog 99 #[.pointer (some ⟨g, 0, none⟩), .int .i64 (most : Int)] w (RetRgD w g A n c bs) := by
  have hgl : g < w.heap.size := by obtain ⟨i, x, hi, hB⟩ := hc.blk; exact hB.lt
  have hAb : 0 < n → ∀ b, ob A = some b → b < w.heap.size := fun h0 b e => by
    obtain ⟨gb, off, hA, hgb, _⟩ := RdB.at_ hc.rd (show 0 < bs.length by rw [hc.len]; exact h0)
    subst hA
    simp only [ob, Option.map_some, Option.some.injEq] at e
    omega
  have HAB : Hid (0 < n → ∀ b, ob A = some b → w.heap.size ≤ b → False) := fun h0 b e h => by have := hAb h0 b e; omega
  clear hAb
  have hBZ := Blk.new w 29 #[.int .i64 0, .slice none 0 0]
  have hF0 := (FrG.refl w.heap.size g w).below (bel_alloc (Below.refl _ _) (.cells #[.int .i64 0, .slice none 0 0] 29)) (Nat.le_refl _)
  have hC0 := hc.below (bel_alloc (Below.refl _ _) (.cells #[.int .i64 0, .slice none 0 0] 29))
  obtain ⟨w1, hw1⟩ : ∃ w1, w.alloc (.cells #[.int .i64 0, .slice none 0 0] 29) = w1 := ⟨_, rfl⟩
  have hsz1 : w1.heap.size = w.heap.size + 1 := by rw [← hw1]; simp
  rw [hw1] at hBZ hF0 hC0
  have HW1 := Lib.hid hw1
  have HSZ1 := Lib.hid hsz1
  have HBZ := Lib.hid hBZ
  have HF0 := Lib.hid hF0
  have HC0 := Lib.hid hC0
  clear hBZ hF0 hC0 hw1 hsz1 hc
  go_enter Tryz.func99, Tryz.ntmps99
  go_wp2_with fail
  rw [HW1.out]
  clear HW1
  go_wp2_with fail
  refine (l1Below_s A n c g most bs w1 HC0.out hn hm1 (by omega)).mono ?_
  rintro e w2 ⟨q, rfl, hq, hc2, hg2⟩
  have HC2 := Lib.hid hc2
  have HF2 := Lib.hid (HF0.out.draw hg2 (by have := HSZ1.out; omega))
  have HBZ2 := Lib.hid (HBZ.out.grown hg2 (fun e => by injection e with e; omega))
  have hs2 : w.heap.size + 1 ≤ w2.heap.size := by have h1 := hg2.size; have h2 := HSZ1.out; omega
  obtain ⟨m, hm⟩ : ∃ m, 1 + q = m := ⟨_, rfl⟩
  have hmI : (1 : Int) + (q : Int) = (m : Int) := by omega
  have em : IntKind.i64.wrap (m : Int) = (m : Int) := Go.IntWalk.i64_in _ (by omega)
  have hmm : 1 ≤ m ∧ m ≤ 6 := by omega
  clear hc2 hg2 hm hq HC0 HF0 HBZ
  go_wp2_with fail
  refine (l1Below_s A n c g most bs w2 HC2.out hn hm1 (by omega)).mono ?_
  rintro e w3 ⟨q2, rfl, hq2, hc3, hg3⟩
  have HC3 := Lib.hid hc3
  have HF3 := Lib.hid (HF2.out.draw hg3 (by omega))
  have HBZ3 := Lib.hid (HBZ2.out.grown hg3 (fun e => by injection e with e; omega))
  have hs3 : w.heap.size + 1 ≤ w3.heap.size := by have h1 := hg3.size; omega
  obtain ⟨k, hk⟩ : ∃ k, 1 + q2 = k := ⟨_, rfl⟩
  have hkI : (1 : Int) + (q2 : Int) = (k : Int) := by omega
  have ek : IntKind.i64.wrap (k : Int) = (k : Int) := Go.IntWalk.i64_in _ (by omega)
  have hkk : 1 ≤ k ∧ k ≤ 6 := by omega
  clear hc3 hg3 hk hq2 HC2 HF2 HBZ2
  go_wp2_with fail
  refine (RectangleOf_s m k w3 hmm.1 hmm.2 hkk.1 hkk.2).mono ?_
  rintro e w4 ⟨D, cD, rows, b, rfl, hO, hb4⟩
  have HO4 := Lib.hid (own_base hO hs3)
  have HC4 := Lib.hid (HC3.out.below hb4)
  have HF4 := Lib.hid (HF3.out.below hb4 (by omega))
  have HBZ4 := Lib.hid (HBZ3.out.below hb4)
  have hs4 : w.heap.size + 1 ≤ w4.heap.size := by have h1 := hb4.size; omega
  have HBN := Lib.hid (Blk.new w4 29 #[.int .i64 (m : Int), .slice D k cD])
  have hD4 : ∀ b, ob D = some b → b ≠ w4.heap.size := fun b e => by have := (own_lt HO4.out b e).2; omega
  have HD4 := Lib.hid hD4
  obtain ⟨gr, hgr⟩ : ∃ gr, w4.heap.size = gr := ⟨_, rfl⟩
  have HO5 := Lib.hid (HO4.out.alloc (.cells #[.int .i64 (m : Int), .slice D k cD] 29))
  have HC5 := Lib.hid (HC4.out.below (bel_alloc (Below.refl _ _) (.cells #[.int .i64 (m : Int), .slice D k cD] 29)))
  have HF5 := Lib.hid (HF4.out.below (bel_alloc (Below.refl _ _) (.cells #[.int .i64 (m : Int), .slice D k cD] 29)) (by omega))
  have HBZ5 := Lib.hid (HBZ4.out.alloc (.cells #[.int .i64 (m : Int), .slice D k cD] 29))
  clear hO hb4 hD4 HO4 HC3 HC4 HF3 HF4 HBZ3 HBZ4
  go_wp2_with fail
  obtain ⟨w5, hw5⟩ : ∃ w5, w4.alloc (.cells #[.int .i64 (m : Int), .slice D k cD] 29) = w5 := ⟨_, rfl⟩
  have hs5 : w.heap.size + 1 < w5.heap.size := by rw [← hw5]; simp; omega
  rw [hw5] at HO5 HC5 HF5 HBZ5 HBN ⊢
  rw [hgr] at HD4 HBN hs4
  clear hw5 hgr
  refine (l1Below_s A n c g 3 bs w5 HC5.out hn (by omega) (by omega)).mono ?_
  rintro e w6 ⟨r, rfl, hr3, hc6, hg6⟩
  have HC6 := Lib.hid hc6
  have HF6 := Lib.hid (HF5.out.draw hg6 (by omega))
  have HBZ6 := Lib.hid (HBZ5.out.grown hg6 (fun e => by injection e with e; omega))
  have HBN6 := Lib.hid (HBN.out.grown hg6 (fun e => by injection e with e; omega))
  have HO6 := Lib.hid (own_keptD HO5.out hg6 (fun b e r => by injection r with r; have := (own_lt HO5.out b e).1; omega))
  clear hc6 hg6 HC5 HF5 HBZ5 HBN HO5
  go_wp2_with fail
  go_loopw [8] (fun e8 wr => ∃ (nn cD : Nat) (D : Option Addr) (rows : List Int), nn ≤ 2 ∧ e8 = .int .i64 nn ∧ Blk wr gr 29 #[.int .i64 (m : Int), .slice D k cD] ∧ wr.ownsRow (w.heap.size + 1) 3 1 (.slice D k cD) k (vI rows) ∧ (∀ b, ob D = some b → b ≠ gr) ∧ Blk wr w.heap.size 29 #[.int .i64 0, .slice none 0 0] ∧ Cur wr g A n c bs ∧ FrG w.heap.size g w wr) (fun e8 _ => (intOf e8).toNat)
  case atStart => exact ⟨r, cD, D, rows, by omega, rfl, HBN6.out, HO6.out, HD4.out, HBZ6.out, HC6.out, HF6.out⟩
  case round =>
    clear HBN6 HO6 HD4 HBZ6 HC6 HF6
    obtain ⟨nn, cD, D, rows, hnn, rfl, hB, hO, hD, hZ, hC, hF⟩ := hrel
    have HB := Lib.hid hB
    have HO := Lib.hid hO
    have HD := Lib.hid hD
    have HZ := Lib.hid hZ
    have HC := Lib.hid hC
    have HF := Lib.hid hF
    have c0 : wr.cell? ⟨gr, 0, none⟩ = some (.int .i64 (m : Int)) := by simpa using hB.cell 0
    have c1 : wr.cell? ⟨gr, 1, none⟩ = some (.slice D k cD) := by simpa using hB.cell 1
    have cl := hB.lt
    have hsw : w.heap.size + 1 ≤ wr.heap.size := by have := hZ.lt; omega
    clear hB hO hD hZ hC hF
    by_cases hn0 : 0 < nn
    · have hnI : (nn : Int) > 0 := by omega
      have hn1 : IntKind.i64.wrap ((nn : Int) - 1) = (nn : Int) - 1 := Go.IntWalk.i64_in _ (by omega)
      go_wp2_with fail
      refine (l1Below_s A n c g m bs wr HC.out hn hmm.1 (by omega)).mono ?_
      rintro e w7 ⟨x, rfl, hx, hc7, hg7⟩
      have HC7 := Lib.hid hc7
      have HF7 := Lib.hid (HF.out.draw hg7 (by omega))
      have HZ7 := Lib.hid (HZ.out.grown hg7 (fun e => by injection e with e; omega))
      have HB7 := Lib.hid (HB.out.grown hg7 (fun e => by injection e with e; omega))
      have HO7 := Lib.hid (own_keptD HO.out hg7 (fun b e r => by injection r with r; have := (own_lt HO.out b e).1; omega))
      have hs7 : w.heap.size + 1 ≤ w7.heap.size := by have := hg7.size; omega
      clear hc7 hg7 c0 c1 cl HC HF HZ HB HO
      have c0 : w7.cell? ⟨gr, 0, none⟩ = some (.int .i64 (m : Int)) := by simpa using HB7.out.cell 0
      have c1 : w7.cell? ⟨gr, 1, none⟩ = some (.slice D k cD) := by simpa using HB7.out.cell 1
      have cl := HB7.out.lt
      have hgg : g ≠ gr := by omega
      go_wp2_with fail
      go_region_with (first | (go_at_call 115; refine (l1Below_s A n c g k bs _ (HC7.out.below (bel_drew (Below.refl _ _))) hn hkk.1 (by omega)).mono ?_; rintro e w8 ⟨y, rfl, hy, hc8, hg8⟩; have HC8 := Lib.hid hc8; have HG8 := Lib.hid hg8; clear hc8 hg8; have HB8 := Lib.hid (HB7.out.drew.grown HG8.out (fun e => by injection e with e; omega)); have x0 : w8.cell? ⟨gr, 0, none⟩ = some (.int .i64 (m : Int)) := (by simpa using HB8.out.cell 0); have x1 : w8.cell? ⟨gr, 1, none⟩ = some (.slice D k cD) := (by simpa using HB8.out.cell 1); have xl := HB8.out.lt) | (go_at_call 118; refine (RemoveCell_s m D k cD x y rows _ ((Rd.of_own HO7.out).below (bel_drew (Below.refl _ _)) |>.grown HG8.out (fun b e r => by injection r with r; have := (own_lt HO7.out b e).1; omega)) (by have := own_len HO7.out; rw [vI_length] at this; omega) hkk.2 hx hy hmm.2).mono ?_; rintro e w9 ⟨D9, c9, rows9, b9, rfl, hO9, hb9⟩; have HO9 := Lib.hid hO9; have HBB9 := Lib.hid hb9; clear hO9 hb9; have HB9 := Lib.hid (HB8.out.below HBB9.out); have y0 : w9.cell? ⟨gr, 0, none⟩ = some (.int .i64 (m : Int)) := (by simpa using HB9.out.cell 0); have y1 : w9.cell? ⟨gr, 1, none⟩ = some (.slice D k cD) := (by simpa using HB9.out.cell 1); have yl := HB9.out.lt; have yf0 := HB9.out.frozen 0; have yf1 := HB9.out.frozen 1))
      all_goals
        have hb9 := HBB9.out
        have hgm : (w9.setCell ⟨gr, 0, none⟩ (.int .i64 (m : Int))).setCell ⟨gr, 1, none⟩ (.slice D9 k c9) = (w9.setCell ⟨gr, 0, none⟩ (.int .i64 (m : Int))).setCell ⟨gr, 1, none⟩ (.slice D9 k c9) := rfl
        have gg : w9.grownBy ((w9.setCell ⟨gr, 0, none⟩ (.int .i64 (m : Int))).setCell ⟨gr, 1, none⟩ (.slice D9 k c9)) (some gr) := grown_set (p := ⟨gr, 1, none⟩) (grown_set (p := ⟨gr, 0, none⟩) (World.grownBy.refl _ _) rfl _) rfl _
        have hs8 : w.heap.size + 1 ≤ w8.heap.size := by have := HG8.out.size; simp at this; omega
        have hs9 : w.heap.size + 1 ≤ w9.heap.size := by have := hb9.size; omega
        have kB : Blk ((w9.setCell ⟨gr, 0, none⟩ (.int .i64 (m : Int))).setCell ⟨gr, 1, none⟩ (.slice D9 k c9)) gr 29 #[.int .i64 (m : Int), .slice D9 k c9] := (HB9.out.set_ 0 (.int .i64 (m : Int))).set_ 1 (.slice D9 k c9)
        have nD : ∀ b, ob D9 = some b → b ≠ gr := fun b e => by have h1 := (own_lt HO9.out b e).1; have := HB8.out.lt; omega
        have kO : ((w9.setCell ⟨gr, 0, none⟩ (.int .i64 (m : Int))).setCell ⟨gr, 1, none⟩ (.slice D9 k c9)).ownsRow (w.heap.size + 1) 3 1 (.slice D9 k c9) k (vI rows9) := own_set (own_set (own_base HO9.out hs8) nD _) nD _
        have kC9 : Cur w9 g A n c bs := HC8.out.below hb9
        have kC := kC9.row gg (fun b e => by injection e with e; omega) (fun h0 b e r => HAB.out h0 b r (by injection e with e; omega))
        have kF := (((HF7.out.below (bel_drew (Below.refl _ _)) (by omega)).draw HG8.out (by simp; omega)).below hb9 (by omega)).row gg (by omega) (fun b e => by injection e with e; omega)
        have kZ := (((HZ7.out.drew.grown HG8.out (fun e => by injection e with e; omega)).below hb9).grown gg (fun e => by injection e with e; omega))
        have KB := Lib.hid kB
        have ND := Lib.hid nD
        have KO := Lib.hid kO
        have KC := Lib.hid kC
        have KF := Lib.hid kF
        have KZ := Lib.hid kZ
        clear hgm gg kB nD kO kC9 kC kF kZ hb9
        go_wp2_with fail
        exact ⟨⟨nn - 1, c9, D9, rows9, by omega, by rw [show ((nn - 1 : Nat) : Int) = (nn : Int) - 1 by omega], KB.out, KO.out, ND.out, KZ.out, KC.out, KF.out⟩, by simp [intOf]; omega⟩
    · obtain rfl : nn = 0 := by omega
      have hnI : ¬ ((0 : Nat) : Int) > 0 := by omega
      have z0 : wr.cell? ⟨w.heap.size, 0, none⟩ = some (.int .i64 0) := by simpa using HZ.out.cell 0
      have z1 : wr.cell? ⟨w.heap.size, 1, none⟩ = some (.slice none 0 0) := by simpa using HZ.out.cell 1
      have g0 := HZ.out.frozen 0
      have g1 := HZ.out.frozen 1
      have zl := HZ.out.lt
      have hD := (HZ.out.set_ 0 (.int .i64 (m : Int))).set_ 1 (.slice D k cD)
      have e0 : ((wr.setCell ⟨w.heap.size, 0, none⟩ (.int .i64 (m : Int))).setCell ⟨w.heap.size, 1, none⟩ (.slice D k cD)).cell? ⟨w.heap.size, 0, none⟩ = some (.int .i64 (m : Int)) := by simpa using hD.cell 0
      have e1 : ((wr.setCell ⟨w.heap.size, 0, none⟩ (.int .i64 (m : Int))).setCell ⟨w.heap.size, 1, none⟩ (.slice D k cD)).cell? ⟨w.heap.size, 1, none⟩ = some (.slice D k cD) := by simpa using hD.cell 1
      have E0 := Lib.hid e0
      have E1 := Lib.hid e1
      clear hD e0 e1
      go_wp2_with fail
      have e0 := E0.out
      have e1 := E1.out
      have ne : ∀ b, ob D = some b → b ≠ w.heap.size := fun b e => by have := (own_lt HO.out b e).1; omega
      have hfr : FrG w.heap.size g w ((wr.setCell ⟨w.heap.size, 0, none⟩ (.int .i64 (m : Int))).setCell ⟨w.heap.size, 1, none⟩ (.slice D k cD)) := HF.out.row (row := some w.heap.size) (grown_set (p := ⟨w.heap.size, 1, none⟩) (grown_set (p := ⟨w.heap.size, 0, none⟩) (World.grownBy.refl _ _) rfl _) rfl _) (by omega) (fun b e => by injection e with e; omega)
      exact bodyPost_ret (v := .agg #[.int .i64 (m : Int), .slice D k cD]) (by simp [results, Tryz.results99, go_sem, e0, e1]) rfl
        ⟨m, k, D, cD, rows, rfl, own_set (own_set HO.out ne _) ne _, hmm.1, hmm.2, hkk.1, hkk.2, HC.out.row (row := some w.heap.size) (grown_set (p := ⟨w.heap.size, 1, none⟩) (grown_set (p := ⟨w.heap.size, 0, none⟩) (World.grownBy.refl _ _) rfl _) rfl _) (fun b e => by injection e with e; omega) (fun h0 b e r => HAB.out h0 b r (by injection e with e; omega)), hfr.grown⟩
end Go.Proofs.YtcgjnonlndaoeaaGreatDoor

/- The reference's draws of regions: odd ones. -/
namespace Go.Proofs.YtcgjnonlndaoeaaGreatDoor
open Go.RowKit
set_option linter.unusedVariables false
attribute [local go_sem ↓] Go.wp_at_zero Go.wp_at_succ

/-- A region was drawn. -/
def RetRgA (w : World) (g : Nat) (A : Option Addr) (n c : Nat) (bs : List UInt8) (e : Ending) (w' : World) : Prop :=
  ∃ (W : Int) (k : Nat) (D : Option Addr) (cD : Nat) (rows : List Int), e = .returned (.agg #[.int .i64 W, .slice D k cD]) ∧ w'.ownsRow (w.heap.size + 1) 3 1 (.slice D k cD) k (vI rows) ∧ k ≤ 9 ∧ Cur w' g A n c bs ∧ w.grownBy w' (some g)
set_option maxRecDepth 100000 in
set_option maxHeartbeats 3200000 in
theorem l6Any_s (A : Option Addr) (n c g : Nat) (bs : List UInt8) (w : World) (hc : Cur w g A n c bs) (hn : n ≤ 1048576) :
    Calls Tryz.prog 98 #[.pointer (some ⟨g, 0, none⟩)] w (RetRgA w g A n c bs) := by
  have hgl : g < w.heap.size := by obtain ⟨i, x, hi, hB⟩ := hc.blk; exact hB.lt
  have hAb : 0 < n → ∀ b, ob A = some b → b < w.heap.size := fun h0 b e => by
    obtain ⟨gb, off, hA, hgb, _⟩ := RdB.at_ hc.rd (show 0 < bs.length by rw [hc.len]; exact h0)
    subst hA
    simp only [ob, Option.map_some, Option.some.injEq] at e
    omega
  have HAB : Hid (0 < n → ∀ b, ob A = some b → w.heap.size ≤ b → False) := fun h0 b e h => by have := hAb h0 b e; omega
  clear hAb
  have hBZ := Blk.new w 29 #[.int .i64 0, .slice none 0 0]
  have hF0 := (FrG.refl w.heap.size g w).below (bel_alloc (Below.refl _ _) (.cells #[.int .i64 0, .slice none 0 0] 29)) (Nat.le_refl _)
  have hC0 := hc.below (bel_alloc (Below.refl _ _) (.cells #[.int .i64 0, .slice none 0 0] 29))
  obtain ⟨w1, hw1⟩ : ∃ w1, w.alloc (.cells #[.int .i64 0, .slice none 0 0] 29) = w1 := ⟨_, rfl⟩
  have hsz1 : w1.heap.size = w.heap.size + 1 := by rw [← hw1]; simp
  rw [hw1] at hBZ hF0 hC0
  have HW1 := Lib.hid hw1
  have HSZ1 := Lib.hid hsz1
  have HBZ := Lib.hid hBZ
  have HF0 := Lib.hid hF0
  have HC0 := Lib.hid hC0
  clear hBZ hF0 hC0 hw1 hsz1 hc
  go_enter Tryz.func98, Tryz.ntmps98
  go_wp2_with fail
  rw [HW1.out]
  clear HW1
  go_wp2_with fail
  refine (l6Draw_s A n c g 5 bs w1 HC0.out hn (by omega) (by omega)).mono ?_
  rintro e w2 ⟨m, k, D, cD, rows, rfl, hO, hm1, hm6, hk1, hk6, hc2, hg2⟩
  have hs2 : w.heap.size + 1 ≤ w2.heap.size := by have h1 := hg2.size; have h2 := HSZ1.out; omega
  have HO2 := Lib.hid (own_base hO (show w.heap.size + 1 ≤ w1.heap.size + 1 by have := HSZ1.out; omega))
  have HC2 := Lib.hid hc2
  have HF2 := Lib.hid (HF0.out.draw hg2 (by have := HSZ1.out; omega))
  have HBZ2 := Lib.hid (HBZ.out.grown hg2 (fun e => by injection e with e; omega))
  have HBN := Lib.hid (Blk.new w2 29 #[.int .i64 (m : Int), .slice D k cD])
  have hD2 : ∀ b, ob D = some b → b < w2.heap.size := fun b e => (own_lt HO2.out b e).2
  have HO5 := Lib.hid (HO2.out.alloc (.cells #[.int .i64 (m : Int), .slice D k cD] 29))
  have HC5 := Lib.hid (HC2.out.below (bel_alloc (Below.refl _ _) (.cells #[.int .i64 (m : Int), .slice D k cD] 29)))
  have HF5 := Lib.hid (HF2.out.below (bel_alloc (Below.refl _ _) (.cells #[.int .i64 (m : Int), .slice D k cD] 29)) (by omega))
  have HBZ5 := Lib.hid (HBZ2.out.alloc (.cells #[.int .i64 (m : Int), .slice D k cD] 29))
  clear hO hc2 hg2 HC0 HF0 HBZ HO2 HC2 HF2 HBZ2
  go_wp2_with fail
  obtain ⟨gr, hgr⟩ : ∃ gr, w2.heap.size = gr := ⟨_, rfl⟩
  obtain ⟨w5, hw5⟩ : ∃ w5, w2.alloc (.cells #[.int .i64 (m : Int), .slice D k cD] 29) = w5 := ⟨_, rfl⟩
  have hs5 : w.heap.size + 1 < w5.heap.size := by rw [← hw5]; simp; omega
  rw [hw5] at HO5 HC5 HF5 HBZ5 HBN ⊢
  rw [hgr] at hD2 HBN hs2 ⊢
  clear hw5 hgr
  refine (l1Below_s A n c g 14 bs w5 HC5.out hn (by omega) (by omega)).mono ?_
  rintro e w6 ⟨r, rfl, hr3, hc6, hg6⟩
  have HC6 := Lib.hid hc6
  have HF6 := Lib.hid (HF5.out.draw hg6 (by omega))
  have HBZ6 := Lib.hid (HBZ5.out.grown hg6 (fun e => by injection e with e; omega))
  have HBN6 := Lib.hid (HBN.out.grown hg6 (fun e => by injection e with e; omega))
  have HO6 := Lib.hid (own_keptD HO5.out hg6 (fun b e r => by injection r with r; have := (own_lt HO5.out b e).1; omega))
  have hs6 : w.heap.size + 1 < w6.heap.size := by have := hg6.size; omega
  have HD2 := Lib.hid hD2
  clear hc6 hg6 HC5 HF5 HBZ5 HBN HO5 hD2
  by_cases h0 : r = 0
  · have e0 : ((r : Int) == 0) = true := by simp [h0]
    clear h0 hr3
    go_wp2_with fail
    refine (l1PickInt_s A (some ⟨w6.heap.size, 0, none⟩) n c g 4 4 [0, 7, -1, 2] bs _ (HC6.out.below (bel_alloc (Below.refl _ _) _)) hn (rd_new w6 3 _) rfl (by omega) (by omega) (fun b e => by simp only [ob, Option.map_some, Option.some.injEq] at e; omega)).mono ?_
    rintro e w7 ⟨v, rfl, hv, hc7, hg7⟩
    have HC7 := Lib.hid hc7
    have HF7 := Lib.hid ((HF6.out.below (bel_alloc (Below.refl _ _) _) (by omega)).draw hg7 (by simp; omega))
    have HZ7 := Lib.hid ((HBZ6.out.alloc _).grown hg7 (fun e => by injection e with e; omega))
    have HB7 := Lib.hid ((HBN6.out.alloc _).grown hg7 (fun e => by injection e with e; omega))
    have HO7 := Lib.hid (own_keptD (HO6.out.alloc _) hg7 (fun b e r => by injection r with r; have := (own_lt HO6.out b e).1; omega))
    have hs7 : w.heap.size + 1 < w7.heap.size := by have := hg7.size; simp at this; omega
    have b0 : w7.cell? ⟨gr, 0, none⟩ = some (.int .i64 (m : Int)) := by simpa using HB7.out.cell 0
    have bf := HB7.out.frozen 0
    have bl := HB7.out.lt
    have gg : w7.grownBy (w7.setCell ⟨gr, 0, none⟩ (.int .i64 v)) (some gr) := grown_set (p := ⟨gr, 0, none⟩) (World.grownBy.refl _ _) rfl _
    have HB8 : Hid (Blk (w7.setCell ⟨gr, 0, none⟩ (.int .i64 v)) gr 29 #[.int .i64 v, .slice D k cD]) := HB7.out.set_ 0 (.int .i64 v)
    have HO8 := Lib.hid (own_set HO7.out (p := ⟨gr, 0, none⟩) (fun b e => by have := HD2.out b e; show b ≠ gr; omega) (.int .i64 v))
    have HC8 := Lib.hid (HC7.out.row gg (fun b e => by injection e with e; omega) (fun h0 b e r => HAB.out h0 b r (by injection e with e; omega)))
    have HF8 := Lib.hid (HF7.out.row gg (by omega) (fun b e => by injection e with e; omega))
    have HZ8 := Lib.hid (HZ7.out.grown gg (fun e => by injection e with e; omega))
    have hs8 : w.heap.size + 1 < (w7.setCell ⟨gr, 0, none⟩ (.int .i64 v)).heap.size := by simpa using hs7
    obtain ⟨u, hu⟩ : ∃ u, w7.setCell ⟨gr, 0, none⟩ (.int .i64 v) = u := ⟨_, rfl⟩
    rw [hu] at HB8 HO8 HC8 HF8 HZ8 hs8
    have HU := Lib.hid hu
    clear hc7 hg7 HC7 HF7 HZ7 HB7 HO7 gg hu HC6 HF6 HBZ6 HBN6 HO6
    go_upto_region 9 with fail
    rw [HU.out]
    clear HU b0 bf bl
    have c0 : u.cell? ⟨gr, 0, none⟩ = some (.int .i64 v) := by simpa using (HB8.out).cell 0
    have c1 : u.cell? ⟨gr, 1, none⟩ = some (.slice D k cD) := by simpa using (HB8.out).cell 1
    have cl := (HB8.out).lt
    have z0 : u.cell? ⟨w.heap.size, 0, none⟩ = some (.int .i64 0) := by simpa using (HZ8.out).cell 0
    have z1 : u.cell? ⟨w.heap.size, 1, none⟩ = some (.slice none 0 0) := by simpa using (HZ8.out).cell 1
    have g0 := (HZ8.out).frozen 0
    have g1 := (HZ8.out).frozen 1
    have zl := (HZ8.out).lt
    have hD := ((HZ8.out).set_ 0 (.int .i64 v)).set_ 1 (.slice D k cD)
    have e0 : ((u.setCell ⟨w.heap.size, 0, none⟩ (.int .i64 v)).setCell ⟨w.heap.size, 1, none⟩ (.slice D k cD)).cell? ⟨w.heap.size, 0, none⟩ = some (.int .i64 v) := by simpa using hD.cell 0
    have e1 : ((u.setCell ⟨w.heap.size, 0, none⟩ (.int .i64 v)).setCell ⟨w.heap.size, 1, none⟩ (.slice D k cD)).cell? ⟨w.heap.size, 1, none⟩ = some (.slice D k cD) := by simpa using hD.cell 1
    have E0 := Lib.hid e0
    have E1 := Lib.hid e1
    clear hD e0 e1
    go_wp2_with fail
    have e0 := E0.out
    have e1 := E1.out
    have ne : ∀ b, ob D = some b → b ≠ w.heap.size := fun b e => by have := (own_lt (HO8.out) b e).1; omega
    have gz : u.grownBy ((u.setCell ⟨w.heap.size, 0, none⟩ (.int .i64 v)).setCell ⟨w.heap.size, 1, none⟩ (.slice D k cD)) (some w.heap.size) := grown_set (p := ⟨w.heap.size, 1, none⟩) (grown_set (p := ⟨w.heap.size, 0, none⟩) (World.grownBy.refl _ _) rfl _) rfl _
    exact bodyPost_ret (v := .agg #[.int .i64 v, .slice D k cD]) (by simp [results, Tryz.results98, go_sem, e0, e1]) rfl
      ⟨v, k, D, cD, _, rfl, own_set (own_set (HO8.out) ne _) ne _, (by omega), (HC8.out).row gz (fun b e => by injection e with e; omega) (fun h0 b e r => HAB.out h0 b r (by injection e with e; omega)), ((HF8.out).row gz (by omega) (fun b e => by injection e with e; omega)).grown⟩
  · have e0 : ((r : Int) == 0) = false := by simp only [beq_eq_false_iff_ne]; omega
    by_cases h1 : r = 1
    · have e1 : ((r : Int) == 1) = true := by simp [h1]
      clear h0 h1 hr3
      obtain ⟨gd, hD, hgb, hgl2⟩ := own_someD HO6.out hk1
      subst hD
      have hgd : gd < gr := HD2.out gd rfl
      have b1 : w6.cell? ⟨gr, 1, none⟩ = some (.slice (some ⟨gd, 0, none⟩) k cD) := by simpa using HBN6.out.cell 1
      have bl := HBN6.out.lt
      have hk0 : (0 : Int) < (k : Int) := by omega
      have hkN : 0 < k := by omega
      have hrl : 0 < rows.length := by have := own_len HO6.out; rw [vI_length] at this; omega
      go_wp2_with fail
      go_region_with (go_at_call 116; refine (l1PickInt_s A (some ⟨w6.heap.size, 0, none⟩) n c g 3 3 [-1, 64, 9223372036854775807] bs _ (HC6.out.below (bel_alloc (bel_drew (Below.refl _ _)) _)) hn (rd_new w6 3 _) rfl (by omega) (by omega) (fun b e => by simp only [ob, Option.map_some, Option.some.injEq] at e; omega)).mono ?_; rintro e w7 ⟨v, rfl, hv, hc7, hg7⟩; have HC7 := Lib.hid hc7; have HG7 := Lib.hid hg7; clear hc7 hg7; have HO7 := Lib.hid (own_keptD (own_keep HO6.out (bel_alloc (bel_drew (Below.refl _ _)) _)) HG7.out (fun b e r => by injection r with r; have := (own_lt HO6.out b e).1; omega)); have HB7 := Lib.hid ((HBN6.out.below (bel_alloc (bel_drew (Below.refl _ _)) _)).grown HG7.out (fun e => by injection e with e; omega)); have x1 : w7.cell? ⟨gr, 1, none⟩ = some (.slice (some ⟨gd, 0, none⟩) k cD) := (by simpa using HB7.out.cell 1); have xl := HB7.out.lt; obtain ⟨ga, oa, hA7, hga, d7⟩ := RdI.at_ (Rd.of_own HO7.out) hrl; injection hA7 with hA7; injection hA7 with hA71 hA72; subst hA71 hA72; have d8 : w7.cell? ⟨gd, 0, none⟩ = some (.int .i64 rows[0]) := d7; have f8 := own_frz HO7.out 0)
      all_goals
        have hZ7 := ((HBZ6.out.below (bel_alloc (bel_drew (Below.refl _ _)) (.cells #[.int .i64 (-1), .int .i64 64, .int .i64 9223372036854775807] 3))).grown HG7.out (fun e => by injection e with e; omega))
        have hF7 := ((HF6.out.below (bel_alloc (bel_drew (Below.refl _ _)) (.cells #[.int .i64 (-1), .int .i64 64, .int .i64 9223372036854775807] 3)) (by omega)).draw HG7.out (by simp; omega))
        have gg : w7.grownBy (w7.setCell ⟨gd, 0, none⟩ (.int .i64 v)) (some gd) := grown_set (p := ⟨gd, 0, none⟩) (World.grownBy.refl _ _) rfl _
        have hB8 := HB7.out.far (p := ⟨gd, 0, none⟩) (by show gr ≠ gd; omega) (.int .i64 v)
        have hO8 := own_putI HO7.out hkN v
        have hC8 := HC7.out.row gg (fun b e => by injection e with e; omega) (fun h0 b e r => HAB.out h0 b r (by injection e with e; omega))
        have hF8 := hF7.row gg (by have := HG7.out.size; simp at this; omega) (fun b e => by injection e with e; omega)
        have hZ8 := hZ7.grown gg (fun e => by injection e with e; omega)
        have hs8 : w.heap.size + 1 < (w7.setCell ⟨gd, 0, none⟩ (.int .i64 v)).heap.size := by have := HG7.out.size; simp at this ⊢; omega
        obtain ⟨u, hu⟩ : ∃ u, w7.setCell ⟨gd, 0, none⟩ (.int .i64 v) = u := ⟨_, rfl⟩
        rw [hu] at hB8 hO8 hC8 hF8 hZ8 hs8 ⊢
        have HB8 := Lib.hid hB8
        have HO8 := Lib.hid hO8
        have HC8 := Lib.hid hC8
        have HF8 := Lib.hid hF8
        have HZ8 := Lib.hid hZ8
        clear hZ7 hF7 gg hB8 hO8 hC8 hF8 hZ8 hu x1 xl d7 d8 f8 b1 bl
        have c0 : u.cell? ⟨gr, 0, none⟩ = some (.int .i64 (m : Int)) := by simpa using (HB8.out).cell 0
        have c1 : u.cell? ⟨gr, 1, none⟩ = some (.slice (some ⟨gd, 0, none⟩) k cD) := by simpa using (HB8.out).cell 1
        have cl := (HB8.out).lt
        have z0 : u.cell? ⟨w.heap.size, 0, none⟩ = some (.int .i64 0) := by simpa using (HZ8.out).cell 0
        have z1 : u.cell? ⟨w.heap.size, 1, none⟩ = some (.slice none 0 0) := by simpa using (HZ8.out).cell 1
        have g0 := (HZ8.out).frozen 0
        have g1 := (HZ8.out).frozen 1
        have zl := (HZ8.out).lt
        have hD := ((HZ8.out).set_ 0 (.int .i64 (m : Int))).set_ 1 (.slice (some ⟨gd, 0, none⟩) k cD)
        have e0 : ((u.setCell ⟨w.heap.size, 0, none⟩ (.int .i64 (m : Int))).setCell ⟨w.heap.size, 1, none⟩ (.slice (some ⟨gd, 0, none⟩) k cD)).cell? ⟨w.heap.size, 0, none⟩ = some (.int .i64 (m : Int)) := by simpa using hD.cell 0
        have e1 : ((u.setCell ⟨w.heap.size, 0, none⟩ (.int .i64 (m : Int))).setCell ⟨w.heap.size, 1, none⟩ (.slice (some ⟨gd, 0, none⟩) k cD)).cell? ⟨w.heap.size, 1, none⟩ = some (.slice (some ⟨gd, 0, none⟩) k cD) := by simpa using hD.cell 1
        have E0 := Lib.hid e0
        have E1 := Lib.hid e1
        clear hD e0 e1
        go_wp2_with fail
        have e0 := E0.out
        have e1 := E1.out
        have ne : ∀ b, ob (some ⟨gd, 0, none⟩) = some b → b ≠ w.heap.size := fun b e => by have := (own_lt (HO8.out) b e).1; omega
        have gz : u.grownBy ((u.setCell ⟨w.heap.size, 0, none⟩ (.int .i64 (m : Int))).setCell ⟨w.heap.size, 1, none⟩ (.slice (some ⟨gd, 0, none⟩) k cD)) (some w.heap.size) := grown_set (p := ⟨w.heap.size, 1, none⟩) (grown_set (p := ⟨w.heap.size, 0, none⟩) (World.grownBy.refl _ _) rfl _) rfl _
        exact bodyPost_ret (v := .agg #[.int .i64 (m : Int), .slice (some ⟨gd, 0, none⟩) k cD]) (by simp [results, Tryz.results98, go_sem, e0, e1]) rfl
          ⟨(m : Int), k, (some ⟨gd, 0, none⟩), cD, _, rfl, own_set (own_set (HO8.out) ne _) ne _, (by omega), (HC8.out).row gz (fun b e => by injection e with e; omega) (fun h0 b e r => HAB.out h0 b r (by injection e with e; omega)), ((HF8.out).row gz (by omega) (fun b e => by injection e with e; omega)).grown⟩
    · have e1 : ((r : Int) == 1) = false := by simp only [beq_eq_false_iff_ne]; omega
      by_cases h2 : r = 2
      · have e2 : ((r : Int) == 2) = true := by simp [h2]
        clear h0 h1 h2 hr3
        have b1 : w6.cell? ⟨gr, 1, none⟩ = some (.slice D k cD) := by simpa using HBN6.out.cell 1
        have bl := HBN6.out.lt
        have bf := HBN6.out.frozen 1
        go_upto_region 9 with (at_builtin; go_must (refine app_I _ rfl _ _ rfl (w.heap.size + 1) _ _ _ rows rfl (HO6.out.alloc _) _ _ _ [1, 1, 1] rfl (rd_new w6 3 _) rfl (by omega) (by simp; omega) ?_); intro D6 c6 w7 ho6 hg6 hat6; have HO7 := Lib.hid ho6; have HG7 := Lib.hid hg6; have HAT7 := Lib.hid hat6; clear ho6 hg6 hat6; have HB7 := Lib.hid ((HBN6.out.alloc (.cells #[.int .i64 1, .int .i64 1, .int .i64 1] 3)).grown HG7.out (fun e => by have := HD2.out gr e.symm; omega)); have d6 : w7.cell? ⟨gr, 1, none⟩ = some (.slice D k cD) := (by simpa using HB7.out.cell 1); have f6 := HB7.out.frozen 1; have l6 := HB7.out.lt)
        have hg2 : w6.grownBy w7 (ob D) := ⟨HG7.out.os, HG7.out.tape, HG7.out.output, by have h3 := HG7.out.size; simp at h3; omega, fun b hb hn => (HG7.out.block b (by simp; omega) hn).trans (Below.heap_alloc w6 _ b hb)⟩
        have hDlo : ∀ b, ob D = some b → w.heap.size + 1 ≤ b := fun b e => (own_lt HO6.out b e).1
        have gg : w7.grownBy (w7.setCell ⟨gr, 1, none⟩ (.slice D6 (k + 3) c6)) (some gr) := grown_set (p := ⟨gr, 1, none⟩) (World.grownBy.refl _ _) rfl _
        have hB8 : Blk (w7.setCell ⟨gr, 1, none⟩ (.slice D6 (k + 3) c6)) gr 29 #[.int .i64 (m : Int), .slice D6 (k + 3) c6] := HB7.out.set_ 1 _
        have hD6 : ∀ b, ob D6 = some b → b ≠ gr := fun b e => by
          have hbn := HBN6.out.lt
          rcases HAT7.out with h | h
          · have := HD2.out b (h ▸ e); omega
          · rw [h] at e
            injection e with e
            rw [World.size_alloc] at e
            omega
        have hO8 := own_set HO7.out (p := ⟨gr, 1, none⟩) hD6 (.slice D6 (k + 3) c6)
        have hC7 := HC6.out.row hg2 (fun b e => by have := hDlo b e; omega) (fun h0 b e r => HAB.out h0 b r (by have := hDlo b e; omega))
        have hC8 := hC7.row gg (fun b e => by injection e with e; omega) (fun h0 b e r => HAB.out h0 b r (by injection e with e; omega))
        have hF8 := (HF6.out.row hg2 (by omega) (fun b e => by have := hDlo b e; omega)).row gg (by have := hg2.size; omega) (fun b e => by injection e with e; omega)
        have hZ8 := (HBZ6.out.grown hg2 (fun e => by have := hDlo _ e.symm; omega)).grown gg (fun e => by injection e with e; omega)
        have hs8 : w.heap.size + 1 < (w7.setCell ⟨gr, 1, none⟩ (.slice D6 (k + 3) c6)).heap.size := by have := hg2.size; simp; omega
        obtain ⟨u, hu⟩ : ∃ u, w7.setCell ⟨gr, 1, none⟩ (.slice D6 (k + 3) c6) = u := ⟨_, rfl⟩
        rw [hu] at hB8 hO8 hC8 hF8 hZ8 hs8 ⊢
        have HB8 := Lib.hid hB8
        have HO8 := Lib.hid hO8
        have HC8 := Lib.hid hC8
        have HF8 := Lib.hid hF8
        have HZ8 := Lib.hid hZ8
        clear hg2 hDlo gg hD6 hC7 hB8 hO8 hC8 hF8 hZ8 hu d6 f6 l6 b1 bl bf
        have c0 : u.cell? ⟨gr, 0, none⟩ = some (.int .i64 (m : Int)) := by simpa using (HB8.out).cell 0
        have c1 : u.cell? ⟨gr, 1, none⟩ = some (.slice D6 (k + 3) c6) := by simpa using (HB8.out).cell 1
        have cl := (HB8.out).lt
        have z0 : u.cell? ⟨w.heap.size, 0, none⟩ = some (.int .i64 0) := by simpa using (HZ8.out).cell 0
        have z1 : u.cell? ⟨w.heap.size, 1, none⟩ = some (.slice none 0 0) := by simpa using (HZ8.out).cell 1
        have g0 := (HZ8.out).frozen 0
        have g1 := (HZ8.out).frozen 1
        have zl := (HZ8.out).lt
        have hD := ((HZ8.out).set_ 0 (.int .i64 (m : Int))).set_ 1 (.slice D6 (k + 3) c6)
        have e0 : ((u.setCell ⟨w.heap.size, 0, none⟩ (.int .i64 (m : Int))).setCell ⟨w.heap.size, 1, none⟩ (.slice D6 (k + 3) c6)).cell? ⟨w.heap.size, 0, none⟩ = some (.int .i64 (m : Int)) := by simpa using hD.cell 0
        have e1 : ((u.setCell ⟨w.heap.size, 0, none⟩ (.int .i64 (m : Int))).setCell ⟨w.heap.size, 1, none⟩ (.slice D6 (k + 3) c6)).cell? ⟨w.heap.size, 1, none⟩ = some (.slice D6 (k + 3) c6) := by simpa using hD.cell 1
        have E0 := Lib.hid e0
        have E1 := Lib.hid e1
        clear hD e0 e1
        go_wp2_with fail
        have e0 := E0.out
        have e1 := E1.out
        have ne : ∀ b, ob D6 = some b → b ≠ w.heap.size := fun b e => by have := (own_lt (HO8.out) b e).1; omega
        have gz : u.grownBy ((u.setCell ⟨w.heap.size, 0, none⟩ (.int .i64 (m : Int))).setCell ⟨w.heap.size, 1, none⟩ (.slice D6 (k + 3) c6)) (some w.heap.size) := grown_set (p := ⟨w.heap.size, 1, none⟩) (grown_set (p := ⟨w.heap.size, 0, none⟩) (World.grownBy.refl _ _) rfl _) rfl _
        exact bodyPost_ret (v := .agg #[.int .i64 (m : Int), .slice D6 (k + 3) c6]) (by simp [results, Tryz.results98, go_sem, e0, e1]) rfl
          ⟨(m : Int), (k + 3), D6, c6, _, rfl, own_set (own_set (HO8.out) ne _) ne _, (by omega), (HC8.out).row gz (fun b e => by injection e with e; omega) (fun h0 b e r => HAB.out h0 b r (by injection e with e; omega)), ((HF8.out).row gz (by omega) (fun b e => by injection e with e; omega)).grown⟩
      · have e2 : ((r : Int) == 2) = false := by simp only [beq_eq_false_iff_ne]; omega
        clear h0 h1 h2 hr3
        have c0 : w6.cell? ⟨gr, 0, none⟩ = some (.int .i64 (m : Int)) := by simpa using (HBN6.out).cell 0
        have c1 : w6.cell? ⟨gr, 1, none⟩ = some (.slice D k cD) := by simpa using (HBN6.out).cell 1
        have cl := (HBN6.out).lt
        have z0 : w6.cell? ⟨w.heap.size, 0, none⟩ = some (.int .i64 0) := by simpa using (HBZ6.out).cell 0
        have z1 : w6.cell? ⟨w.heap.size, 1, none⟩ = some (.slice none 0 0) := by simpa using (HBZ6.out).cell 1
        have g0 := (HBZ6.out).frozen 0
        have g1 := (HBZ6.out).frozen 1
        have zl := (HBZ6.out).lt
        have hD := ((HBZ6.out).set_ 0 (.int .i64 (m : Int))).set_ 1 (.slice D k cD)
        have e0 : ((w6.setCell ⟨w.heap.size, 0, none⟩ (.int .i64 (m : Int))).setCell ⟨w.heap.size, 1, none⟩ (.slice D k cD)).cell? ⟨w.heap.size, 0, none⟩ = some (.int .i64 (m : Int)) := by simpa using hD.cell 0
        have e1 : ((w6.setCell ⟨w.heap.size, 0, none⟩ (.int .i64 (m : Int))).setCell ⟨w.heap.size, 1, none⟩ (.slice D k cD)).cell? ⟨w.heap.size, 1, none⟩ = some (.slice D k cD) := by simpa using hD.cell 1
        have E0 := Lib.hid e0
        have E1 := Lib.hid e1
        clear hD e0 e1
        go_wp2_with fail
        have e0 := E0.out
        have e1 := E1.out
        have ne : ∀ b, ob D = some b → b ≠ w.heap.size := fun b e => by have := (own_lt (HO6.out) b e).1; omega
        have gz : w6.grownBy ((w6.setCell ⟨w.heap.size, 0, none⟩ (.int .i64 (m : Int))).setCell ⟨w.heap.size, 1, none⟩ (.slice D k cD)) (some w.heap.size) := grown_set (p := ⟨w.heap.size, 1, none⟩) (grown_set (p := ⟨w.heap.size, 0, none⟩) (World.grownBy.refl _ _) rfl _) rfl _
        exact bodyPost_ret (v := .agg #[.int .i64 (m : Int), .slice D k cD]) (by simp [results, Tryz.results98, go_sem, e0, e1]) rfl
          ⟨(m : Int), k, D, cD, _, rfl, own_set (own_set (HO6.out) ne _) ne _, (by omega), (HC6.out).row gz (fun b e => by injection e with e; omega) (fun h0 b e r => HAB.out h0 b r (by injection e with e; omega)), ((HF6.out).row gz (by omega) (fun b e => by injection e with e; omega)).grown⟩
end Go.Proofs.YtcgjnonlndaoeaaGreatDoor

/- Slices of shapes: read, owned. -/
namespace Go.Proofs.YtcgjnonlndaoeaaGreatDoor
open Go.RowKit
set_option linter.unusedVariables false
/-- A slice header whose memory is a block of cells that reads as f. -/
def CRow (w : World) (x : H) (f : List C) : Prop := f.length = x.2.1 ∧ Rd w x.1 (vC f) ∧ ∀ g, ob x.1 = some g → ∃ cur z, w.heap[g]? = some (.cells cur 77 z)
/-- A slice of shapes that reads as F. -/
structure RdF (w : World) (A : Option Addr) (n : Nat) (hs : List H) (F : List (List C)) : Prop where
  top : Rd w A (vS hs)
  hlen : hs.length = n
  flen : F.length = n
  row : ∀ (i : Nat) x f, hs[i]? = some x → F[i]? = some f → CRow w x f
/-- .. and whose own block is the call's own. -/
structure OwnF (base : Nat) (w : World) (A : Option Addr) (n c : Nat) (hs : List H) (F : List (List C)) : Prop where
  own : w.ownsRow base 59 1 (.slice A n c) n (vS hs)
  flen : F.length = n
  row : ∀ (i : Nat) x f, hs[i]? = some x → F[i]? = some f → CRow w x f
section
variable {w w' : World} {x : H} {f : List C} {A : Option Addr} {n c base : Nat} {hs : List H} {F : List (List C)}
theorem CRow.lt (h : CRow w x f) : ∀ g, ob x.1 = some g → g < w.heap.size := fun g e => by
  obtain ⟨cur, z, h1⟩ := h.2.2 g e
  exact (Array.getElem?_eq_some_iff.1 h1).1
theorem CRow.below (h : CRow w x f) (hb : Below w.heap.size w w') : CRow w' x f :=
  ⟨h.1, h.2.1.below hb, fun g e => by obtain ⟨cur, z, h1⟩ := h.2.2 g e; exact ⟨cur, z, (hb.block g (Array.getElem?_eq_some_iff.1 h1).1).trans h1⟩⟩
theorem CRow.of_own (h : w.ownsRow base 77 2 (.slice A n c) n (vC f)) : CRow w (A, n, c) f := by
  refine ⟨by have := own_len h; rw [vC_length] at this; show f.length = n; omega, Rd.of_own h, fun g e => ?_⟩
  rcases h.2 with ⟨hv, _⟩ | ⟨g', cap, cur, hv, _, hg, _⟩
  · injection hv with hA
    subst hA
    simp [ob] at e
  · injection hv with hA
    subst hA
    simp only [ob, Option.map_some, Option.some.injEq] at e
    subst e
    exact ⟨cur, _, hg⟩
/-- A row of cells lies apart from a block of headers. -/
theorem CRow.apart (h : CRow w x f) {A : Option Addr} {n c base : Nat} {vs : List Value} {sz : Nat} (ho : w.ownsRow base 59 sz (.slice A n c) n vs) : ∀ g, ob x.1 = some g → ob A ≠ some g := by
  intro g e ea
  obtain ⟨cur, z, h1⟩ := h.2.2 g e
  rcases ho.2 with ⟨hv, _⟩ | ⟨g', cap, cur', hv, _, hg, _⟩
  · injection hv with hA
    subst hA
    simp [ob] at ea
  · injection hv with hA
    subst hA
    simp only [ob, Option.map_some, Option.some.injEq] at ea
    subst ea
    rw [h1] at hg
    injection hg with hg
    injection hg with _ h3
    exact absurd h3 (by decide)
theorem CRow.grown {row : Option Nat} (h : CRow w x f) (hg : w.grownBy w' row) (hn : ∀ g, ob x.1 = some g → row ≠ some g) : CRow w' x f :=
  ⟨h.1, h.2.1.grown hg (fun g e r => hn g (by simpa using e) r.symm), fun g e => by
    obtain ⟨cur, z, h1⟩ := h.2.2 g e
    exact ⟨cur, z, (hg.block g (Array.getElem?_eq_some_iff.1 h1).1 (fun r => hn g e r.symm)).trans h1⟩⟩
theorem OwnF.hlen (h : OwnF base w A n c hs F) : hs.length = n := by have := own_len h.own; rw [vS_length] at this; omega
theorem OwnF.rd (h : OwnF base w A n c hs F) : RdF w A n hs F := ⟨Rd.of_own h.own, h.hlen, h.flen, h.row⟩
theorem RdF.below (h : RdF w A n hs F) (hb : Below w.heap.size w w') : RdF w' A n hs F := ⟨h.top.below hb, h.hlen, h.flen, fun i x f a b => (h.row i x f a b).below hb⟩
theorem OwnF.below (h : OwnF base w A n c hs F) (hb : Below w.heap.size w w') : OwnF base w' A n c hs F := ⟨own_keep h.own hb, h.flen, fun i x f a b => (h.row i x f a b).below hb⟩
theorem OwnF.mono {base' : Nat} (h : OwnF base w A n c hs F) (hb : base' ≤ base) : OwnF base' w A n c hs F := ⟨own_base h.own hb, h.flen, h.row⟩
theorem OwnF.nil (base : Nat) (w : World) : OwnF base w none 0 0 [] [] := ⟨own_nil _ _ _ _, rfl, fun i x f a => by simp at a⟩
theorem OwnF.none_ (h : w.ownsRow base 59 1 (.slice A 0 c) 0 []) : OwnF base w A 0 c [] [] := ⟨h, rfl, fun i x f a => by simp at a⟩
theorem RdF.at_ (h : RdF w A n hs F) {k : Nat} (hk : k < n) : ∃ (x : H) (f : List C) (g off : Nat), hs[k]? = some x ∧ F[k]? = some f ∧ A = some ⟨g, off, none⟩ ∧ g < w.heap.size ∧ w.cell? ⟨g, off + k, none⟩ = some (.slice x.1 x.2.1 x.2.2) ∧ CRow w x f := by
  have a : k < hs.length := by rw [h.hlen]; exact hk
  have b : k < F.length := by rw [h.flen]; exact hk
  obtain ⟨g, off, e, hg, c1⟩ := RdS.at_ h.top a
  exact ⟨hs[k], F[k], g, off, List.getElem?_eq_getElem a, List.getElem?_eq_getElem b, e, hg, c1, h.row k _ _ (List.getElem?_eq_getElem a) (List.getElem?_eq_getElem b)⟩
end
/-- A result that is a slice of shapes of the call's own. -/
def RetF (w : World) (F : List (List C)) (e : Ending) (w' : World) : Prop :=
  ∃ A n c hs, e = .returned (.slice A n c) ∧ OwnF w.heap.size w' A n c hs F ∧ Below w.heap.size w w'
/-- The place in an ordered list. -/
theorem countP_cut {α : Type} {p : α → Bool} {F : List α} {k : Nat} (hk : k ≤ F.length) (h1 : ∀ (t : Nat) x, t < k → F[t]? = some x → p x = true) (h2 : ∀ (t : Nat) x, k ≤ t → F[t]? = some x → p x = false) : F.countP p = k := by
  have e : F.countP p = (F.take k).countP p + (F.drop k).countP p := by rw [← List.countP_append, List.take_append_drop]
  have e1 : (F.take k).countP p = k := by
    have : (F.take k).countP p = (F.take k).length := by
      rw [List.countP_eq_length]
      intro x hx
      obtain ⟨i, hi, rfl⟩ := List.mem_iff_getElem.1 hx
      rw [List.length_take] at hi
      exact h1 i _ (by omega) (by rw [List.getElem_take]; exact List.getElem?_eq_getElem (by omega))
    rw [this, List.length_take]
    omega
  have e2 : (F.drop k).countP p = 0 := by
    rw [List.countP_eq_zero]
    intro x hx
    obtain ⟨i, hi, rfl⟩ := List.mem_iff_getElem.1 hx
    rw [List.length_drop] at hi
    rw [List.getElem_drop]
    simpa using h2 (k + i) _ (by omega) (List.getElem?_eq_getElem (by omega))
  omega
end Go.Proofs.YtcgjnonlndaoeaaGreatDoor
