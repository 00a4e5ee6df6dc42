/- What the program's and the reference's functions on closed words do: walks. -/
import Derived.Test.YtcgohceakjjlhaaDoorWordsB
import Derived.Outline
import Derived.WalkLawsBesides
import Derived.WalkSpells
import Derived.BigQuiet
import Derived.Deep.QuietTactic
import Derived.Deep.RegionHeld3
import Derived.Deep.DeepCutAuto
import Derived.Deep.DrawnRows
namespace Go.Proofs.YtcgohceakjjlhaaDoor
open Go.RowKit
set_option linter.unusedVariables false
attribute [local go_sem ↓] Go.wp_at_zero Go.wp_at_succ


theorem IsClosedWord_i (s : ByteArray) (w : World) (hm : s.size ≤ maxLen) : Calls Tryd.prog 22 #[.string s] w (Ret w (.bool (closedW s.data.toList))) := by
  have key : ∀ e w', ClosedP s w e w' → ∃ A n c, e = .returned (.tuple #[.slice A n c, .bool (closedW s.data.toList)]) ∧ Below w.heap.size w w' := by
    intro e w' h
    unfold ClosedP at h
    by_cases h40 : s.size ≤ 40
    · rw [if_pos h40] at h
      cases hw : wayW (0, 0) s.data.toList with
      | none =>
        rw [hw] at h
        obtain ⟨rfl, hb⟩ := h
        rw [closedW_none (wayW_none.1 hw)]
        exact ⟨_, _, _, rfl, hb⟩
      | some l =>
        rw [hw] at h
        obtain ⟨A, n, c, rfl, _, hb⟩ := h
        exact ⟨A, n, c, rfl, hb⟩
    · rw [if_neg h40] at h
      obtain ⟨rfl, hb⟩ := h
      rw [closedW_far h40]
      exact ⟨_, _, _, rfl, hb⟩
  have K := Lib.hid key
  clear key
  go_enter Tryd.func22, Tryd.ntmps22
  go_wp2_with (go_at_call 39; refine (closedWay_i _ _ hm).mono ?_; intro e w' h; obtain ⟨A, n, c, rfl, hb1⟩ := K.out e w' h; clear h)
  go_ret
  exact ⟨rfl, (by (repeat (first | with_reducible exact Below.refl _ _ | with_reducible assumption | with_reducible apply bel_alloc | with_reducible apply bel_drew | with_reducible apply bel_drewN | ((with_reducible refine bel_set ?_ ?_); rotate_left; (simp <;> omega)) | (with_reducible refine bel_trans ?_ (by with_reducible assumption)))))⟩

set_option maxHeartbeats 400000 in
theorem IsClosedWord_s (s : ByteArray) (w : World) (hm : s.size ≤ maxLen) : Calls Tryd.prog 20 #[.string s] w (Ret w (.bool (closedW s.data.toList))) := by
  unfold maxLen at hm
  go_enter Tryd.func20, Tryd.ntmps20
  go_wp2
  go_loopw [4, 5, 6] (fun i t5 t6 wr => ∃ (k : Nat) (x y : Int), k ≤ s.size ∧ i = .int .i64 k ∧ (k = 0 ∨ s.size ≤ 40) ∧ endW (0, 0) (s.data.toList.take k) = some (x, y) ∧ Blk wr w.heap.size 52 #[.int .i64 x, .int .i64 y] ∧ Below w.heap.size w wr) (fun i t5 t6 _ => s.size - (intOf i).toNat)
  case atStart => exact ⟨0, 0, 0, Nat.zero_le _, rfl, .inl rfl, rfl, Blk.new _ _ _, (by (repeat (first | with_reducible exact Below.refl _ _ | with_reducible assumption | with_reducible apply bel_alloc | with_reducible apply bel_drew | with_reducible apply bel_drewN | ((with_reducible refine bel_set ?_ ?_); rotate_left; (simp <;> omega)) | (with_reducible refine bel_trans ?_ (by with_reducible assumption)))))⟩
  case round =>
    obtain ⟨k, x, y, hk, rfl, h0, hd, hB, hb⟩ := hrel
    have c1 : wr.cell? ⟨w.heap.size, 0, none⟩ = some (.int .i64 x) := by simpa using hB.cell 0
    have c2 : wr.cell? ⟨w.heap.size, 1, none⟩ = some (.int .i64 y) := by simpa using hB.cell 1
    have hg := hB.lt
    have n1 := World.new_ne wr _ c1
    by_cases h40 : s.size ≤ 40
    · by_cases hlt : k < s.size
      · have ee := end_step s k hlt (0, 0) (x, y) hd
        have HE := Lib.hid ee
        clear ee hd h0
        have hi0 : (0 : Int) ≤ (k : Int) := by omega
        have hi1 : (k : Int) < (s.size : Int) := by omega
        go_upto_region 5 with fail
        go_cut [5, 6] (fun s5 s6 wx => ∃ (q : Nat), s5 = .pointer (some ⟨q, 0, none⟩) ∧ s6 = .bool (stepW (x, y) s[k]).isSome ∧ wr.heap.size ≤ q ∧ Blk wx q 52 #[.int .i64 ((stepW (x, y) s[k]).getD (x, y)).1, .int .i64 ((stepW (x, y) s[k]).getD (x, y)).2] ∧ Below wr.heap.size wr wx)
        case first =>
          go_region_held3 (fun w' => w'.cell? ⟨w.heap.size, 0, none⟩ = some (.int .i64 x) ∧ w'.cell? ⟨w.heap.size, 1, none⟩ = some (.int .i64 y))
            ((go_split_ands; (try dsimp only); (repeat' (with_reducible apply And.intro)) <;> (repeat (first | with_reducible assumption | with_reducible apply keep_alloc | with_reducible apply keep_drew | with_reducible refine keep_below hb1 ?_ | ((with_reducible refine keep_set ?_ ?_); rotate_left; (simp <;> omega))))))
            (first | (go_at_call 38; refine (l26Step_s _ _ _ _).mono ?_; rintro e w' ⟨rfl, hb1⟩; obtain ⟨hc1, hf1⟩ := bcell hb1))
          all_goals go_wp2_with fail
          all_goals go_meet
          all_goals first
            | exact ⟨_, rfl, rfl, by have := hb1.size; simpa using this, Blk.new _ _ _, (by (repeat (first | with_reducible exact Below.refl _ _ | with_reducible assumption | with_reducible apply bel_alloc | with_reducible apply bel_drew | with_reducible apply bel_drewN | ((with_reducible refine bel_set ?_ ?_); rotate_left; (simp <;> omega)) | (with_reducible refine bel_trans ?_ (by with_reducible assumption)))))⟩
            | exact ⟨_, rfl, rfl, Nat.le_refl _, blk_set2 hb1, (by (repeat (first | with_reducible exact Below.refl _ _ | with_reducible assumption | with_reducible apply bel_alloc | with_reducible apply bel_drew | with_reducible apply bel_drewN | ((with_reducible refine bel_set ?_ ?_); rotate_left; (simp <;> omega)) | (with_reducible refine bel_trans ?_ (by with_reducible assumption)))))⟩
        case rest =>
          obtain ⟨q, rfl, rfl, hq, hB2, hb2⟩ := hcut
          have b1 := hB2.cell 0
          have b2 := hB2.cell 1
          simp at b1 b2
          have hB3 := hB.below hb2
          have d1 : wc.cell? ⟨w.heap.size, 0, none⟩ = some (.int .i64 x) := by simpa using hB3.cell 0
          have d2 : wc.cell? ⟨w.heap.size, 1, none⟩ = some (.int .i64 y) := by simpa using hB3.cell 1
          have f1 := hB3.frozen 0
          have f2 := hB3.frozen 1
          have hne : q ≠ w.heap.size := by omega
          have HB := Lib.hid hB
          clear hB2 hB c1 c2
          cases hst : stepW (x, y) s[k] with
          | none =>
            have HF := Lib.hid (closedW_none (end_none_of_take (HE.out.trans hst)))
            simp only [hst] at b1 b2 ⊢
            clear hst
            go_wp2
            go_ret
            exact ⟨by rw [HF.out]; rfl, (by (repeat (first | with_reducible exact Below.refl _ _ | with_reducible assumption | with_reducible apply bel_alloc | with_reducible apply bel_drew | with_reducible apply bel_drewN | ((with_reducible refine bel_set ?_ ?_); rotate_left; (simp <;> omega)) | (with_reducible refine bel_trans ?_ (by with_reducible assumption)))))⟩
          | some d =>
            simp only [hst, Option.getD_some, Option.isSome_some] at b1 b2 ⊢
            have HS := Lib.hid hst
            clear hst
            go_wp2
            exact ⟨⟨k + 1, d.1, d.2, by omega, by go_num, .inr h40, by rw [HE.out, HS.out], by simpa using (hB3.set_ 0 (.int .i64 d.1)).set_ 1 (.int .i64 d.2), (by (repeat (first | with_reducible exact Below.refl _ _ | with_reducible assumption | with_reducible apply bel_alloc | with_reducible apply bel_drew | with_reducible apply bel_drewN | ((with_reducible refine bel_set ?_ ?_); rotate_left; (simp <;> omega)) | (with_reducible refine bel_trans ?_ (by with_reducible assumption)))))⟩, by simp [intOf]; omega⟩
      · have hkk : k = s.size := by omega
        subst hkk
        rw [take_all] at hd
        have HC := Lib.hid (closedW_of h40 _ hd)
        clear hd
        go_wp2
        go_ret
        exact ⟨by rw [HC.out]; rfl, (by (repeat (first | with_reducible exact Below.refl _ _ | with_reducible assumption | with_reducible apply bel_alloc | with_reducible apply bel_drew | with_reducible apply bel_drewN | ((with_reducible refine bel_set ?_ ?_); rotate_left; (simp <;> omega)) | (with_reducible refine bel_trans ?_ (by with_reducible assumption)))))⟩
    · have HC := Lib.hid (closedW_far h40)
      have hlt : ¬ (s.size : Int) ≤ 40 := by omega
      by_cases hlt2 : k < s.size
      · go_wp2
        go_ret
        exact ⟨by rw [HC.out]; rfl, (by (repeat (first | with_reducible exact Below.refl _ _ | with_reducible assumption | with_reducible apply bel_alloc | with_reducible apply bel_drew | with_reducible apply bel_drewN | ((with_reducible refine bel_set ?_ ?_); rotate_left; (simp <;> omega)) | (with_reducible refine bel_trans ?_ (by with_reducible assumption)))))⟩
      · go_wp2
        go_ret
        exact ⟨by rw [HC.out]; rfl, (by (repeat (first | with_reducible exact Below.refl _ _ | with_reducible assumption | with_reducible apply bel_alloc | with_reducible apply bel_drew | with_reducible apply bel_drewN | ((with_reducible refine bel_set ?_ ?_); rotate_left; (simp <;> omega)) | (with_reducible refine bel_trans ?_ (by with_reducible assumption)))))⟩
end Go.Proofs.YtcgohceakjjlhaaDoor
