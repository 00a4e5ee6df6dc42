/- What the program's and the reference's functions on words of steps do: walks. -/
import Derived.Test.YtcgohceakjjlhaaDoorStep
import Derived.Outline
import Derived.WalkLawsBesides
import Derived.WalkSpells
import Derived.BigQuiet
import Derived.Deep.QuietTactic
import Derived.Deep.RegionHeld3
import Derived.Deep.DeepCutAuto
import Derived.Deep.DrawnRows
namespace Go.Proofs.YtcgohceakjjlhaaDoor
open Go.RowKit
set_option linter.unusedVariables false
attribute [local go_sem ↓] Go.wp_at_zero Go.wp_at_succ

/-- What the places of a way return: none for a letter that is no step. -/
def WayP (o : Option (List C)) (w : World) (e : Ending) (w' : World) : Prop :=
  match o with
  | none => e = .returned (.tuple #[.slice none 0 0, .bool false]) ∧ Below w.heap.size w w'
  | some l => RetS2 w 52 2 (vC l) (.bool true) e w'

set_option maxHeartbeats 400000 in
theorem wayOf_i (s : ByteArray) (m : Int) (w : World) (h0 : (s.size : Int) ≤ m) (hm : s.size ≤ 1000) :
    Calls Tryd.prog 54 #[.string s, .int .i64 m] w (WayP (wayW (0, 0) s.data.toList) w) := by
  go_enter Tryd.func54, Tryd.ntmps54
  go_wp2
  go_loopw [6, 7] (fun o i wr => ∃ (k n cap : Nat) (A : Option Addr) (l : List C) (d : C), k ≤ s.size ∧ i = .int .i64 k ∧ o = .slice A n cap ∧ n = k + 1 ∧
      wr.ownsRow w.heap.size 52 2 (.slice A n cap) n (vC l) ∧ wayW (0, 0) (s.data.toList.take k) = some l ∧ endW (0, 0) (s.data.toList.take k) = some d ∧ l.getD k (0, 0) = d ∧ Below w.heap.size w wr) (fun _ i _ => s.size - (intOf i).toNat)
  case atStart => exact ⟨0, 1, 1, _, [(0, 0)], (0, 0), by omega, rfl, rfl, rfl, own_newC w _ 0 0 (Nat.le_refl _), rfl, rfl, rfl, (by (repeat (first | with_reducible exact Below.refl _ _ | with_reducible assumption | with_reducible apply bel_alloc | with_reducible apply bel_drew | with_reducible apply bel_drewN | ((with_reducible refine bel_set ?_ ?_); rotate_left; (simp <;> omega)) | (with_reducible refine bel_trans ?_ (by with_reducible assumption)))))⟩
  case round =>
    obtain ⟨k, n, cap, A, l, ⟨x, y⟩, hk, rfl, rfl, hnk, hown, hl, hd, hgd, hb⟩ := hrel
    have hlen := own_len hown
    rw [vC_length] at hlen
    by_cases hlt : k < s.size
    · have hlk : k < l.length := by omega
      obtain ⟨g, off, rfl, hgw, c1, c2⟩ := RdC.at_ (Rd.of_own hown) hlk
      have hdk : l[k] = (x, y) := by rw [← hgd, List.getD_eq_getElem?_getD, List.getElem?_eq_getElem hlk]; rfl
      rw [hdk] at c1 c2
      have ew := way_step s k hlt (0, 0) (x, y) l hl hd
      have ee := end_step s k hlt (0, 0) (x, y) hd
      have hi0 : (0 : Int) ≤ (k : Int) := by omega
      have hi1 : (k : Int) < (s.size : Int) := by omega
      have hi2 : (k : Int) < (n : Int) := by omega
      have hi3 : k < n := by omega
      have hi4 : n ≤ 1001 := by omega
      have n1 := World.new_ne wr _ c1
      have HL := Lib.hid hl; have HD := Lib.hid hd; have HG := Lib.hid hgd; have HK := Lib.hid hdk; have HW := Lib.hid ew; have HE := Lib.hid ee; have HN := Lib.hid hlen; have HM := Lib.hid hnk
      clear hl hd hgd hdk ew ee hlen hnk
      go_upto_region 7 with fail
      go_cut [8, 9] (fun s8 s9 wx => ∃ (q : Nat), s8 = .pointer (some ⟨q, 0, none⟩) ∧ s9 = .bool (stepW (x, y) s[k]).isSome ∧ wr.heap.size ≤ q ∧ Blk wx q 52 #[.int .i64 ((stepW (x, y) s[k]).getD (x, y)).1, .int .i64 ((stepW (x, y) s[k]).getD (x, y)).2] ∧ Below wr.heap.size wr wx)
      case first =>
        go_region_held3 (fun w' => w'.cell? ⟨g, off + k * 2, none⟩ = some (.int .i64 x) ∧ w'.cell? ⟨g, off + k * 2 + 1, none⟩ = some (.int .i64 y))
          ((go_split_ands; (try dsimp only); (repeat' (with_reducible apply And.intro)) <;> (repeat (first | with_reducible assumption | with_reducible apply keep_alloc | with_reducible apply keep_drew | with_reducible refine keep_below hb1 ?_ | ((with_reducible refine keep_set ?_ ?_); rotate_left; (simp <;> omega))))))
          (first | (go_at_call 72; refine (stepFrom_i _ _ _ _).mono ?_; rintro e w' ⟨rfl, hb1⟩; obtain ⟨hc1, hf1⟩ := bcell hb1))
        all_goals go_wp2_with fail
        all_goals go_meet
        all_goals first
          | exact ⟨_, rfl, rfl, by have := hb1.size; simpa using this, Blk.new _ _ _, (by (repeat (first | with_reducible exact Below.refl _ _ | with_reducible assumption | with_reducible apply bel_alloc | with_reducible apply bel_drew | with_reducible apply bel_drewN | ((with_reducible refine bel_set ?_ ?_); rotate_left; (simp <;> omega)) | (with_reducible refine bel_trans ?_ (by with_reducible assumption)))))⟩
          | exact ⟨_, rfl, rfl, Nat.le_refl _, blk_set2 hb1, (by (repeat (first | with_reducible exact Below.refl _ _ | with_reducible assumption | with_reducible apply bel_alloc | with_reducible apply bel_drew | with_reducible apply bel_drewN | ((with_reducible refine bel_set ?_ ?_); rotate_left; (simp <;> omega)) | (with_reducible refine bel_trans ?_ (by with_reducible assumption)))))⟩
      case rest =>
        obtain ⟨q, rfl, rfl, hq, hB, hb2⟩ := hcut
        have b1 := hB.cell 0
        have b2 := hB.cell 1
        simp at b1 b2
        clear hB
        cases hst : stepW (x, y) s[k] with
        | none =>
          have HF := Lib.hid (wayW_none.2 (end_none_of_take (HE.out.trans hst)))
          simp only [hst] at b1 b2 ⊢
          clear hst
          go_wp2
          go_ret2
          rw [HF.out]
          exact ⟨rfl, (by (repeat (first | with_reducible exact Below.refl _ _ | with_reducible assumption | with_reducible apply bel_alloc | with_reducible apply bel_drew | with_reducible apply bel_drewN | ((with_reducible refine bel_set ?_ ?_); rotate_left; (simp <;> omega)) | (with_reducible refine bel_trans ?_ (by with_reducible assumption)))))⟩
        | some d =>
          simp only [hst, Option.getD_some, Option.isSome_some] at b1 b2 ⊢
          have HS := Lib.hid hst
          clear hst
          go_wp2_with ((at_builtin; go_must (refine app_C _ rfl _ _ rfl w.heap.size _ _ _ l rfl ((own_keep hown hb2).alloc _) _ _ _ [(d.1, d.2)] rfl (rd_newC _ _ _ _) rfl (by omega) (by have := hb.size; have := hb2.size; simp; omega) ?_); intro A' c' w' hown' hg' hat'))
          have e1 : wayW (0, 0) (s.data.toList.take (k + 1)) = some (l ++ [d]) := by rw [HW.out, HS.out]; rfl
          have e2 : endW (0, 0) (s.data.toList.take (k + 1)) = some d := by rw [HE.out, HS.out]
          have e3 : (l ++ [d]).getD (k + 1) (0, 0) = d := by
            have := HN.out; have := HM.out
            rw [List.getD_eq_getElem?_getD, List.getElem?_append_right (by omega), show k + 1 - l.length = 0 from by omega]; rfl
          exact ⟨⟨k + 1, n + 1, c', A', l ++ [d], d, by omega, by go_num, rfl, by have := HM.out; omega, hown', e1, e2, e3, bel_app (bel_alloc (bel_trans hb hb2) _) hg' (fun g' hg1 => ((own_lt hown) g' hg1).1)⟩, by simp [intOf]; omega⟩
    · have hkk : k = s.size := by omega
      subst hkk
      rw [take_all] at hl hd
      have HL := Lib.hid hl
      clear hl hd hgd hlen hnk
      go_wp2
      go_ret2
      rw [HL.out]
      exact ⟨A, n, cap, rfl, hown, hb⟩

theorem wayOf_far (s : ByteArray) (m : Int) (w : World) (h0 : m < (s.size : Int)) (hm : s.size ≤ maxLen) :
    Calls Tryd.prog 54 #[.string s, .int .i64 m] w (WayP none w) := by
  unfold maxLen at hm
  go_enter Tryd.func54, Tryd.ntmps54
  go_wp2
  go_ret2
  exact ⟨rfl, (by (repeat (first | with_reducible exact Below.refl _ _ | with_reducible assumption | with_reducible apply bel_alloc | with_reducible apply bel_drew | with_reducible apply bel_drewN | ((with_reducible refine bel_set ?_ ?_); rotate_left; (simp <;> omega)) | (with_reducible refine bel_trans ?_ (by with_reducible assumption)))))⟩
end Go.Proofs.YtcgohceakjjlhaaDoor
