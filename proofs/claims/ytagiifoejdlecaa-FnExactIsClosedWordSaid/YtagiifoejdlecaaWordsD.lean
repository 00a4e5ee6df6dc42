/- What the program's and the reference's functions on the area of a word do: walks. -/
import Derived.Test.YtagiifoejdlecaaWordsC
import Derived.Outline
import Derived.WalkLawsBesides
import Derived.WalkSpells
import Derived.BigQuiet
import Derived.Deep.QuietTactic
import Derived.Deep.RegionHeld3
import Derived.Deep.DeepCutAuto
import Derived.Deep.CutBlock
import Derived.Deep.DrawnRows
namespace Go.Proofs.Ytagiifoejdlecaa
open Go.RowKit
set_option linter.unusedVariables false
attribute [local go_sem ↓] Go.wp_at_zero Go.wp_at_succ


set_option maxHeartbeats 400000 in
theorem AreaOfWord_i (s : ByteArray) (w : World) (hm : s.size ≤ maxLen) : Calls Try.prog 22 #[.string s] w (Ret w (areaV s)) := by
  by_cases hcl : closedW s.data.toList = true
  · obtain ⟨h40, hend⟩ := closedW_yes hcl
    obtain ⟨l, hl⟩ : ∃ l, wayW (0, 0) s.data.toList = some l := by
      cases hw : wayW (0, 0) s.data.toList with
      | some l => exact ⟨l, rfl⟩
      | none => rw [wayW_none.1 hw] at hend; cases hend
    have hlen := wayW_len hl
    rw [data_len] at hlen
    have key : ∀ e w', ClosedP s w e w' → ∃ A n c, e = .returned (.tuple #[.slice A n c, .bool true]) ∧ w'.ownsRow w.heap.size 48 2 (.slice A n c) n (vC l) ∧ Below w.heap.size w w' := by
      intro e w' h
      unfold ClosedP at h
      rw [if_pos h40, hl] at h
      obtain ⟨A, n, c, rfl, ho, hb⟩ := h
      exact ⟨A, n, c, by rw [hcl], ho, hb⟩
    have K := Lib.hid key
    have HL := Lib.hid hl
    have HC := Lib.hid hcl
    have HN := Lib.hid hlen
    clear key hl hcl hlen hend
    go_enter Try.func22, Try.ntmps22
    go_wp2_with (go_at_call 31; refine (closedWay_i _ _ hm).mono ?_; intro e w' h; obtain ⟨A, n, c, rfl, hown, hb1⟩ := K.out e w' h; clear h)
    have hn : n = s.size + 1 := by have := own_len hown; rw [vC_length, HN.out] at this; omega
    have hrd := Rd.of_own hown
    have hn2 : n ≤ 41 := by omega
    go_loopw [6, 7, 17] (fun t _ i wr => ∃ k : Nat, k ≤ s.size ∧ i = .int .i64 k ∧ t = .int .i64 (areaW (0, 0) (s.data.toList.take k) 0) ∧ wr = w') (fun _ _ i _ => s.size - (intOf i).toNat)
    case atStart => exact ⟨0, Nat.zero_le _, rfl, rfl, rfl⟩
    case round =>
      obtain ⟨k, hk, rfl, rfl, rfl⟩ := hrel
      by_cases hlt : k < s.size
      · have hlk : k < l.length := by rw [HN.out]; omega
        have hnk : k < n := by omega
        obtain ⟨g, off, rfl, hgw, c1, c2⟩ := RdC.at_ hrd hlk
        have hd := way_at HL.out k (by rw [data_len]; omega)
        rw [List.getD_eq_getElem?_getD, List.getElem?_eq_getElem hlk] at hd
        have ha := Lib.hid (area_step s k hlt (0, 0) _ 0 hd)
        obtain ⟨x, y, hxy⟩ : ∃ x y, l[k] = (x, y) := ⟨_, _, rfl⟩
        rw [hxy] at c1 c2
        have HX := Lib.hid hxy
        have HM := Lib.hid hn
        generalize hA : areaW (0, 0) (List.take k s.data.toList) 0 = a
        have HA := Lib.hid hA
        clear hd hxy hA hn hrd
        by_cases e1 : s[k] = 108
        · have E1 := Lib.hid e1
          have e2 : ((s[k].toNat : Int) == 108) = true := by rw [e1]; rfl
          clear e1
          go_wp2
          have hn := HM.out
          exact ⟨⟨k + 1, by omega, by go_num, by rw [ha.out, HA.out, HX.out]; simp [areaS, E1.out], trivial⟩, by simp [intOf]; omega⟩
        · by_cases e2 : s[k] = 114
          · have E1 := Lib.hid e2
            have e3 : ((s[k].toNat : Int) == 108) = false := by rw [e2]; rfl
            have e4 : ((s[k].toNat : Int) == 114) = true := by rw [e2]; rfl
            clear e1 e2
            go_wp2
            have hn := HM.out
            exact ⟨⟨k + 1, by omega, by go_num, by rw [ha.out, HA.out, HX.out]; simp [areaS, E1.out], trivial⟩, by simp [intOf]; omega⟩
          · have e3 : ((s[k].toNat : Int) == 108) = false := (u8_is _ 108).trans (by simpa using e1)
            have e4 : ((s[k].toNat : Int) == 114) = false := (u8_is _ 114).trans (by simpa using e2)
            have E1 := Lib.hid e1
            have E2 := Lib.hid e2
            clear e1 e2
            go_wp2
            have hn := HM.out
            exact ⟨⟨k + 1, by omega, by go_num, by rw [ha.out, HA.out]; simp [areaS, E1.out, E2.out], trivial⟩, by simp [intOf]; omega⟩
      · have hkk : k = s.size := by omega
        subst hkk
        rw [take_all]
        go_wp2
        go_ret2
        exact ⟨by unfold areaV; rw [if_pos HC.out]; rfl, (by (repeat (first | with_reducible exact Below.refl _ _ | with_reducible assumption | with_reducible apply bel_alloc | with_reducible apply bel_drew | with_reducible apply bel_drewN | (with_reducible refine bel_set ?_ ?_; rotate_left; (simp <;> omega)) | (with_reducible refine bel_trans ?_ (by with_reducible assumption)))))⟩
  · have key : ∀ e w', ClosedP s w e w' → ∃ A n c, e = .returned (.tuple #[.slice A n c, .bool false]) ∧ Below w.heap.size w w' := by
      intro e w' h
      have hcf : closedW s.data.toList = false := by simpa using hcl
      unfold ClosedP at h
      split at h
      · obtain ⟨rfl, hb⟩ := h; exact ⟨_, _, _, rfl, hb⟩
      · obtain ⟨A, n, c, rfl, ho, hb⟩ := h
        exact ⟨A, n, c, by rw [hcf], hb⟩
    have K := Lib.hid key
    have HV : Hid (areaV s = .tuple #[.int .i64 0, .bool false]) := if_neg hcl
    clear key hcl
    go_enter Try.func22, Try.ntmps22
    go_wp2_with (go_at_call 31; refine (closedWay_i _ _ hm).mono ?_; intro e w' h; obtain ⟨A, n, c, rfl, hb1⟩ := K.out e w' h; clear h)
    go_ret2
    exact ⟨by rw [HV.out]; rfl, (by (repeat (first | with_reducible exact Below.refl _ _ | with_reducible assumption | with_reducible apply bel_alloc | with_reducible apply bel_drew | with_reducible apply bel_drewN | (with_reducible refine bel_set ?_ ?_; rotate_left; (simp <;> omega)) | (with_reducible refine bel_trans ?_ (by with_reducible assumption)))))⟩

set_option maxHeartbeats 400000 in
theorem AreaOfWord_s (s : ByteArray) (w : World) (hm : s.size ≤ maxLen) : Calls Try.prog 21 #[.string s] w (Ret w (areaV s)) := by
  by_cases hcl : closedW s.data.toList = true
  · obtain ⟨h40, hend⟩ := closedW_yes hcl
    have HV : Hid (areaV s = .tuple #[.int .i64 (areaW (0, 0) s.data.toList 0), .bool true]) := if_pos hcl
    have HC := Lib.hid hcl
    have HE := Lib.hid hend
    clear hcl hend
    go_enter Try.func21, Try.ntmps21
    go_wp2_with (go_at_call 11; refine (IsClosedWord_s _ _ hm).mono ?_; rw [HC.out]; rintro e w1 ⟨rfl, hb1⟩)
    go_loopw [5, 6] (fun t i wr => ∃ (k : Nat) (x y : Int), k ≤ s.size ∧ i = .int .i64 k ∧ t = .int .i64 (areaW (0, 0) (s.data.toList.take k) 0) ∧ endW (0, 0) (s.data.toList.take k) = some (x, y) ∧ Blk wr w1.heap.size 48 #[.int .i64 x, .int .i64 y] ∧ Below w1.heap.size w1 wr) (fun _ i _ => s.size - (intOf i).toNat)
    case atStart => exact ⟨0, 0, 0, Nat.zero_le _, rfl, rfl, rfl, Blk.new _ _ _, (by (repeat (first | with_reducible exact Below.refl _ _ | with_reducible assumption | with_reducible apply bel_alloc | with_reducible apply bel_drew | with_reducible apply bel_drewN | (with_reducible refine bel_set ?_ ?_; rotate_left; (simp <;> omega)) | (with_reducible refine bel_trans ?_ (by with_reducible assumption)))))⟩
    case round =>
      obtain ⟨k, x, y, hk, rfl, rfl, hd, hB, hb⟩ := hrel
      have c1 : wr.cell? ⟨w1.heap.size, 0, none⟩ = some (.int .i64 x) := by simpa using hB.cell 0
      have c2 : wr.cell? ⟨w1.heap.size, 1, none⟩ = some (.int .i64 y) := by simpa using hB.cell 1
      have f1 := hB.frozen 0
      have f2 := hB.frozen 1
      have hg := hB.lt
      by_cases hlt : k < s.size
      · have ha := Lib.hid (area_step s k hlt (0, 0) _ 0 hd)
        have ee := Lib.hid (end_step s k hlt (0, 0) _ hd)
        obtain ⟨d, hst⟩ := end_take HE.out (k + 1)
        rw [ee.out] at hst
        have HS := Lib.hid hst
        have hi0 : (0 : Int) ≤ (k : Int) := by omega
        have hi1 : (k : Int) < (s.size : Int) := by omega
        generalize hA : areaW (0, 0) (List.take k s.data.toList) 0 = a
        have HA := Lib.hid hA
        clear hd hA hst
        go_upto_block 2 with (fail)
        go_cut [5] (fun s5 wx => s5 = .int .i64 (areaS a s[k] (x, y)) ∧ wx = wr)
        case first =>
          by_cases e1 : s[k] = 114
          · have E1 := Lib.hid e1
            have e2 : ((s[k].toNat : Int) == 114) = true := by rw [e1]; rfl
            clear e1
            go_wp2_with fail
            go_meet
            exact ⟨by simp [areaS, E1.out], rfl⟩
          · by_cases e2 : s[k] = 108
            · have E1 := Lib.hid e2
              have e3 : ((s[k].toNat : Int) == 114) = false := by rw [e2]; rfl
              have e4 : ((s[k].toNat : Int) == 108) = true := by rw [e2]; rfl
              clear e1 e2
              go_wp2_with fail
              go_meet
              exact ⟨by simp [areaS, E1.out], rfl⟩
            · have e3 : ((s[k].toNat : Int) == 114) = false := (u8_is _ 114).trans (by simpa using e1)
              have e4 : ((s[k].toNat : Int) == 108) = false := (u8_is _ 108).trans (by simpa using e2)
              have E1 := Lib.hid e1
              have E2 := Lib.hid e2
              clear e1 e2
              go_wp2_with fail
              go_meet
              exact ⟨by simp [areaS, E1.out, E2.out], rfl⟩
        case rest =>
          obtain ⟨rfl, rfl⟩ := hcut
          go_wp2_with fail
          go_region_with (go_at_call 30; refine (l26Step_s _ _ _ _).mono ?_; rintro e w' ⟨rfl, hb2⟩; simp only [HS.out, Option.getD_some, Option.isSome_some]; have k1 := keep_below hb2 c1; have k2 := keep_below hb2 c2; have k3 := (hb2.frozen (p := ⟨w1.heap.size, 0, none⟩) hg).trans f1; have k4 := (hb2.frozen (p := ⟨w1.heap.size, 1, none⟩) hg).trans f2)
          all_goals go_wp2
          all_goals exact ⟨⟨k + 1, d.1, d.2, by omega, by go_num, by rw [ha.out, HA.out], by rw [ee.out, HS.out], by simpa using ((hB.drew.below hb2).set_ 0 (.int .i64 d.1)).set_ 1 (.int .i64 d.2), (by (repeat (first | with_reducible exact Below.refl _ _ | with_reducible assumption | with_reducible apply bel_alloc | with_reducible apply bel_drew | with_reducible apply bel_drewN | (with_reducible refine bel_set ?_ ?_; rotate_left; (simp <;> omega)) | (with_reducible refine bel_trans ?_ (by with_reducible assumption)))))⟩, by simp [intOf]; omega⟩
      · have hkk : k = s.size := by omega
        subst hkk
        rw [take_all]
        go_wp2
        go_ret2
        exact ⟨by rw [HV.out]; rfl, (by (repeat (first | with_reducible exact Below.refl _ _ | with_reducible assumption | with_reducible apply bel_alloc | with_reducible apply bel_drew | with_reducible apply bel_drewN | (with_reducible refine bel_set ?_ ?_; rotate_left; (simp <;> omega)) | (with_reducible refine bel_trans ?_ (by with_reducible assumption)))))⟩
  · have HV : Hid (areaV s = .tuple #[.int .i64 0, .bool false]) := if_neg hcl
    have HC : Hid (closedW s.data.toList = false) := by simpa [Hid] using hcl
    clear hcl
    go_enter Try.func21, Try.ntmps21
    go_wp2_with (go_at_call 11; refine (IsClosedWord_s _ _ hm).mono ?_; rw [HC.out]; rintro e w1 ⟨rfl, hb1⟩)
    go_ret2
    exact ⟨by rw [HV.out]; rfl, (by (repeat (first | with_reducible exact Below.refl _ _ | with_reducible assumption | with_reducible apply bel_alloc | with_reducible apply bel_drew | with_reducible apply bel_drewN | (with_reducible refine bel_set ?_ ?_; rotate_left; (simp <;> omega)) | (with_reducible refine bel_trans ?_ (by with_reducible assumption)))))⟩
end Go.Proofs.Ytagiifoejdlecaa
