/- What the program's and the reference's functions on the way back do: walks. -/
import Derived.Test.YtagiifoejdlecaaWords
import Derived.Test.YtagiifoejdlecaaAppB
import Derived.Outline
import Derived.WalkLawsBesides
import Derived.WalkSpells
import Derived.BigQuiet
import Derived.Deep.QuietTactic
import Derived.Deep.RegionHeld3
import Derived.Deep.DeepCutAuto
import Derived.Deep.CutBlock
import Derived.Deep.DrawnRows
namespace Go.Proofs.Ytagiifoejdlecaa
open Go.RowKit
set_option linter.unusedVariables false
attribute [local go_sem ↓] Go.wp_at_zero Go.wp_at_succ



theorem stepOf_i (a b c d : Int) (w : World) : Calls Try.prog 34 #[.agg #[.int .i64 a, .int .i64 b], .agg #[.int .i64 c, .int .i64 d]] w (Ret w (.int .u8 (stepV (a, b) (c, d)).toNat)) := by
  by_cases h1 : a < c
  · have HV := Lib.hid (show stepV (a, b) (c, d) = 114 by unfold stepV; simp only [gt_iff_lt, h1, if_true])
    go_enter Try.func34, Try.ntmps34
    go_wp2
    go_ret
    exact ⟨by rw [HV.out]; rfl, (by (repeat (first | with_reducible exact Below.refl _ _ | with_reducible assumption | with_reducible apply bel_alloc | with_reducible apply bel_drew | with_reducible apply bel_drewN | ((with_reducible refine bel_set ?_ ?_); rotate_left; (simp <;> omega)) | (with_reducible refine bel_trans ?_ (by with_reducible assumption)))))⟩
  by_cases h2 : c < a
  · have HV := Lib.hid (show stepV (a, b) (c, d) = 108 by unfold stepV; simp only [gt_iff_lt, h1, h2, if_true, if_false])
    go_enter Try.func34, Try.ntmps34
    go_wp2
    go_ret
    exact ⟨by rw [HV.out]; rfl, (by (repeat (first | with_reducible exact Below.refl _ _ | with_reducible assumption | with_reducible apply bel_alloc | with_reducible apply bel_drew | with_reducible apply bel_drewN | ((with_reducible refine bel_set ?_ ?_); rotate_left; (simp <;> omega)) | (with_reducible refine bel_trans ?_ (by with_reducible assumption)))))⟩
  by_cases h3 : b < d
  · have HV := Lib.hid (show stepV (a, b) (c, d) = 100 by unfold stepV; simp only [gt_iff_lt, h1, h2, h3, if_true, if_false])
    go_enter Try.func34, Try.ntmps34
    go_wp2
    go_ret
    exact ⟨by rw [HV.out]; rfl, (by (repeat (first | with_reducible exact Below.refl _ _ | with_reducible assumption | with_reducible apply bel_alloc | with_reducible apply bel_drew | with_reducible apply bel_drewN | ((with_reducible refine bel_set ?_ ?_); rotate_left; (simp <;> omega)) | (with_reducible refine bel_trans ?_ (by with_reducible assumption)))))⟩
  · have HV := Lib.hid (show stepV (a, b) (c, d) = 117 by unfold stepV; simp only [gt_iff_lt, h1, h2, h3, if_false])
    go_enter Try.func34, Try.ntmps34
    go_wp2
    go_ret
    exact ⟨by rw [HV.out]; rfl, (by (repeat (first | with_reducible exact Below.refl _ _ | with_reducible assumption | with_reducible apply bel_alloc | with_reducible apply bel_drew | with_reducible apply bel_drewN | ((with_reducible refine bel_set ?_ ?_); rotate_left; (simp <;> omega)) | (with_reducible refine bel_trans ?_ (by with_reducible assumption)))))⟩

set_option maxHeartbeats 800000 in
theorem ReverseWord_i (s : ByteArray) (w : World) (hm : s.size ≤ maxLen) : Calls Try.prog 20 #[.string s] w (Ret w (revV s)) := by
  by_cases h20 : s.size ≤ 20
  · cases hw : wayW (0, 0) s.data.toList with
    | none =>
      have hall := wayW_all (c := (0, 0)) (w := s.data.toList)
      rw [hw] at hall
      have HV : Hid (revV s = .tuple #[.string (bs []), .bool false]) := if_neg (by rw [← hall]; simp)
      have HW := Lib.hid hw
      clear hw hall
      go_enter Try.func20, Try.ntmps20
      go_wp2_with (go_at_call 33; refine (wayOf_i _ _ _ (by omega) (by omega)).mono ?_; rw [HW.out]; rintro e w' ⟨rfl, hb1⟩)
      go_ret2
      exact ⟨by rw [HV.out]; rfl, (by (repeat (first | with_reducible exact Below.refl _ _ | with_reducible assumption | with_reducible apply bel_alloc | with_reducible apply bel_drew | with_reducible apply bel_drewN | ((with_reducible refine bel_set ?_ ?_); rotate_left; (simp <;> omega)) | (with_reducible refine bel_trans ?_ (by with_reducible assumption)))))⟩
    | some l =>
      have hall := wayW_all (c := (0, 0)) (w := s.data.toList)
      rw [hw] at hall
      have HV : Hid (revV s = .tuple #[.string (bs (revW s.data.toList)), .bool true]) := if_pos ⟨h20, by rw [← hall]; rfl⟩
      have hlen := wayW_len hw
      rw [data_len] at hlen
      have HW := Lib.hid hw
      have HN := Lib.hid hlen
      clear hw hall hlen
      go_enter Try.func20, Try.ntmps20
      go_wp2_with (go_at_call 33; refine (wayOf_i _ _ _ (by omega) (by omega)).mono ?_; rw [HW.out]; rintro e w1 ⟨A, n, c, rfl, hown, hb1⟩)
      have hn : n = s.size + 1 := by have := own_len hown; rw [vC_length, HN.out] at this; omega
      have hrd := Rd.of_own hown
      have hn2 : n ≤ 21 := by omega
      have hs1 : (n : Int) - 1 = (s.size : Int) := by omega
      have HM := Lib.hid hn
      have HS1 := Lib.hid hs1
      clear hn hs1
      go_loopw [6, 7] (fun o i wr => ∃ (k m cap : Nat) (A' : Option Addr), k ≤ s.size ∧ i = .int .i64 k ∧ o = .slice A' m cap ∧ m = s.size - k ∧
        wr.ownsRow w1.heap.size 5 1 (.slice A' m cap) m (vB (revW (s.data.toList.drop k))) ∧ Below w1.heap.size w1 wr) (fun _ i _ => (intOf i).toNat)
      case atStart =>
        have hn := HM.out
        refine ⟨s.size, 0, 0, none, Nat.le_refl _, ?_, rfl, by omega, ?_, Below.refl _ _⟩
        · rw [HS1.out, IntWalk.wrap64_in _ (by omega)]
        · rw [List.drop_of_length_le (by rw [data_len]; exact Nat.le_refl _)]; exact own_nil _ _ _ _
      case round =>
        obtain ⟨k, m, cap, A', hk, rfl, rfl, hmk, hown2, hb⟩ := hrel
        by_cases hk0 : 0 < k
        · obtain ⟨j, hjk⟩ : ∃ j, k = j + 1 := ⟨k - 1, by omega⟩
          have hjs : j < s.size := by omega
          have hl1 : j < l.length := by rw [HN.out]; omega
          have hl2 : k < l.length := by rw [HN.out]; omega
          obtain ⟨g, off, rfl, hgw, c1, c2⟩ := RdC.at_ (hrd.below hb) hl1
          obtain ⟨g', off', hgg, _, d1, d2⟩ := RdC.at_ (hrd.below hb) hl2
          obtain ⟨rfl, rfl⟩ : g = g' ∧ off = off' := by injection hgg with h; injection h with h1 h2; exact ⟨h1, h2⟩
          have he1 := way_at HW.out j (by rw [data_len]; omega)
          have he2 := way_at HW.out k (by rw [data_len]; omega)
          rw [List.getD_eq_getElem?_getD, List.getElem?_eq_getElem hl1] at he1
          rw [List.getD_eq_getElem?_getD, List.getElem?_eq_getElem hl2] at he2
          have hst := end_step s j hjs (0, 0) _ he1
          rw [← hjk, he2] at hst
          obtain ⟨x, y, hxy⟩ : ∃ x y, l[j] = (x, y) := ⟨_, _, rfl⟩
          obtain ⟨x', y', hxy'⟩ : ∃ x y, l[k] = (x, y) := ⟨_, _, rfl⟩
          rw [hxy] at c1 c2
          rw [hxy'] at d1 d2
          simp only [Option.getD_some, hxy, hxy'] at hst he1
          have hbd := endW_bound he1 0 (by rw [List.length_take, data_len]; omega) (by simp)
          rw [List.length_take, data_len] at hbd
          have hop := stepV_back hst.symm (by simp only at hbd; omega) (by simp only at hbd; omega)
          have hrv := revW_drop s j hjs
          rw [← hop, ← hjk] at hrv
          have HR := Lib.hid hrv
          have HMK := Lib.hid hmk
          have HJ := Lib.hid hjk
          have n1 := World.new_ne wr _ c1
          have hgw1 : g < w1.heap.size := (own_lt hown g rfl).2
          have hm20 : m ≤ 20 := by omega
          have hi0 : (0 : Int) ≤ (k : Int) := by omega
          have hi1 : (k : Int) < (n : Int) := by have := HM.out; omega
          have hi2 : (k : Int) - 1 < (n : Int) := by omega
          have hi3 : ((k : Int) - 1).toNat = j := by omega
          have hi4 : (0 : Int) ≤ (k : Int) - 1 := by omega
          have hi6 : (1 : Int) ≤ (k : Int) := by omega
          have hi7 : 1 ≤ k := by omega
          have hi8 : (k : Int) < (n : Int) + 1 := by omega
          have hi5 : IntKind.i64.wrap ((k : Int) - 1) = (k : Int) - 1 := IntWalk.i64_in _ (by omega)
          clear hbd he1 he2 hst hxy hxy' hop hrv hmk hgg hjk
          go_wp2_with fail
          go_region_held3 (fun w' => w'.cell? ⟨g, off + j * 2, none⟩ = some (.int .i64 x) ∧ w'.cell? ⟨g, off + j * 2 + 1, none⟩ = some (.int .i64 y) ∧ w'.cell? ⟨g, off + k * 2, none⟩ = some (.int .i64 x') ∧ w'.cell? ⟨g, off + k * 2 + 1, none⟩ = some (.int .i64 y'))
            ((go_split_ands; (try dsimp only); (repeat' (with_reducible apply And.intro)) <;> (repeat (first | with_reducible assumption | with_reducible apply keep_alloc | with_reducible apply keep_drew | with_reducible refine keep_below hb2 ?_ | ((with_reducible refine keep_grown hg2 ?_ ?_); rotate_left; (intro h; have hq := (own_lt hown2 _ h.symm).1; simp at hq; omega)) | ((with_reducible refine keep_set ?_ ?_); rotate_left; (simp <;> omega))))))
            (first | (go_at_call 34; refine (stepOf_i _ _ _ _ _).mono ?_; rintro e w' ⟨rfl, hb2⟩) | ((refine step_B _ (by rfl) _ _ (by rfl) w1.heap.size _ _ _ (revW (s.data.toList.drop k)) (by rfl) (by exact ((own_keep (hown2.drew) hb2).alloc _)) _ 1 _ [stepV (x', y') (x, y)] (by rfl) (by exact rd_newB _ _ _) rfl (by omega) (by have h1 := hb.size; have h2 := hb2.size; simp at h2 ⊢; omega) ?_; intro A2 c2 w2 hown3 hg2 hat2)))
          go_wp2
          have hj := HJ.out
          exact ⟨⟨j, m + 1, c2, A2, by omega, by rw [show (k : Int) - 1 = (j : Int) from by omega], rfl, by have := HMK.out; omega, by rw [HR.out]; exact hown3, bel_app (bel_alloc (bel_trans (bel_drew hb) hb2) _) hg2 (fun g' hg' => ((own_lt hown2) g' hg').1)⟩, by simp [intOf]; omega⟩
        · have hk1 : k = 0 := by omega
          subst hk1
          have hcv := conv_B wr (n := m) (c := cap) (Rd.of_own hown2) (by have := own_len hown2; rw [vB_length] at this; exact this.trans (Nat.mul_one _))
          rw [List.drop_zero] at hcv
          have HMK := Lib.hid hmk
          clear hmk
          go_wp2
          go_ret2
          exact ⟨by rw [HV.out]; rfl, (by (repeat (first | with_reducible exact Below.refl _ _ | with_reducible assumption | with_reducible apply bel_alloc | with_reducible apply bel_drew | with_reducible apply bel_drewN | ((with_reducible refine bel_set ?_ ?_); rotate_left; (simp <;> omega)) | (with_reducible refine bel_trans ?_ (by with_reducible assumption)))))⟩
  · have HV : Hid (revV s = .tuple #[.string (bs []), .bool false]) := if_neg (fun h => h20 h.1)
    go_enter Try.func20, Try.ntmps20
    go_wp2_with (go_at_call 33; refine (wayOf_far _ _ _ (by omega) hm).mono ?_; rintro e w' ⟨rfl, hb1⟩)
    go_ret2
    exact ⟨by rw [HV.out]; rfl, (by (repeat (first | with_reducible exact Below.refl _ _ | with_reducible assumption | with_reducible apply bel_alloc | with_reducible apply bel_drew | with_reducible apply bel_drewN | ((with_reducible refine bel_set ?_ ?_); rotate_left; (simp <;> omega)) | (with_reducible refine bel_trans ?_ (by with_reducible assumption)))))⟩

theorem data_app (a b : ByteArray) : (a ++ b).data.toList = a.data.toList ++ b.data.toList := by simp [ByteArray.data_append]
theorem revV_far (s : ByteArray) (h : ¬ s.size ≤ 20) : revV s = .tuple #[.string (bs []), .bool false] := if_neg (fun e => h e.1)
theorem revV_bad (s : ByteArray) (h : s.data.toList.all isS = false) : revV s = .tuple #[.string (bs []), .bool false] := if_neg (fun e => by rw [h] at e; exact absurd e.2 (by simp))
theorem revV_good (s : ByteArray) (h : s.size ≤ 20) (h2 : s.data.toList.all isS = true) : revV s = .tuple #[.string (bs (revW s.data.toList)), .bool true] := if_pos ⟨h, h2⟩
theorem all_bad (s : ByteArray) (k : Nat) (h : k < s.size) (hb : isS s[k] = false) : s.data.toList.all isS = false := by
  have h1 := all_drop s k h
  rw [hb, Bool.false_and] at h1
  rw [← List.take_append_drop k s.data.toList, List.all_append, h1, Bool.and_false]

set_option maxHeartbeats 800000 in
theorem ReverseWord_s (s : ByteArray) (w : World) (hm : s.size ≤ maxLen) : Calls Try.prog 19 #[.string s] w (Ret w (revV s)) := by
  have hm' := hm
  unfold maxLen at hm'
  by_cases h20 : s.size ≤ 20
  · have hd : decide ((s.size : Int) ≤ 20) = true := by simp; omega
    go_enter Try.func19, Try.ntmps19
    go_wp2
    go_loopw [4, 5] (fun o i wr => ∃ (k : Nat) (q : ByteArray), k ≤ s.size ∧ i = .int .i64 ((k : Int) - 1) ∧ o = .string q ∧ q.data.toList = revW (s.data.toList.drop k) ∧ (s.data.toList.drop k).all isS = true ∧ Below w.heap.size w wr) (fun _ i _ => (intOf i + 1).toNat)
    case atStart => exact ⟨s.size, ⟨#[]⟩, Nat.le_refl _, rfl, rfl, by rw [List.drop_of_length_le (by rw [data_len]; exact Nat.le_refl _)]; rfl, by rw [List.drop_of_length_le (by rw [data_len]; exact Nat.le_refl _)]; rfl, Below.refl _ _⟩
    case round =>
      obtain ⟨k, q, hk, rfl, rfl, hq, hall, hb⟩ := hrel
      have hqs : q.size ≤ 20 := by
        have := congrArg List.length hq
        rw [data_len] at this
        rw [this]
        simp [revW]
        omega
      by_cases hk0 : 0 < k
      · obtain ⟨j, hjk⟩ : ∃ j, k = j + 1 := ⟨k - 1, by omega⟩
        have hjs : j < s.size := by omega
        have hrv := revW_drop s j hjs
        have hal := all_drop s j hjs
        rw [← hjk, ← hq] at hrv
        rw [← hjk, hall, Bool.and_true] at hal
        have hbad := all_bad s j hjs
        have HR := Lib.hid hrv
        have HA := Lib.hid hal
        have HB := Lib.hid hbad
        have HJ := Lib.hid hjk
        have hi3 : ((k : Int) - 1).toNat = j := by omega
        have hi4 : (0 : Int) ≤ (k : Int) - 1 := by omega
        have hi5 : (1 : Int) ≤ (k : Int) := by omega
        have hi6 : (k : Int) ≤ (s.size : Int) := by omega
        have hi7 : (k : Int) - 1 < (s.size : Int) := by omega
        clear hrv hal hbad hjk hq hall
        by_cases e1 : s[j] = 114
        · have hs : isS s[j] = true := by rw [e1]; rfl
          have ho : oppS s[j] = 108 := by rw [e1]; rfl
          have e2 : ((s[j].toNat : Int) == 114) = true := by rw [e1]; rfl
          have HS := Lib.hid hs
          have HO := Lib.hid ho
          clear e1 hs ho
          go_wp2
          have hj := HJ.out
          exact ⟨⟨j, _, by omega, by rw [show (k : Int) - 1 - 1 = (j : Int) - 1 from by omega], rfl, by rw [data_app, HR.out, HO.out], by rw [HA.out, HS.out], hb⟩, by simp [intOf]; omega⟩
        by_cases e2 : s[j] = 100
        · have hs : isS s[j] = true := by rw [e2]; rfl
          have ho : oppS s[j] = 117 := by rw [e2]; rfl
          have e3 : ((s[j].toNat : Int) == 114) = false := by rw [e2]; rfl
          have e4 : ((s[j].toNat : Int) == 100) = true := by rw [e2]; rfl
          have HS := Lib.hid hs
          have HO := Lib.hid ho
          clear e1 e2 hs ho
          go_wp2
          have hj := HJ.out
          exact ⟨⟨j, _, by omega, by rw [show (k : Int) - 1 - 1 = (j : Int) - 1 from by omega], rfl, by rw [data_app, HR.out, HO.out], by rw [HA.out, HS.out], hb⟩, by simp [intOf]; omega⟩
        by_cases e3 : s[j] = 108
        · have hs : isS s[j] = true := by rw [e3]; rfl
          have ho : oppS s[j] = 114 := by rw [e3]; rfl
          have e4 : ((s[j].toNat : Int) == 114) = false := by rw [e3]; rfl
          have e5 : ((s[j].toNat : Int) == 100) = false := by rw [e3]; rfl
          have e6 : ((s[j].toNat : Int) == 108) = true := by rw [e3]; rfl
          have HS := Lib.hid hs
          have HO := Lib.hid ho
          clear e1 e2 e3 hs ho
          go_wp2
          have hj := HJ.out
          exact ⟨⟨j, _, by omega, by rw [show (k : Int) - 1 - 1 = (j : Int) - 1 from by omega], rfl, by rw [data_app, HR.out, HO.out], by rw [HA.out, HS.out], hb⟩, by simp [intOf]; omega⟩
        by_cases e4 : s[j] = 117
        · have hs : isS s[j] = true := by rw [e4]; rfl
          have ho : oppS s[j] = 100 := by rw [e4]; rfl
          have e5 : ((s[j].toNat : Int) == 114) = false := by rw [e4]; rfl
          have e6 : ((s[j].toNat : Int) == 100) = false := by rw [e4]; rfl
          have e7 : ((s[j].toNat : Int) == 108) = false := by rw [e4]; rfl
          have e8 : ((s[j].toNat : Int) == 117) = true := by rw [e4]; rfl
          have HS := Lib.hid hs
          have HO := Lib.hid ho
          clear e1 e2 e3 e4 hs ho
          go_wp2
          have hj := HJ.out
          exact ⟨⟨j, _, by omega, by rw [show (k : Int) - 1 - 1 = (j : Int) - 1 from by omega], rfl, by rw [data_app, HR.out, HO.out], by rw [HA.out, HS.out], hb⟩, by simp [intOf]; omega⟩
        · have hs : isS s[j] = false := by simp [isS, e1, e2, e3, e4]
          have e5 : ((s[j].toNat : Int) == 114) = false := (u8_is _ 114).trans (by simpa using e1)
          have e6 : ((s[j].toNat : Int) == 100) = false := (u8_is _ 100).trans (by simpa using e2)
          have e7 : ((s[j].toNat : Int) == 108) = false := (u8_is _ 108).trans (by simpa using e3)
          have e8 : ((s[j].toNat : Int) == 117) = false := (u8_is _ 117).trans (by simpa using e4)
          have HV := Lib.hid (revV_bad s (HB.out hs))
          clear e1 e2 e3 e4 hs
          go_wp2
          go_ret2
          exact ⟨by rw [HV.out]; rfl, (by (repeat (first | with_reducible exact Below.refl _ _ | with_reducible assumption | with_reducible apply bel_alloc | with_reducible apply bel_drew | with_reducible apply bel_drewN | ((with_reducible refine bel_set ?_ ?_); rotate_left; (simp <;> omega)) | (with_reducible refine bel_trans ?_ (by with_reducible assumption)))))⟩
      · have hk1 : k = 0 := by omega
        subst hk1
        rw [List.drop_zero] at hq hall
        have HV := Lib.hid (revV_good s h20 hall)
        have HQ := Lib.hid (bs_of hq)
        have hi3 : ((0 : Nat) : Int) - 1 = -1 := by omega
        clear hq hall
        go_wp2
        go_ret2
        exact ⟨by rw [HV.out, ← HQ.out]; rfl, (by (repeat (first | with_reducible exact Below.refl _ _ | with_reducible assumption | with_reducible apply bel_alloc | with_reducible apply bel_drew | with_reducible apply bel_drewN | ((with_reducible refine bel_set ?_ ?_); rotate_left; (simp <;> omega)) | (with_reducible refine bel_trans ?_ (by with_reducible assumption)))))⟩
  · have HV := Lib.hid (revV_far s h20)
    have hd : decide ((s.size : Int) ≤ 20) = false := by simp; omega
    go_enter Try.func19, Try.ntmps19
    go_wp2
    go_loopw [4, 5] (fun o i wr => i = .int .i64 ((s.size : Int) - 1) ∧ o = .string ⟨#[]⟩ ∧ Below w.heap.size w wr) (fun _ i _ => 0)
    case atStart => exact ⟨rfl, rfl, Below.refl _ _⟩
    case round =>
      obtain ⟨rfl, rfl, hb⟩ := hrel
      have hi1 : (20 : Int) < (s.size : Int) := by omega
      have hi2 : (0 : Int) ≤ (s.size : Int) - 1 := by omega
      have hi3 : (1 : Int) ≤ (s.size : Int) := by omega
      go_wp2
      go_ret2
      exact ⟨by rw [HV.out]; rfl, (by (repeat (first | with_reducible exact Below.refl _ _ | with_reducible assumption | with_reducible apply bel_alloc | with_reducible apply bel_drew | with_reducible apply bel_drewN | ((with_reducible refine bel_set ?_ ?_); rotate_left; (simp <;> omega)) | (with_reducible refine bel_trans ?_ (by with_reducible assumption)))))⟩

theorem revV_form (s : ByteArray) : ∃ q b, revV s = .tuple #[.string q, .bool b] := by
  unfold revV
  split
  · exact ⟨_, _, rfl⟩
  · exact ⟨_, _, rfl⟩
theorem law_FnExactReverseWord (s : ByteArray) (hm : s.size ≤ maxLen) (w : World) : Calls Try.prog 6 #[.string s] w (Ret w (.bool true)) := by
  have hm' := hm
  unfold maxLen at hm'
  obtain ⟨n, b, hv⟩ := revV_form s
  have HV := Lib.hid hv
  clear hv
  go_enter Try.func6, Try.ntmps6
  go_wp2_with (first
    | (go_at_call 19; refine (ReverseWord_s _ _ hm).mono ?_; rw [HV.out]; rintro e w1 ⟨rfl, hb1⟩)
    | (go_at_call 20; refine (ReverseWord_i _ _ hm).mono ?_; rw [HV.out]; rintro e w2 ⟨rfl, hb2⟩))
  all_goals go_ret
  all_goals exact ⟨rfl, (by (repeat (first | with_reducible exact Below.refl _ _ | with_reducible assumption | with_reducible apply bel_alloc | with_reducible apply bel_drew | with_reducible apply bel_drewN | ((with_reducible refine bel_set ?_ ?_); rotate_left; (simp <;> omega)) | (with_reducible refine bel_trans ?_ (by with_reducible assumption)))))⟩
end Go.Proofs.Ytagiifoejdlecaa
