/- Runs of a word: both sides. -/
import Derived.Test.YtcgohceakjjlhaaDoorComp
import Derived.Test.YtcgohceakjjlhaaDoorShelf
import Derived.Test.YtcgohceakjjlhaaDoorQreg
namespace Go.Proofs.YtcgohceakjjlhaaDoor
open Go.RowKit
set_option linter.unusedVariables false
attribute [local go_sem ↓] Go.wp_at_zero Go.wp_at_succ

theorem FormatInt_i (n : Nat) (w : World) (h : n < 100) : Calls Tryd.prog 23 #[.int .i64 (n : Int)] w (Ret w (.string (bs (Lib.decDigits n)))) := by
  go_enter Tryd.func23, Tryd.ntmps23
  go_wp2_with fail
  refine (Tryd.strconv_Itoa_small n h _).mono ?_
  rintro e w1 ⟨rfl, rfl⟩
  go_wp2_with fail
  go_ret
  exact ⟨rfl, Below.refl _ _⟩
theorem dec_len {n : Nat} (h : n < 100) : (bs (Lib.decDigits n)).size ≤ 2 := by
  show (Lib.decDigits n).toArray.size ≤ 2
  by_cases h10 : n < 10
  · rw [Lib.decDigits_one h10]; simp
  · rw [Lib.decDigits_two h10 h]; simp
theorem data_app2 (a b : ByteArray) : (a ++ b).data.toList = a.data.toList ++ b.data.toList := by simp [ByteArray.data_append]
theorem slice_one (s : ByteArray) (i : Nat) (h : i < s.size) (w : World) : (Instr.slice 9 (.string s) (some (.int .i64 (i : Int))) (some (.int .i64 ((i : Int) + 1))) none).run Tryd.prog w = .ok (.string (bs [at0 s i])) w := by
  rw [run_slice_string w 9 s .i64 .i64 (i : Int) ((i : Int) + 1) Tryd.underlying9 (by omega) (by omega) (by omega)]
  have e : s.extract (i : Int).toNat ((i : Int) + 1).toNat = bs [at0 s i] := by
    rw [show ((i : Int) + 1).toNat = i + 1 from by omega, Int.toNat_natCast, at0_at h]
    apply ByteArray.ext
    show _ = [s[i]].toArray
    rw [ByteArray.data_extract]
    have h' : i < s.data.size := h
    apply Array.ext
    · simp; omega
    · intro j h1 h2
      simp at h2
      subst h2
      simp
      rfl
  rw [e]
set_option maxRecDepth 100000 in
set_option maxHeartbeats 3200000 in
theorem CompressWord_i (s : ByteArray) (w : World) (hm : s.size ≤ maxLen) : Calls Tryd.prog 7 #[.string s] w (Ret w (cmpV s)) := by
  cases hc : closedW s.data.toList with
  | false =>
    have HV : Hid (cmpV s = .tuple #[.string (bs []), .bool false]) := by show cmpV s = _; unfold cmpV; rw [hc]; rfl
    have HC := Lib.hid hc
    clear hc
    go_enter Tryd.func7, Tryd.ntmps7
    go_wp2_with fail
    refine (IsClosedWord_i _ _ hm).mono ?_
    rw [HC.out]
    rintro e w1 ⟨rfl, hb1⟩
    go_wp2_with fail
    go_ret2
    exact ⟨by rw [HV.out]; rfl, hb1⟩
  | true =>
    obtain ⟨h40, hlet⟩ := closed_40 hc
    have HV : Hid (cmpV s = .tuple #[.string (bs (cmpS s s.size).1), .bool true]) := by show cmpV s = _; unfold cmpV; rw [hc]; rfl
    have HC := Lib.hid hc
    clear hc hlet
    go_enter Tryd.func7, Tryd.ntmps7
    go_wp2_with fail
    refine (IsClosedWord_i _ _ hm).mono ?_
    rw [HC.out]
    rintro e w1 ⟨rfl, hb1⟩
    go_wp2_with fail
    go_loopw [5, 4] (fun e5 e4 wr => ∃ (i : Nat) (q : ByteArray), i ≤ s.size ∧ e5 = .int .i64 i ∧ e4 = .string q ∧ q.data.toList = (cmpS s i).1 ∧ (cmpS s i).2 = 0 ∧ q.size ≤ 3 * i ∧ Below w.heap.size w wr) (fun e5 _ _ => s.size - (intOf e5).toNat)
    case atStart => exact ⟨0, ⟨#[]⟩, Nat.zero_le _, rfl, rfl, rfl, rfl, Nat.le_refl _, hb1⟩
    case round =>
      obtain ⟨i, q, hi, rfl, rfl, hq, hz, hqs, hb⟩ := hrel
      by_cases hlt : i < s.size
      · have hi0 : (0 : Int) ≤ (i : Int) := by omega
        have hi1 : (i : Int) < (s.size : Int) := by omega
        have HQ := Lib.hid hq
        have HZ := Lib.hid hz
        have hsl := slice_one s i hlt
        clear hq hz
        go_wp2_with fail
        go_loopw [6] (fun e6 wr => ∃ (k : Nat), i ≤ k ∧ k ≤ s.size ∧ e6 = .int .i64 k ∧ Hid (∀ t, i ≤ t → t < k → at0 s t = at0 s i) ∧ Below w.heap.size w wr) (fun e6 _ => s.size - (intOf e6).toNat)
        case atStart => exact ⟨i, Nat.le_refl _, hi, rfl, Lib.hid (fun t h1 h2 => by omega), hb⟩
        case round =>
          obtain ⟨k, hik, hk, rfl, he, hb2⟩ := hrel
          by_cases hkl : k < s.size
          · have hk0 : (0 : Int) ≤ (k : Int) := by omega
            have hk1 : (k : Int) < (s.size : Int) := by omega
            by_cases e1 : s[k] = s[i]
            · have g1 : ((s[k].toNat : Int) == (s[i].toNat : Int)) = true := (u8_is _ _).trans (by simpa using e1)
              have HE : Hid (∀ t, i ≤ t → t < k + 1 → at0 s t = at0 s i) := fun t h1 h2 => by
                rcases (by omega : t < k ∨ t = k) with h3 | h3
                · exact he.out t h1 h3
                · subst h3; rw [at0_at hkl, at0_at hlt]; exact e1
              clear e1
              go_wp2_with fail
              (refine wp_region_below (by kernel_rfl) (by kernel_rfl) ?_; (repeat (first | go_big_quiet_skip | (refine quietV (v := ?_) (by rfl) rfl (fun w' hbw => ?_) ?_; rotate_left; ((try dsimp only at hbw); have hbc := (bcell hbw).1; have hbf := (bcell hbw).2; go_simp; first | done | with_reducible rfl | fail); simp only [List.setIfInBounds_toArray, List.set_cons_zero, List.set_cons_succ]))); refine wpQuiet_nil ?_; intro wq hbq)
              go_wp2_with fail
              exact ⟨⟨k + 1, by omega, by omega, by go_num, HE, bel_trans hb2 hbq⟩, by simp [intOf]; omega⟩
            · have g1 : ((s[k].toNat : Int) == (s[i].toNat : Int)) = false := (u8_is _ _).trans (by simpa using e1)
              have hki : i < k := by
                rcases (by omega : i < k ∨ i = k) with h | h
                · exact h
                · subst h; exact absurd rfl e1
              have hrun := cmp_run HZ.out hki hk he.out (.inr (by rw [at0_at hkl, at0_at hlt]; exact e1))
              clear e1
              obtain ⟨r, hr⟩ : ∃ r, k - i = r := ⟨_, rfl⟩
              have hsub : (k : Int) - (i : Int) = (r : Int) := by omega
              have hrw : IntKind.i64.wrap (r : Int) = (r : Int) := Go.IntWalk.i64_in _ (by omega)
              have hiw : IntKind.i64.wrap ((i : Int) + 1) = (i : Int) + 1 := Go.IntWalk.i64_in _ (by omega)
              have HR : Hid (r < 100) := by show r < 100; omega
              rw [hr] at hrun
              have HRUN := Lib.hid hrun
              obtain ⟨D, hD⟩ : ∃ D, bs (Lib.decDigits r) = D := ⟨_, rfl⟩
              have HF : Hid (∀ w, Calls Tryd.prog 23 #[.int .i64 (r : Int)] w (Ret w (.string D))) := fun w => by rw [← hD]; exact FormatInt_i r w HR.out
              have hDs : D.size ≤ 2 := by rw [← hD]; exact dec_len HR.out
              obtain ⟨O, hO⟩ : ∃ O, bs [at0 s i] = O := ⟨_, rfl⟩
              have hOs : O.size = 1 := by rw [← hO]; rfl
              rw [hO] at hsl
              have hqs2 : q.size ≤ 120 := by omega
              have hDO : (D ++ O).size ≤ 3 := by rw [ByteArray.size_append]; omega
              have n1 : ¬ (9223372036854775807 < D.size + O.size) := by omega
              have n2 : ¬ (9223372036854775807 < q.size + (D ++ O).size) := by omega
              have n3 : ¬ (9223372036854775807 < q.size + (D.size + O.size)) := by omega
              have HD := Lib.hid hD
              have HO := Lib.hid hO
              clear hr hrun hD hO hOs
              go_wp2_with fail
              (refine wp_region_below (by kernel_rfl) (by kernel_rfl) ?_; (repeat (first | go_big_quiet_skip | (refine quietV (v := ?_) (by rfl) rfl (fun w' hbw => ?_) ?_; rotate_left; ((try dsimp only at hbw); have hbc := (bcell hbw).1; have hbf := (bcell hbw).2; go_simp; first | done | with_reducible rfl | fail); simp only [List.setIfInBounds_toArray, List.set_cons_zero, List.set_cons_succ]))); refine wpQuiet_nil ?_; intro wq hbq)
              go_wp2_with fail
              (refine wp_region_below (by kernel_rfl) (by kernel_rfl) ?_; (repeat (first | go_big_quiet_skip | (refine quietV (v := ?_) (by rfl) rfl (fun w' hbw => ?_) ?_; rotate_left; ((try dsimp only at hbw); have hbc := (bcell hbw).1; have hbf := (bcell hbw).2; go_simp; first | done | with_reducible rfl | (exact callsB (v := .string D) (HF.out _) hbw)); simp only [List.setIfInBounds_toArray, List.set_cons_zero, List.set_cons_succ]))); refine wpQuiet_nil ?_; intro wz hbz)
              have F1 : Hid ((q ++ (D ++ O)).data.toList = (cmpS s k).1) := by
                show _ = _
                rw [HRUN.out, data_app2, data_app2, HQ.out, ← HD.out, ← HO.out]
                simp [bs]
              have F2 : Hid ((cmpS s k).2 = 0) := by show _ = 0; rw [HRUN.out]
              have F3 : Hid ((q ++ (D ++ O)).size ≤ 3 * k) := by
                show _ ≤ _
                have hOs : O.size = 1 := by rw [← HO.out]; rfl
                rw [ByteArray.size_append, ByteArray.size_append]
                omega
              go_wp2_with fail
              exact ⟨⟨k, _, by omega, rfl, rfl, F1.out, F2.out, F3.out, bel_trans hb2 (bel_trans hbq hbz)⟩, by simp [intOf]; omega⟩
          · have hki : i < k := by omega
            have hrun := cmp_run HZ.out hki hk he.out (.inl (by omega))
            have hk1 : ¬ (k : Int) < (s.size : Int) := by omega
            obtain ⟨r, hr⟩ : ∃ r, k - i = r := ⟨_, rfl⟩
            have hsub : (k : Int) - (i : Int) = (r : Int) := by omega
            have hrw : IntKind.i64.wrap (r : Int) = (r : Int) := Go.IntWalk.i64_in _ (by omega)
            have hiw : IntKind.i64.wrap ((i : Int) + 1) = (i : Int) + 1 := Go.IntWalk.i64_in _ (by omega)
            have HR : Hid (r < 100) := by show r < 100; omega
            rw [hr] at hrun
            have HRUN := Lib.hid hrun
            obtain ⟨D, hD⟩ : ∃ D, bs (Lib.decDigits r) = D := ⟨_, rfl⟩
            have HF : Hid (∀ w, Calls Tryd.prog 23 #[.int .i64 (r : Int)] w (Ret w (.string D))) := fun w => by rw [← hD]; exact FormatInt_i r w HR.out
            have hDs : D.size ≤ 2 := by rw [← hD]; exact dec_len HR.out
            obtain ⟨O, hO⟩ : ∃ O, bs [at0 s i] = O := ⟨_, rfl⟩
            have hOs : O.size = 1 := by rw [← hO]; rfl
            rw [hO] at hsl
            have hqs2 : q.size ≤ 120 := by omega
            have hDO : (D ++ O).size ≤ 3 := by rw [ByteArray.size_append]; omega
            have n1 : ¬ (9223372036854775807 < D.size + O.size) := by omega
            have n2 : ¬ (9223372036854775807 < q.size + (D ++ O).size) := by omega
            have n3 : ¬ (9223372036854775807 < q.size + (D.size + O.size)) := by omega
            have HD := Lib.hid hD
            have HO := Lib.hid hO
            clear hr hrun hD hO hOs
            go_wp2_with fail
            (refine wp_region_below (by kernel_rfl) (by kernel_rfl) ?_; (repeat (first | go_big_quiet_skip | (refine quietV (v := ?_) (by rfl) rfl (fun w' hbw => ?_) ?_; rotate_left; ((try dsimp only at hbw); have hbc := (bcell hbw).1; have hbf := (bcell hbw).2; go_simp; first | done | with_reducible rfl | fail); simp only [List.setIfInBounds_toArray, List.set_cons_zero, List.set_cons_succ]))); refine wpQuiet_nil ?_; intro wq hbq)
            go_wp2_with fail
            (refine wp_region_below (by kernel_rfl) (by kernel_rfl) ?_; (repeat (first | go_big_quiet_skip | (refine quietV (v := ?_) (by rfl) rfl (fun w' hbw => ?_) ?_; rotate_left; ((try dsimp only at hbw); have hbc := (bcell hbw).1; have hbf := (bcell hbw).2; go_simp; first | done | with_reducible rfl | (exact callsB (v := .string D) (HF.out _) hbw)); simp only [List.setIfInBounds_toArray, List.set_cons_zero, List.set_cons_succ]))); refine wpQuiet_nil ?_; intro wz hbz)
            have F1 : Hid ((q ++ (D ++ O)).data.toList = (cmpS s k).1) := by
              show _ = _
              rw [HRUN.out, data_app2, data_app2, HQ.out, ← HD.out, ← HO.out]
              simp [bs]
            have F2 : Hid ((cmpS s k).2 = 0) := by show _ = 0; rw [HRUN.out]
            have F3 : Hid ((q ++ (D ++ O)).size ≤ 3 * k) := by
              show _ ≤ _
              have hOs : O.size = 1 := by rw [← HO.out]; rfl
              rw [ByteArray.size_append, ByteArray.size_append]
              omega
            go_wp2_with fail
            exact ⟨⟨k, _, by omega, rfl, rfl, F1.out, F2.out, F3.out, bel_trans hb2 (bel_trans hbq hbz)⟩, by simp [intOf]; omega⟩
      · obtain rfl : i = s.size := by omega
        have HQ := Lib.hid (bs_of hq)
        have hi1 : ¬ (s.size : Int) < (s.size : Int) := by omega
        clear hq hz
        go_wp2_with fail
        go_ret2
        exact ⟨by rw [HV.out, ← HQ.out]; rfl, hb⟩
set_option maxRecDepth 100000 in
set_option maxHeartbeats 3200000 in
theorem CompressWord_s (s : ByteArray) (w : World) (hm : s.size ≤ maxLen) : Calls Tryd.prog 6 #[.string s] w (Ret w (cmpV s)) := by
  cases hc : closedW s.data.toList with
  | false =>
    have HV : Hid (cmpV s = .tuple #[.string (bs []), .bool false]) := by show cmpV s = _; unfold cmpV; rw [hc]; rfl
    have HC := Lib.hid hc
    clear hc
    go_enter Tryd.func6, Tryd.ntmps6
    go_wp2_with fail
    refine (IsClosedWord_s _ _ hm).mono ?_
    rw [HC.out]
    rintro e w1 ⟨rfl, hb1⟩
    go_wp2_with fail
    go_ret2
    exact ⟨by rw [HV.out]; rfl, hb1⟩
  | true =>
    obtain ⟨h40, hlet⟩ := closed_40 hc
    have HV : Hid (cmpV s = .tuple #[.string (bs (cmpS s s.size).1), .bool true]) := by show cmpV s = _; unfold cmpV; rw [hc]; rfl
    have HC := Lib.hid hc
    clear hc hlet
    go_enter Tryd.func6, Tryd.ntmps6
    go_wp2_with fail
    refine (IsClosedWord_s _ _ hm).mono ?_
    rw [HC.out]
    rintro e w1 ⟨rfl, hb1⟩
    go_wp2_with fail
    go_loopw [6, 5, 4] (fun e6 e5 e4 wr => ∃ (i u : Nat) (q : ByteArray), i ≤ s.size ∧ e6 = .int .i64 i ∧ e5 = .int .i64 u ∧ e4 = .string q ∧ q.data.toList = (cmpS s i).1 ∧ (cmpS s i).2 = u ∧ q.size ≤ 3 * i ∧ Below w.heap.size w wr) (fun e6 _ _ _ => s.size - (intOf e6).toNat)
    case atStart => exact ⟨0, 0, ⟨#[]⟩, Nat.zero_le _, rfl, rfl, rfl, rfl, rfl, Nat.le_refl _, hb1⟩
    case round =>
      obtain ⟨i, u, q, hi, rfl, rfl, rfl, hq, hz, hqs, hb⟩ := hrel
      by_cases hlt : i < s.size
      · have hi0 : (0 : Int) ≤ (i : Int) := by omega
        have hi1 : (i : Int) < (s.size : Int) := by omega
        have hui : u ≤ i := by rw [← hz]; exact cmp_run_le s i
        obtain ⟨r, hr⟩ : ∃ r, u + 1 = r := ⟨_, rfl⟩
        obtain ⟨j, hj⟩ : ∃ j, i + 1 = j := ⟨_, rfl⟩
        have hur : (u : Int) + 1 = (r : Int) := by omega
        have hij : (i : Int) + 1 = (j : Int) := by omega
        have hrw : IntKind.i64.wrap (r : Int) = (r : Int) := Go.IntWalk.i64_in _ (by omega)
        have hjw : IntKind.i64.wrap (j : Int) = (j : Int) := Go.IntWalk.i64_in _ (by omega)
        have HR : Hid (r < 100) := by show r < 100; omega
        have HR1 : Hid (1 ≤ r) := by show 1 ≤ r; omega
        have hsl := slice_one s i hlt
        rw [hij] at hsl
        have hend := cmp_end (s := s) (i := i)
        have hon := cmp_on (s := s) (i := i)
        rw [hz, hr, hj] at hend hon
        have HQ := Lib.hid hq
        have HJ := Lib.hid hj
        have HON := Lib.hid hon
        have HEND := Lib.hid hend
        clear hq hz hr hj hon hend
        have hj0 : (0 : Int) ≤ (j : Int) := by omega
        by_cases hje : j = s.size
        · have g0 : ((j : Int) == (s.size : Int)) = true := by simp [hje]
          have hrun := HEND.out (.inl hje)
          clear hje
          obtain ⟨D, hD⟩ : ∃ D, bs (Lib.decDigits r) = D := ⟨_, rfl⟩
          have HF : Hid (∀ w, Calls Tryd.prog 21 #[.int .i64 (r : Int)] w (Ret w (.string D))) := fun w => by rw [← hD]; exact FormatInt_s r w HR1.out HR.out
          have hDs : D.size ≤ 2 := by rw [← hD]; exact dec_len HR.out
          obtain ⟨O, hO⟩ : ∃ O, bs [at0 s i] = O := ⟨_, rfl⟩
          have hOs : O.size = 1 := by rw [← hO]; rfl
          rw [hO] at hsl
          have hqs2 : q.size ≤ 120 := by omega
          have hDO : (q ++ D).size ≤ 122 := by rw [ByteArray.size_append]; omega
          have n1 : ¬ (9223372036854775807 < q.size + D.size) := by omega
          have n2 : ¬ (9223372036854775807 < (q ++ D).size + O.size) := by omega
          have n3 : ¬ (9223372036854775807 < q.size + D.size + O.size) := by omega
          have HD := Lib.hid hD
          have HO := Lib.hid hO
          have HRUN := Lib.hid hrun
          have F1 : Hid ((q ++ D ++ O).data.toList = (cmpS s j).1) := by
            show _ = _
            rw [HRUN.out, data_app2, data_app2, HQ.out, ← HD.out, ← HO.out]
            simp [bs]
          have F2 : Hid ((cmpS s j).2 = 0) := by show _ = 0; rw [HRUN.out]
          have F3 : Hid ((q ++ D ++ O).size ≤ 3 * j) := by
            show _ ≤ _
            rw [ByteArray.size_append, ByteArray.size_append]
            have := HJ.out
            omega
          clear hD hO hrun hOs
          go_wp2_with fail
          (refine wp_region_below (by kernel_rfl) (by kernel_rfl) ?_; (repeat (first | go_big_quiet_skip | (refine quietV (v := ?_) (by rfl) rfl (fun w' hbw => ?_) ?_; rotate_left; ((try dsimp only at hbw); have hbc := (bcell hbw).1; have hbf := (bcell hbw).2; go_simp; first | done | with_reducible rfl | fail); simp only [List.setIfInBounds_toArray, List.set_cons_zero, List.set_cons_succ]))); refine wpQuiet_nil ?_; intro wq hbq)
          go_wp2_with fail
          (refine wp_region_below (by kernel_rfl) (by kernel_rfl) ?_; (repeat (first | go_big_quiet_skip | (refine quietV (v := ?_) (by rfl) rfl (fun w' hbw => ?_) ?_; rotate_left; ((try dsimp only at hbw); have hbc := (bcell hbw).1; have hbf := (bcell hbw).2; go_simp; first | done | with_reducible rfl | (exact callsB (v := .string D) (HF.out _) hbw)); simp only [List.setIfInBounds_toArray, List.set_cons_zero, List.set_cons_succ]))); refine wpQuiet_nil ?_; intro wz hbz)
          go_wp2_with fail
          exact ⟨⟨j, 0, _, by have := HJ.out; omega, rfl, rfl, rfl, F1.out, F2.out, F3.out, bel_trans hb (bel_trans hbq hbz)⟩, by simp [intOf]; have := HJ.out; omega⟩
        · have g0 : ((j : Int) == (s.size : Int)) = false := by rw [beq_eq_false_iff_ne]; omega
          have hjl : j < s.size := by have := HJ.out; omega
          have hj1 : (j : Int) < (s.size : Int) := by omega
          by_cases e1 : s[j] = s[i]
          · have g1 : ((s[j].toNat : Int) == (s[i].toNat : Int)) = true := (u8_is _ _).trans (by simpa using e1)
            have g2 : ((s[j].toNat : Int) != (s[i].toNat : Int)) = false := by rw [bne, g1]; rfl
            have hrun : cmpS s j = ((cmpS s i).1, r) := HON.out (fun h => by
              rcases h with h | h
              · exact hje h
              · rw [at0_at hjl, at0_at hlt] at h; exact h e1)
            have HRUN := Lib.hid hrun
            clear hrun e1 hje
            go_wp2_with fail
            (refine wp_region_below (by kernel_rfl) (by kernel_rfl) ?_; (repeat (first | go_big_quiet_skip | (refine quietV (v := ?_) (by rfl) rfl (fun w' hbw => ?_) ?_; rotate_left; ((try dsimp only at hbw); have hbc := (bcell hbw).1; have hbf := (bcell hbw).2; go_simp; first | done | with_reducible rfl | fail); simp only [List.setIfInBounds_toArray, List.set_cons_zero, List.set_cons_succ]))); refine wpQuiet_nil ?_; intro wq hbq)
            go_wp2_with fail
            exact ⟨⟨j, r, q, by omega, rfl, rfl, rfl, by rw [HRUN.out]; exact HQ.out, by rw [HRUN.out], by have := HJ.out; omega, bel_trans hb hbq⟩, by simp [intOf]; have := HJ.out; omega⟩
          · have g1 : ((s[j].toNat : Int) == (s[i].toNat : Int)) = false := (u8_is _ _).trans (by simpa using e1)
            have g2 : ((s[j].toNat : Int) != (s[i].toNat : Int)) = true := by rw [bne, g1]; rfl
            have hrun := HEND.out (.inr (by rw [at0_at hjl, at0_at hlt]; exact e1))
            clear e1 hje
            obtain ⟨D, hD⟩ : ∃ D, bs (Lib.decDigits r) = D := ⟨_, rfl⟩
            have HF : Hid (∀ w, Calls Tryd.prog 21 #[.int .i64 (r : Int)] w (Ret w (.string D))) := fun w => by rw [← hD]; exact FormatInt_s r w HR1.out HR.out
            have hDs : D.size ≤ 2 := by rw [← hD]; exact dec_len HR.out
            obtain ⟨O, hO⟩ : ∃ O, bs [at0 s i] = O := ⟨_, rfl⟩
            have hOs : O.size = 1 := by rw [← hO]; rfl
            rw [hO] at hsl
            have hqs2 : q.size ≤ 120 := by omega
            have hDO : (q ++ D).size ≤ 122 := by rw [ByteArray.size_append]; omega
            have n1 : ¬ (9223372036854775807 < q.size + D.size) := by omega
            have n2 : ¬ (9223372036854775807 < (q ++ D).size + O.size) := by omega
            have n3 : ¬ (9223372036854775807 < q.size + D.size + O.size) := by omega
            have HD := Lib.hid hD
            have HO := Lib.hid hO
            have HRUN := Lib.hid hrun
            have F1 : Hid ((q ++ D ++ O).data.toList = (cmpS s j).1) := by
              show _ = _
              rw [HRUN.out, data_app2, data_app2, HQ.out, ← HD.out, ← HO.out]
              simp [bs]
            have F2 : Hid ((cmpS s j).2 = 0) := by show _ = 0; rw [HRUN.out]
            have F3 : Hid ((q ++ D ++ O).size ≤ 3 * j) := by
              show _ ≤ _
              rw [ByteArray.size_append, ByteArray.size_append]
              have := HJ.out
              omega
            clear hD hO hrun hOs
            go_wp2_with fail
            (refine wp_region_below (by kernel_rfl) (by kernel_rfl) ?_; (repeat (first | go_big_quiet_skip | (refine quietV (v := ?_) (by rfl) rfl (fun w' hbw => ?_) ?_; rotate_left; ((try dsimp only at hbw); have hbc := (bcell hbw).1; have hbf := (bcell hbw).2; go_simp; first | done | with_reducible rfl | fail); simp only [List.setIfInBounds_toArray, List.set_cons_zero, List.set_cons_succ]))); refine wpQuiet_nil ?_; intro wq hbq)
            go_wp2_with fail
            (refine wp_region_below (by kernel_rfl) (by kernel_rfl) ?_; (repeat (first | go_big_quiet_skip | (refine quietV (v := ?_) (by rfl) rfl (fun w' hbw => ?_) ?_; rotate_left; ((try dsimp only at hbw); have hbc := (bcell hbw).1; have hbf := (bcell hbw).2; go_simp; first | done | with_reducible rfl | (exact callsB (v := .string D) (HF.out _) hbw)); simp only [List.setIfInBounds_toArray, List.set_cons_zero, List.set_cons_succ]))); refine wpQuiet_nil ?_; intro wz hbz)
            go_wp2_with fail
            exact ⟨⟨j, 0, _, by have := HJ.out; omega, rfl, rfl, rfl, F1.out, F2.out, F3.out, bel_trans hb (bel_trans hbq hbz)⟩, by simp [intOf]; have := HJ.out; omega⟩
      · obtain rfl : i = s.size := by omega
        have HQ := Lib.hid (bs_of hq)
        have hi1 : ¬ (s.size : Int) < (s.size : Int) := by omega
        clear hq hz
        go_wp2_with fail
        go_ret2
        exact ⟨by rw [HV.out, ← HQ.out]; rfl, hb⟩
end Go.Proofs.YtcgohceakjjlhaaDoor
