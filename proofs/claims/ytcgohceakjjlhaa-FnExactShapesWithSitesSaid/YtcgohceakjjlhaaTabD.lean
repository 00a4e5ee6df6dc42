/- What is read from the table of places: both sides. -/
import Derived.Test.YtcgohceakjjlhaaTab
namespace Go.Proofs.Ytcgohceakjjlhaa
open Go.RowKit
set_option linter.unusedVariables false
attribute [local go_sem ↓] Go.wp_at_zero Go.wp_at_succ

theorem tab_len (n : Int) : (tabV (fixA n)).length = 0 ∨ (tabV (fixA n)).length = 13 := by
  unfold tabV
  split
  · exact .inl rfl
  · exact .inr (tabTo_len _ _ (Nat.le_refl _))
def swV (T : List Int) (k : Int) : Int := if 0 ≤ k ∧ k < T.length then T.getD k.toNat 0 else -1
def mostTo (T : List Int) : Nat → Int
  | 0 => -1
  | i + 1 => if T.getD i 0 > 0 then (i : Int) else mostTo T i
theorem mostTo_le (T : List Int) : ∀ i, -1 ≤ mostTo T i ∧ mostTo T i ≤ i
  | 0 => by simp [mostTo]
  | i + 1 => by
    have := mostTo_le T i
    unfold mostTo
    split <;> omega
def fewN (T : List Int) : Nat := T.findIdx (fun x => decide (x > 0))
def fewV (T : List Int) : Int := if fewN T < T.length then (fewN T : Int) else -1
theorem few_at {T : List Int} {i : Nat} (h : i < T.length) (h1 : T[i] > 0) (h2 : ∀ j (hj : j < T.length), j < i → ¬ T[j] > 0) : fewV T = i := by
  have e : fewN T = i := by
    unfold fewN
    rw [List.findIdx_eq h]
    exact ⟨by simpa using h1, fun j hj => by simpa using h2 j (by omega) hj⟩
  unfold fewV
  rw [e, if_pos h]
theorem few_none {T : List Int} (h2 : ∀ j (hj : j < T.length), ¬ T[j] > 0) : fewV T = -1 := by
  unfold fewV
  rw [if_neg]
  intro h
  have h3 := List.findIdx_getElem (p := fun x : Int => decide (x > 0)) (xs := T) (w := h)
  exact h2 _ h (of_decide_eq_true h3)
theorem getD_at {T : List Int} {i : Nat} (h : i < T.length) : T.getD i 0 = T[i] := by rw [List.getD, List.getElem?_eq_getElem h]; rfl
set_option maxRecDepth 100000 in
set_option maxHeartbeats 3200000 in
theorem ShapesWithSites_s (n k : Int) (w : World) : Calls Try.prog 32 #[.int .i64 n, .int .i64 k] w (Ret w (.int .i64 (swV (tabV (fixA n)) k))) := by
  have hl := tab_len n
  obtain ⟨T, hT⟩ : ∃ T, tabV (fixA n) = T := ⟨_, rfl⟩
  have HT := Lib.hid hT
  rw [hT] at hl ⊢
  clear hT
  go_enter Try.func32, Try.ntmps32
  go_wp2_with fail
  refine (SiteTable_s n _).mono ?_
  rw [HT.out]
  rintro e w1 ⟨A, m, c, rfl, hO, hb1⟩
  have hml : T.length = m := by have := own_len hO; rw [vI_length] at this; omega
  rw [hml] at hl
  have HR := Lib.hid (Rd.of_own hO)
  have HL := Lib.hid hml
  clear hO hml
  rcases hl with rfl | rfl
  · have HV : Hid (swV T k = -1) := by show swV T k = -1; unfold swV; rw [if_neg (by rw [HL.out]; omega)]
    go_wp2_with fail
    go_ret
    exact ⟨by rw [HV.out]; rfl, hb1⟩
  · by_cases hk : 0 ≤ k ∧ k ≤ 12
    · obtain ⟨q, rfl⟩ : ∃ q : Nat, k = (q : Int) := ⟨k.toNat, by omega⟩
      have hqT : q < T.length := by rw [HL.out]; omega
      have HV : Hid (swV T q = T[q]) := by show swV T q = _; unfold swV; rw [if_pos (by rw [HL.out]; omega), Int.toNat_natCast, getD_at hqT]
      have HK := Lib.hid hk
      have hk0 : (0 : Int) ≤ (q : Int) := by omega
      have hk1 : (q : Int) < 13 := by omega
      clear hk
      go_wp2_with fail
      refine (l1In_t (q : Int) 0 12 _ HK.out.1 HK.out.2).mono ?_
      rintro e w2 ⟨rfl, hb2⟩
      obtain ⟨g, off, hA, hg, d1⟩ := RdI.at_ (HR.out.below hb2) hqT
      subst hA
      obtain ⟨z, hz⟩ : ∃ z, T[q] = z := ⟨_, rfl⟩
      rw [hz] at d1 HV
      clear hz
      go_wp2_with fail
      go_ret
      exact ⟨by rw [HV.out]; rfl, bel_trans hb1 hb2⟩
    · have HV : Hid (swV T k = -1) := by show swV T k = -1; unfold swV; rw [if_neg (by rw [HL.out]; omega)]
      have HK := Lib.hid hk
      clear hk
      go_wp2_with fail
      refine (l1In_f k 0 12 _ HK.out).mono ?_
      rintro e w2 ⟨rfl, hb2⟩
      go_wp2_with fail
      go_ret
      exact ⟨by rw [HV.out]; rfl, bel_trans hb1 hb2⟩
set_option maxRecDepth 100000 in
set_option maxHeartbeats 3200000 in
theorem ShapesWithSites_i (n k : Int) (w : World) : Calls Try.prog 33 #[.int .i64 n, .int .i64 k] w (Ret w (.int .i64 (swV (tabV (fixA n)) k))) := by
  have hl := tab_len n
  obtain ⟨T, hT⟩ : ∃ T, tabV (fixA n) = T := ⟨_, rfl⟩
  have HT := Lib.hid hT
  rw [hT] at hl ⊢
  clear hT
  go_enter Try.func33, Try.ntmps33
  go_wp2_with fail
  refine (SiteTable_i n _).mono ?_
  rw [HT.out]
  rintro e w1 ⟨A, m, c, rfl, hO, hb1⟩
  have hml : T.length = m := by have := own_len hO; rw [vI_length] at this; omega
  rw [hml] at hl
  have HR := Lib.hid (Rd.of_own hO)
  have HL := Lib.hid hml
  have HM := Lib.hid hl
  have hm1 : IntKind.i64.wrap ((m : Int) - 1) = (m : Int) - 1 := Go.IntWalk.i64_in _ (by omega)
  clear hO hml hl
  by_cases hk : 0 ≤ k ∧ k ≤ (m : Int) - 1
  · obtain ⟨q, rfl⟩ : ∃ q : Nat, k = (q : Int) := ⟨k.toNat, by omega⟩
    have hqT : q < T.length := by rw [HL.out]; omega
    have HV : Hid (swV T q = T[q]) := by show swV T q = _; unfold swV; rw [if_pos (by rw [HL.out]; omega), Int.toNat_natCast, getD_at hqT]
    have HK := Lib.hid hk
    have hk0 : (0 : Int) ≤ (q : Int) := by omega
    have hk1 : (q : Int) < (m : Int) := by omega
    clear hk
    go_wp2_with fail
    refine (between_t (q : Int) 0 ((m : Int) - 1) _ HK.out.1 HK.out.2).mono ?_
    rintro e w2 ⟨rfl, hb2⟩
    obtain ⟨g, off, hA, hg, d1⟩ := RdI.at_ (HR.out.below hb2) hqT
    subst hA
    obtain ⟨z, hz⟩ : ∃ z, T[q] = z := ⟨_, rfl⟩
    rw [hz] at d1 HV
    clear hz
    go_wp2_with fail
    go_ret
    exact ⟨by rw [HV.out]; rfl, bel_trans hb1 hb2⟩
  · have HV : Hid (swV T k = -1) := by show swV T k = -1; unfold swV; rw [if_neg (by rw [HL.out]; omega)]
    have HK := Lib.hid hk
    clear hk
    go_wp2_with fail
    refine (between_f k 0 ((m : Int) - 1) _ HK.out).mono ?_
    rintro e w2 ⟨rfl, hb2⟩
    go_wp2_with fail
    go_ret
    exact ⟨by rw [HV.out]; rfl, bel_trans hb1 hb2⟩
set_option maxRecDepth 100000 in
set_option maxHeartbeats 3200000 in
theorem MostNeighbours_s (n : Int) (w : World) : Calls Try.prog 36 #[.int .i64 n] w (Ret w (.int .i64 (mostTo (tabV (fixA n)) (tabV (fixA n)).length))) := by
  have hl := tab_len n
  obtain ⟨T, hT⟩ : ∃ T, tabV (fixA n) = T := ⟨_, rfl⟩
  have HT := Lib.hid hT
  rw [hT] at hl ⊢
  clear hT
  go_enter Try.func36, Try.ntmps36
  go_wp2_with fail
  refine (SiteTable_s n _).mono ?_
  rw [HT.out]
  rintro e w1 ⟨A, m, c, rfl, hO, hb1⟩
  have hml : T.length = m := by have := own_len hO; rw [vI_length] at this; omega
  rw [hml] at hl ⊢
  have HR := Lib.hid (Rd.of_own hO)
  have HL := Lib.hid hml
  have hm13 : m ≤ 13 := by omega
  clear hO hml hl
  go_wp2_with fail
  go_loopw [5, 4] (fun e5 e4 wr => ∃ (i : Nat), i ≤ m ∧ e5 = .int .i64 i ∧ e4 = .int .i64 (mostTo T i) ∧ Below w1.heap.size w1 wr) (fun e5 _ _ => m - (intOf e5).toNat)
  case atStart => exact ⟨0, Nat.zero_le _, rfl, rfl, Below.refl _ _⟩
  case round =>
    obtain ⟨i, hi, rfl, rfl, hb⟩ := hrel
    by_cases hlt : i < m
    · have hi0 : (0 : Int) ≤ (i : Int) := by omega
      have hi1 : (i : Int) < (m : Int) := by omega
      have hiT : i < T.length := by rw [HL.out]; exact hlt
      obtain ⟨g, off, hA, hg, d1⟩ := RdI.at_ (HR.out.below hb) hiT
      subst hA
      have hst : mostTo T (i + 1) = if T[i] > 0 then (i : Int) else mostTo T i := by rw [← getD_at hiT]; rfl
      obtain ⟨z, hz⟩ : ∃ z, T[i] = z := ⟨_, rfl⟩
      rw [hz] at d1 hst
      obtain ⟨b, hbv⟩ : ∃ b, mostTo T i = b := ⟨_, rfl⟩
      rw [hbv] at hst ⊢
      clear hz hbv
      by_cases hp : z > 0
      · have HS : Hid (mostTo T (i + 1) = i) := by show _ = (i : Int); rw [hst, if_pos hp]
        clear hst
        go_wp2_with fail
        exact ⟨⟨i + 1, by omega, by go_num, by rw [HS.out], hb⟩, by simp [intOf]; omega⟩
      · have HS : Hid (mostTo T (i + 1) = b) := by show _ = b; rw [hst, if_neg hp]
        clear hst
        go_wp2_with fail
        exact ⟨⟨i + 1, by omega, by go_num, by rw [HS.out], hb⟩, by simp [intOf]; omega⟩
    · obtain rfl : i = m := by omega
      have hi1 : ¬ (i : Int) < (i : Int) := by omega
      go_wp2_with fail
      go_ret
      exact ⟨by rw [HL.out]; rfl, bel_trans hb1 hb⟩
set_option maxRecDepth 100000 in
set_option maxHeartbeats 3200000 in
theorem MostNeighbours_i (n : Int) (w : World) : Calls Try.prog 37 #[.int .i64 n] w (Ret w (.int .i64 (mostTo (tabV (fixA n)) (tabV (fixA n)).length))) := by
  have hl := tab_len n
  obtain ⟨T, hT⟩ : ∃ T, tabV (fixA n) = T := ⟨_, rfl⟩
  have HT := Lib.hid hT
  rw [hT] at hl ⊢
  clear hT
  go_enter Try.func37, Try.ntmps37
  go_wp2_with fail
  refine (SiteTable_i n _).mono ?_
  rw [HT.out]
  rintro e w1 ⟨A, m, c, rfl, hO, hb1⟩
  have hml : T.length = m := by have := own_len hO; rw [vI_length] at this; omega
  rw [hml] at hl ⊢
  have HR := Lib.hid (Rd.of_own hO)
  have HL := Lib.hid hml
  have hm13 : m ≤ 13 := by omega
  clear hO hml hl
  go_wp2_with fail
  go_loopw [9, 3] (fun e9 e3 wr => ∃ (i : Nat), i ≤ m ∧ e9 = .int .i64 i ∧ e3 = .int .i64 (mostTo T i) ∧ Below w1.heap.size w1 wr) (fun e9 _ _ => m - (intOf e9).toNat)
  case atStart => exact ⟨0, Nat.zero_le _, rfl, rfl, Below.refl _ _⟩
  case round =>
    obtain ⟨i, hi, rfl, rfl, hb⟩ := hrel
    by_cases hlt : i < m
    · have hi0 : (0 : Int) ≤ (i : Int) := by omega
      have hi1 : (i : Int) < (m : Int) := by omega
      have hiT : i < T.length := by rw [HL.out]; exact hlt
      obtain ⟨g, off, hA, hg, d1⟩ := RdI.at_ (HR.out.below hb) hiT
      subst hA
      have hst : mostTo T (i + 1) = if T[i] > 0 then (i : Int) else mostTo T i := by rw [← getD_at hiT]; rfl
      obtain ⟨z, hz⟩ : ∃ z, T[i] = z := ⟨_, rfl⟩
      rw [hz] at d1 hst
      obtain ⟨b, hbv⟩ : ∃ b, mostTo T i = b := ⟨_, rfl⟩
      rw [hbv] at hst ⊢
      clear hz hbv
      by_cases hp : z > 0
      · have HS : Hid (mostTo T (i + 1) = i) := by show _ = (i : Int); rw [hst, if_pos hp]
        clear hst
        go_wp2_with fail
        exact ⟨⟨i + 1, by omega, by go_num, by rw [HS.out], hb⟩, by simp [intOf]; omega⟩
      · have HS : Hid (mostTo T (i + 1) = b) := by show _ = b; rw [hst, if_neg hp]
        clear hst
        go_wp2_with fail
        exact ⟨⟨i + 1, by omega, by go_num, by rw [HS.out], hb⟩, by simp [intOf]; omega⟩
    · obtain rfl : i = m := by omega
      have hi1 : ¬ (i : Int) < (i : Int) := by omega
      go_wp2_with fail
      go_ret
      exact ⟨by rw [HL.out]; rfl, bel_trans hb1 hb⟩
set_option maxRecDepth 100000 in
set_option maxHeartbeats 3200000 in
theorem FewestNeighbours_s (n : Int) (w : World) : Calls Try.prog 34 #[.int .i64 n] w (Ret w (.int .i64 (fewV (tabV (fixA n))))) := by
  have hl := tab_len n
  obtain ⟨T, hT⟩ : ∃ T, tabV (fixA n) = T := ⟨_, rfl⟩
  have HT := Lib.hid hT
  rw [hT] at hl ⊢
  clear hT
  go_enter Try.func34, Try.ntmps34
  go_wp2_with fail
  refine (SiteTable_s n _).mono ?_
  rw [HT.out]
  rintro e w1 ⟨A, m, c, rfl, hO, hb1⟩
  have hml : T.length = m := by have := own_len hO; rw [vI_length] at this; omega
  rw [hml] at hl
  have HR := Lib.hid (Rd.of_own hO)
  have HL := Lib.hid hml
  have hm13 : m ≤ 13 := by omega
  clear hO hml hl
  go_wp2_with fail
  go_loopw [4] (fun e4 wr => ∃ (i : Nat), i ≤ m ∧ e4 = .int .i64 i ∧ (∀ j (hj : j < T.length), j < i → ¬ T[j] > 0) ∧ Below w1.heap.size w1 wr) (fun e4 _ => m - (intOf e4).toNat)
  case atStart => exact ⟨0, Nat.zero_le _, rfl, fun j hj h => by omega, Below.refl _ _⟩
  case round =>
    obtain ⟨i, hi, rfl, hno, hb⟩ := hrel
    by_cases hlt : i < m
    · have hi0 : (0 : Int) ≤ (i : Int) := by omega
      have hi1 : (i : Int) < (m : Int) := by omega
      have hiT : i < T.length := by rw [HL.out]; exact hlt
      obtain ⟨g, off, hA, hg, d1⟩ := RdI.at_ (HR.out.below hb) hiT
      subst hA
      by_cases hp : T[i] > 0
      · have HS : Hid (fewV T = i) := few_at hiT hp hno
        obtain ⟨z, hz⟩ : ∃ z, T[i] = z := ⟨_, rfl⟩
        rw [hz] at d1 hp
        clear hz hno
        go_wp2_with fail
        go_ret
        exact ⟨by rw [HS.out]; rfl, bel_trans hb1 hb⟩
      · have HS : Hid (∀ j (hj : j < T.length), j < i + 1 → ¬ T[j] > 0) := fun j hj h => by
          rcases (by omega : j < i ∨ j = i) with h1 | h1
          · exact hno j hj h1
          · subst h1; exact hp
        obtain ⟨z, hz⟩ : ∃ z, T[i] = z := ⟨_, rfl⟩
        rw [hz] at d1 hp
        clear hz hno
        go_wp2_with fail
        exact ⟨⟨i + 1, by omega, by go_num, HS.out, hb⟩, by simp [intOf]; omega⟩
    · obtain rfl : i = m := by omega
      have HS : Hid (fewV T = -1) := few_none (fun j hj => hno j hj (by rw [← HL.out]; exact hj))
      have hi1 : ¬ (i : Int) < (i : Int) := by omega
      clear hno
      go_wp2_with fail
      go_ret
      exact ⟨by rw [HS.out]; rfl, bel_trans hb1 hb⟩
set_option maxRecDepth 100000 in
set_option maxHeartbeats 3200000 in
theorem FewestNeighbours_i (n : Int) (w : World) : Calls Try.prog 35 #[.int .i64 n] w (Ret w (.int .i64 (fewV (tabV (fixA n))))) := by
  have hl := tab_len n
  obtain ⟨T, hT⟩ : ∃ T, tabV (fixA n) = T := ⟨_, rfl⟩
  have HT := Lib.hid hT
  rw [hT] at hl ⊢
  clear hT
  go_enter Try.func35, Try.ntmps35
  go_wp2_with fail
  refine (SiteTable_i n _).mono ?_
  rw [HT.out]
  rintro e w1 ⟨A, m, c, rfl, hO, hb1⟩
  have hml : T.length = m := by have := own_len hO; rw [vI_length] at this; omega
  rw [hml] at hl
  have HR := Lib.hid (Rd.of_own hO)
  have HL := Lib.hid hml
  have hm13 : m ≤ 13 := by omega
  clear hO hml hl
  go_wp2_with fail
  go_loopw [8] (fun e8 wr => ∃ (i : Nat), i ≤ m ∧ e8 = .int .i64 i ∧ (∀ j (hj : j < T.length), j < i → ¬ T[j] > 0) ∧ Below w1.heap.size w1 wr) (fun e8 _ => m - (intOf e8).toNat)
  case atStart => exact ⟨0, Nat.zero_le _, rfl, fun j hj h => by omega, Below.refl _ _⟩
  case round =>
    obtain ⟨i, hi, rfl, hno, hb⟩ := hrel
    by_cases hlt : i < m
    · have hi0 : (0 : Int) ≤ (i : Int) := by omega
      have hi1 : (i : Int) < (m : Int) := by omega
      have hiT : i < T.length := by rw [HL.out]; exact hlt
      obtain ⟨g, off, hA, hg, d1⟩ := RdI.at_ (HR.out.below hb) hiT
      subst hA
      by_cases hp : T[i] > 0
      · have HS : Hid (fewV T = i) := few_at hiT hp hno
        obtain ⟨z, hz⟩ : ∃ z, T[i] = z := ⟨_, rfl⟩
        rw [hz] at d1 hp
        clear hz hno
        go_wp2_with fail
        go_ret
        exact ⟨by rw [HS.out]; rfl, bel_trans hb1 hb⟩
      · have HS : Hid (∀ j (hj : j < T.length), j < i + 1 → ¬ T[j] > 0) := fun j hj h => by
          rcases (by omega : j < i ∨ j = i) with h1 | h1
          · exact hno j hj h1
          · subst h1; exact hp
        obtain ⟨z, hz⟩ : ∃ z, T[i] = z := ⟨_, rfl⟩
        rw [hz] at d1 hp
        clear hz hno
        go_wp2_with fail
        exact ⟨⟨i + 1, by omega, by go_num, HS.out, hb⟩, by simp [intOf]; omega⟩
    · obtain rfl : i = m := by omega
      have HS : Hid (fewV T = -1) := few_none (fun j hj => hno j hj (by rw [← HL.out]; exact hj))
      have hi1 : ¬ (i : Int) < (i : Int) := by omega
      clear hno
      go_wp2_with fail
      go_ret
      exact ⟨by rw [HS.out]; rfl, bel_trans hb1 hb⟩
end Go.Proofs.Ytcgohceakjjlhaa
