/- Turns of a closed word. -/
import Derived.Test.YtemmbpmgfjodnaaWordsC
import Derived.Test.YtemmbpmgfjodnaaQreg
import Derived.Outline
import Derived.WalkLawsBesides
import Derived.WalkSpells
import Derived.BigQuiet
import Derived.Deep.QuietTactic
import Derived.Deep.RegionHeld3
import Derived.Deep.RegionWith
import Derived.Deep.DeepCutAuto
import Derived.Deep.CutBlock
import Derived.Deep.DrawnRows
namespace Go.Proofs.Ytemmbpmgfjodnaa
open Go.RowKit
set_option linter.unusedVariables false
attribute [local go_sem ↓] Go.wp_at_zero Go.wp_at_succ

def dig (b : UInt8) : Int := if b = 114 then 0 else if b = 100 then 1 else if b = 108 then 2 else 3
def rgt (b : UInt8) : UInt8 := if b = 114 then 100 else if b = 100 then 108 else if b = 108 then 117 else 114
def letter (b : UInt8) : Prop := b = 114 ∨ b = 108 ∨ b = 100 ∨ b = 117
theorem step_letter {c d : C} {b : UInt8} (h : stepW c b = some d) : letter b := by
  unfold stepW at h
  unfold letter
  by_cases h1 : b = 114
  · exact .inl h1
  by_cases h2 : b = 108
  · exact .inr (.inl h2)
  by_cases h3 : b = 100
  · exact .inr (.inr (.inl h3))
  by_cases h4 : b = 117
  · exact .inr (.inr (.inr h4))
  rw [if_neg h1, if_neg h2, if_neg h3, if_neg h4] at h
  cases h
theorem end_letters : ∀ {l : List UInt8} {c e : C}, endW c l = some e → ∀ b ∈ l, letter b
  | [], _, _, _ => by simp
  | a :: t, c, e, h => by
    simp only [endW, Option.bind_eq_some_iff] at h
    obtain ⟨d, hd, h⟩ := h
    intro b hb
    rcases List.mem_cons.1 hb with rfl | hb
    · exact step_letter hd
    · exact end_letters h b hb
theorem turn_dig {a b : UInt8} (ha : letter a) (hb : letter b) :
    (((dig b - dig a + 4) % 4 == 1) = decide (rgt a = b)) ∧ (((dig b - dig a + 4) % 4 == 3) = (!decide (rgt a = b) && decide (rgt b = a))) ∧ (0 ≤ dig a ∧ dig a ≤ 3) := by
  rcases ha with rfl | rfl | rfl | rfl <;> rcases hb with rfl | rfl | rfl | rfl <;> decide
def at0 (s : ByteArray) (k : Nat) : UInt8 := if h : k < s.size then s[k] else 0
theorem at0_at {s : ByteArray} {k : Nat} (h : k < s.size) : at0 s k = s[k] := dif_pos h
def rTo (s : ByteArray) : Nat → Nat
  | 0 => 0
  | k + 1 => rTo s k + (if rgt (at0 s k) = at0 s ((k + 1) % s.size) then 1 else 0)
def lTo (s : ByteArray) : Nat → Nat
  | 0 => 0
  | k + 1 => lTo s k + (if rgt (at0 s k) = at0 s ((k + 1) % s.size) then 0 else if rgt (at0 s ((k + 1) % s.size)) = at0 s k then 1 else 0)
def turnsV (s : ByteArray) : Value := if closedW s.data.toList = true then .tuple #[.int .i64 (rTo s s.size : Nat), .int .i64 (lTo s s.size : Nat)] else .tuple #[.int .i64 0, .int .i64 0]
theorem turnsV_form (s : ByteArray) : ∃ a b : Int, turnsV s = .tuple #[.int .i64 a, .int .i64 b] := by
  unfold turnsV
  split
  · exact ⟨_, _, rfl⟩
  · exact ⟨_, _, rfl⟩
theorem closed_40 {s : ByteArray} (h : closedW s.data.toList = true) : s.size ≤ 40 ∧ ∀ k (hk : k < s.size), letter s[k] := by
  unfold closedW at h
  simp only [Bool.and_eq_true, decide_eq_true_eq] at h
  have hsz : s.data.toList.length = s.size := by simp
  refine ⟨by omega, fun k hk => ?_⟩
  have := end_letters h.2 (s.data.toList[k]'(by omega)) (List.getElem_mem _)
  have h3 : letter (s.data[k]'hk) := by simpa using this
  exact h3
theorem right_i (b : UInt8) (w : World) : Calls Try.prog 56 #[.int .u8 b.toNat] w (Ret w (.int .u8 (rgt b).toNat)) := by
  by_cases h1 : b = 114
  · subst h1
    go_enter Try.func56, Try.ntmps56
    go_wp2
    go_ret
    exact ⟨rfl, (by (repeat (first | with_reducible exact Below.refl _ _ | with_reducible assumption | with_reducible apply bel_alloc | with_reducible apply bel_drew | with_reducible apply bel_drewN | ((with_reducible refine bel_set ?_ ?_); rotate_left; (simp <;> omega)) | (with_reducible refine bel_trans ?_ (by with_reducible assumption)))))⟩
  by_cases h2 : b = 100
  · subst h2
    go_enter Try.func56, Try.ntmps56
    go_wp2
    go_ret
    exact ⟨rfl, (by (repeat (first | with_reducible exact Below.refl _ _ | with_reducible assumption | with_reducible apply bel_alloc | with_reducible apply bel_drew | with_reducible apply bel_drewN | ((with_reducible refine bel_set ?_ ?_); rotate_left; (simp <;> omega)) | (with_reducible refine bel_trans ?_ (by with_reducible assumption)))))⟩
  by_cases h3 : b = 108
  · subst h3
    go_enter Try.func56, Try.ntmps56
    go_wp2
    go_ret
    exact ⟨rfl, (by (repeat (first | with_reducible exact Below.refl _ _ | with_reducible assumption | with_reducible apply bel_alloc | with_reducible apply bel_drew | with_reducible apply bel_drewN | ((with_reducible refine bel_set ?_ ?_); rotate_left; (simp <;> omega)) | (with_reducible refine bel_trans ?_ (by with_reducible assumption)))))⟩
  have e1 : ((b.toNat : Int) == 114) = false := (u8_is b 114).trans (by simpa using h1)
  have e2 : ((b.toNat : Int) == 100) = false := (u8_is b 100).trans (by simpa using h2)
  have e3 : ((b.toNat : Int) == 108) = false := (u8_is b 108).trans (by simpa using h3)
  have E := Lib.hid (show rgt b = 114 by unfold rgt; rw [if_neg h1, if_neg h2, if_neg h3])
  clear h1 h2 h3
  go_enter Try.func56, Try.ntmps56
  go_wp2
  go_ret
  exact ⟨by rw [E.out]; rfl, (by (repeat (first | with_reducible exact Below.refl _ _ | with_reducible assumption | with_reducible apply bel_alloc | with_reducible apply bel_drew | with_reducible apply bel_drewN | ((with_reducible refine bel_set ?_ ?_); rotate_left; (simp <;> omega)) | (with_reducible refine bel_trans ?_ (by with_reducible assumption)))))⟩
theorem l28Digit_s (b : UInt8) (w : World) : Calls Try.prog 54 #[.int .u8 b.toNat] w (Ret w (.int .i64 (dig b))) := by
  by_cases h1 : b = 114
  · subst h1
    go_enter Try.func54, Try.ntmps54
    go_wp2
    go_ret
    exact ⟨rfl, (by (repeat (first | with_reducible exact Below.refl _ _ | with_reducible assumption | with_reducible apply bel_alloc | with_reducible apply bel_drew | with_reducible apply bel_drewN | ((with_reducible refine bel_set ?_ ?_); rotate_left; (simp <;> omega)) | (with_reducible refine bel_trans ?_ (by with_reducible assumption)))))⟩
  by_cases h2 : b = 100
  · subst h2
    go_enter Try.func54, Try.ntmps54
    go_wp2
    go_ret
    exact ⟨rfl, (by (repeat (first | with_reducible exact Below.refl _ _ | with_reducible assumption | with_reducible apply bel_alloc | with_reducible apply bel_drew | with_reducible apply bel_drewN | ((with_reducible refine bel_set ?_ ?_); rotate_left; (simp <;> omega)) | (with_reducible refine bel_trans ?_ (by with_reducible assumption)))))⟩
  by_cases h3 : b = 108
  · subst h3
    go_enter Try.func54, Try.ntmps54
    go_wp2
    go_ret
    exact ⟨rfl, (by (repeat (first | with_reducible exact Below.refl _ _ | with_reducible assumption | with_reducible apply bel_alloc | with_reducible apply bel_drew | with_reducible apply bel_drewN | ((with_reducible refine bel_set ?_ ?_); rotate_left; (simp <;> omega)) | (with_reducible refine bel_trans ?_ (by with_reducible assumption)))))⟩
  have e1 : ((b.toNat : Int) == 114) = false := (u8_is b 114).trans (by simpa using h1)
  have e2 : ((b.toNat : Int) == 100) = false := (u8_is b 100).trans (by simpa using h2)
  have e3 : ((b.toNat : Int) == 108) = false := (u8_is b 108).trans (by simpa using h3)
  have E := Lib.hid (show dig b = 3 by unfold dig; rw [if_neg h1, if_neg h2, if_neg h3])
  clear h1 h2 h3
  go_enter Try.func54, Try.ntmps54
  go_wp2
  go_ret
  exact ⟨by rw [E.out]; rfl, (by (repeat (first | with_reducible exact Below.refl _ _ | with_reducible assumption | with_reducible apply bel_alloc | with_reducible apply bel_drew | with_reducible apply bel_drewN | ((with_reducible refine bel_set ?_ ?_); rotate_left; (simp <;> omega)) | (with_reducible refine bel_trans ?_ (by with_reducible assumption)))))⟩
set_option maxHeartbeats 1600000 in
theorem TurnsOf_i (s : ByteArray) (w : World) (hm : s.size ≤ maxLen) : Calls Try.prog 16 #[.string s] w (Ret w (turnsV s)) := by
  cases hc : closedW s.data.toList with
  | false =>
    have HV : Hid (turnsV s = .tuple #[.int .i64 0, .int .i64 0]) := by show turnsV s = _; unfold turnsV; rw [hc]; rfl
    have HC := Lib.hid hc
    clear hc
    go_enter Try.func16, Try.ntmps16
    go_wp2_with fail
    refine (IsClosedWord_i _ _ hm).mono ?_
    rw [HC.out]
    rintro e w1 ⟨rfl, hb1⟩
    go_wp2_with fail
    go_ret2
    exact ⟨by rw [HV.out]; rfl, hb1⟩
  | true =>
    obtain ⟨h40, hlet⟩ := closed_40 hc
    have HV : Hid (turnsV s = .tuple #[.int .i64 (rTo s s.size : Nat), .int .i64 (lTo s s.size : Nat)]) := by show turnsV s = _; unfold turnsV; rw [hc]; rfl
    have HC := Lib.hid hc
    clear hc hlet
    go_enter Try.func16, Try.ntmps16
    go_wp2_with fail
    refine (IsClosedWord_i _ _ hm).mono ?_
    rw [HC.out]
    rintro e w1 ⟨rfl, hb1⟩
    go_wp2_with fail
    go_loopw [13, 4, 5] (fun i t4 t5 wr => ∃ (k p q : Nat), k ≤ s.size ∧ i = .int .i64 k ∧ t4 = .int .i64 p ∧ t5 = .int .i64 q ∧ p = rTo s k ∧ q = lTo s k ∧ p ≤ k ∧ q ≤ k ∧ Below w1.heap.size w1 wr) (fun i _ _ _ => s.size - (intOf i).toNat)
    case atStart => exact ⟨0, 0, 0, Nat.zero_le _, rfl, rfl, rfl, rfl, rfl, Nat.le_refl _, Nat.le_refl _, (by (repeat (first | with_reducible exact Below.refl _ _ | with_reducible assumption | with_reducible apply bel_alloc | with_reducible apply bel_drew | with_reducible apply bel_drewN | ((with_reducible refine bel_set ?_ ?_); rotate_left; (simp <;> omega)) | (with_reducible refine bel_trans ?_ (by with_reducible assumption)))))⟩
    case round =>
      obtain ⟨k, p, q, hk, rfl, rfl, rfl, hp, hq, hpk, hqk, hb⟩ := hrel
      by_cases hlt : k < s.size
      · have hi0 : (0 : Int) ≤ (k : Int) := by omega
        have hi1 : (k : Int) < (s.size : Int) := by omega
        obtain ⟨j, hj⟩ : ∃ j, (k + 1) % s.size = j := ⟨_, rfl⟩
        have hjl : j < s.size := by rw [← hj]; exact Nat.mod_lt _ (by omega)
        have hj0 : (0 : Int) ≤ (j : Int) := by omega
        have hj1 : (j : Int) < (s.size : Int) := by omega
        have hje : ((k : Int) + 1) % (s.size : Int) = (j : Int) := by rw [← hj]; rfl
        have hn0 : ((s.size : Int) == 0) = false := beq_eq_false_iff_ne.2 (by omega)
        have hR : rTo s (k + 1) = p + (if rgt s[k] = s[j] then 1 else 0) := by rw [hp]; show rTo s k + _ = _; rw [hj, at0_at hlt, at0_at hjl]
        have hLf : lTo s (k + 1) = q + (if rgt s[k] = s[j] then 0 else if rgt s[j] = s[k] then 1 else 0) := by rw [hq]; show lTo s k + _ = _; rw [hj, at0_at hlt, at0_at hjl]
        have HR := Lib.hid hR
        have HLF := Lib.hid hLf
        clear hp hq hR hLf hj
        by_cases e1 : rgt s[k] = s[j]
        · have HR2 := Lib.hid (show p + 1 = rTo s (k + 1) by rw [HR.out, if_pos e1])
          have HL2 := Lib.hid (show q = lTo s (k + 1) by rw [HLF.out, if_pos e1]; rfl)
          have g1 : (((rgt s[k]).toNat : Int) == (s[j].toNat : Int)) = true := (u8_is _ _).trans (by simpa using e1)
          clear e1
          go_wp2_with fail
          refine (right_i _ _).mono ?_
          rintro e w2 ⟨rfl, hb2⟩
          go_wp2_with fail
          exact ⟨⟨k + 1, p + 1, q, by omega, by go_num, by go_num, rfl, HR2.out, HL2.out, by omega, by omega, (by (repeat (first | with_reducible exact Below.refl _ _ | with_reducible assumption | with_reducible apply bel_alloc | with_reducible apply bel_drew | with_reducible apply bel_drewN | ((with_reducible refine bel_set ?_ ?_); rotate_left; (simp <;> omega)) | (with_reducible refine bel_trans ?_ (by with_reducible assumption)))))⟩, by simp [intOf]; omega⟩
        · have g1 : (((rgt s[k]).toNat : Int) == (s[j].toNat : Int)) = false := (u8_is _ _).trans (by simpa using e1)
          have HR2 := Lib.hid (show p = rTo s (k + 1) by rw [HR.out, if_neg e1]; rfl)
          by_cases e2 : rgt s[j] = s[k]
          · have HL2 := Lib.hid (show q + 1 = lTo s (k + 1) by rw [HLF.out, if_neg e1, if_pos e2])
            have g2 : (((rgt s[j]).toNat : Int) == (s[k].toNat : Int)) = true := (u8_is _ _).trans (by simpa using e2)
            clear e1 e2
            go_wp2_with fail
            refine (right_i _ _).mono ?_
            rintro e w2 ⟨rfl, hb2⟩
            go_wp2_with fail
            (refine wp_region_below (by kernel_rfl) (by kernel_rfl) ?_; (repeat (first | go_big_quiet_skip | (refine quietV (v := ?_) (by rfl) rfl (fun w' hbw => ?_) ?_; rotate_left; ((try dsimp only at hbw); have hbc := (bcell hbw).1; have hbf := (bcell hbw).2; go_simp; first | done | with_reducible rfl | (exact callsB (v := .int .u8 (rgt s[j]).toNat) (right_i _ _) hbw)); simp only [List.setIfInBounds_toArray, List.set_cons_zero, List.set_cons_succ]))); refine wpQuiet_nil ?_; intro wq hbq)
            go_wp2_with fail
            exact ⟨⟨k + 1, p, q + 1, by omega, by go_num, rfl, by go_num, HR2.out, HL2.out, by omega, by omega, (by (repeat (first | with_reducible exact Below.refl _ _ | with_reducible assumption | with_reducible apply bel_alloc | with_reducible apply bel_drew | with_reducible apply bel_drewN | ((with_reducible refine bel_set ?_ ?_); rotate_left; (simp <;> omega)) | (with_reducible refine bel_trans ?_ (by with_reducible assumption)))))⟩, by simp [intOf]; omega⟩
          · have HL2 := Lib.hid (show q = lTo s (k + 1) by rw [HLF.out, if_neg e1, if_neg e2]; rfl)
            have g2 : (((rgt s[j]).toNat : Int) == (s[k].toNat : Int)) = false := (u8_is _ _).trans (by simpa using e2)
            clear e1 e2
            go_wp2_with fail
            refine (right_i _ _).mono ?_
            rintro e w2 ⟨rfl, hb2⟩
            go_wp2_with fail
            (refine wp_region_below (by kernel_rfl) (by kernel_rfl) ?_; (repeat (first | go_big_quiet_skip | (refine quietV (v := ?_) (by rfl) rfl (fun w' hbw => ?_) ?_; rotate_left; ((try dsimp only at hbw); have hbc := (bcell hbw).1; have hbf := (bcell hbw).2; go_simp; first | done | with_reducible rfl | (exact callsB (v := .int .u8 (rgt s[j]).toNat) (right_i _ _) hbw)); simp only [List.setIfInBounds_toArray, List.set_cons_zero, List.set_cons_succ]))); refine wpQuiet_nil ?_; intro wq hbq)
            go_wp2_with fail
            exact ⟨⟨k + 1, p, q, by omega, by go_num, rfl, rfl, HR2.out, HL2.out, by omega, by omega, (by (repeat (first | with_reducible exact Below.refl _ _ | with_reducible assumption | with_reducible apply bel_alloc | with_reducible apply bel_drew | with_reducible apply bel_drewN | ((with_reducible refine bel_set ?_ ?_); rotate_left; (simp <;> omega)) | (with_reducible refine bel_trans ?_ (by with_reducible assumption)))))⟩, by simp [intOf]; omega⟩
      · have hkk : k = s.size := by omega
        subst hkk
        have HP := Lib.hid hp
        have HQ := Lib.hid hq
        have hi1 : ¬ (s.size : Int) < (s.size : Int) := by omega
        clear hp hq
        go_wp2
        go_ret2
        exact ⟨by rw [HV.out, ← HP.out, ← HQ.out]; rfl, (by (repeat (first | with_reducible exact Below.refl _ _ | with_reducible assumption | with_reducible apply bel_alloc | with_reducible apply bel_drew | with_reducible apply bel_drewN | ((with_reducible refine bel_set ?_ ?_); rotate_left; (simp <;> omega)) | (with_reducible refine bel_trans ?_ (by with_reducible assumption)))))⟩
set_option maxHeartbeats 1600000 in
theorem TurnsOf_s (s : ByteArray) (w : World) (hm : s.size ≤ maxLen) : Calls Try.prog 15 #[.string s] w (Ret w (turnsV s)) := by
  cases hc : closedW s.data.toList with
  | false =>
    have HV : Hid (turnsV s = .tuple #[.int .i64 0, .int .i64 0]) := by show turnsV s = _; unfold turnsV; rw [hc]; rfl
    have hs0 : (0 : Int) < (s.size : Int) := by
      rcases Nat.eq_zero_or_pos s.size with h0 | h0
      · have hl : s.data.toList = [] := List.eq_nil_of_length_eq_zero (by simpa using h0)
        rw [hl] at hc
        exact absurd hc (by decide)
      · omega
    have HC := Lib.hid hc
    clear hc
    go_enter Try.func15, Try.ntmps15
    go_wp2_with fail
    go_loopw [6, 4, 5] (fun i t4 t5 wr => i = .int .i64 0 ∧ t4 = .int .i64 0 ∧ t5 = .int .i64 0 ∧ Below w.heap.size w wr) (fun _ _ _ _ => 0)
    case atStart => exact ⟨rfl, rfl, rfl, (by (repeat (first | with_reducible exact Below.refl _ _ | with_reducible assumption | with_reducible apply bel_alloc | with_reducible apply bel_drew | with_reducible apply bel_drewN | ((with_reducible refine bel_set ?_ ?_); rotate_left; (simp <;> omega)) | (with_reducible refine bel_trans ?_ (by with_reducible assumption)))))⟩
    case round =>
      obtain ⟨rfl, rfl, rfl, hb⟩ := hrel
      go_wp2_with fail
      refine (IsClosedWord_s _ _ hm).mono ?_
      rw [HC.out]
      rintro e w1 ⟨rfl, hb1⟩
      go_wp2_with fail
      go_ret2
      exact ⟨by rw [HV.out]; rfl, (by (repeat (first | with_reducible exact Below.refl _ _ | with_reducible assumption | with_reducible apply bel_alloc | with_reducible apply bel_drew | with_reducible apply bel_drewN | ((with_reducible refine bel_set ?_ ?_); rotate_left; (simp <;> omega)) | (with_reducible refine bel_trans ?_ (by with_reducible assumption)))))⟩
  | true =>
    obtain ⟨h40, hlet⟩ := closed_40 hc
    have HV : Hid (turnsV s = .tuple #[.int .i64 (rTo s s.size : Nat), .int .i64 (lTo s s.size : Nat)]) := by show turnsV s = _; unfold turnsV; rw [hc]; rfl
    have HC := Lib.hid hc
    have HLT := Lib.hid hlet
    clear hc hlet
    go_enter Try.func15, Try.ntmps15
    go_wp2_with fail
    go_loopw [6, 4, 5] (fun i t4 t5 wr => ∃ (k p q : Nat), k ≤ s.size ∧ i = .int .i64 k ∧ t4 = .int .i64 p ∧ t5 = .int .i64 q ∧ p = rTo s k ∧ q = lTo s k ∧ p ≤ k ∧ q ≤ k ∧ Below w.heap.size w wr) (fun i _ _ _ => s.size - (intOf i).toNat)
    case atStart => exact ⟨0, 0, 0, Nat.zero_le _, rfl, rfl, rfl, rfl, rfl, Nat.le_refl _, Nat.le_refl _, (by (repeat (first | with_reducible exact Below.refl _ _ | with_reducible assumption | with_reducible apply bel_alloc | with_reducible apply bel_drew | with_reducible apply bel_drewN | ((with_reducible refine bel_set ?_ ?_); rotate_left; (simp <;> omega)) | (with_reducible refine bel_trans ?_ (by with_reducible assumption)))))⟩
    case round =>
      obtain ⟨k, p, q, hk, rfl, rfl, rfl, hp, hq, hpk, hqk, hb⟩ := hrel
      by_cases hlt : k < s.size
      · have hi0 : (0 : Int) ≤ (k : Int) := by omega
        have hi1 : (k : Int) < (s.size : Int) := by omega
        obtain ⟨j, hj⟩ : ∃ j, (k + 1) % s.size = j := ⟨_, rfl⟩
        have hjl : j < s.size := by rw [← hj]; exact Nat.mod_lt _ (by omega)
        have hj0 : (0 : Int) ≤ (j : Int) := by omega
        have hj1 : (j : Int) < (s.size : Int) := by omega
        have hje : ((k : Int) + 1) % (s.size : Int) = (j : Int) := by rw [← hj]; rfl
        have hn0 : ((s.size : Int) == 0) = false := beq_eq_false_iff_ne.2 (by omega)
        have hR : rTo s (k + 1) = p + (if rgt s[k] = s[j] then 1 else 0) := by rw [hp]; show rTo s k + _ = _; rw [hj, at0_at hlt, at0_at hjl]
        have hLf : lTo s (k + 1) = q + (if rgt s[k] = s[j] then 0 else if rgt s[j] = s[k] then 1 else 0) := by rw [hq]; show lTo s k + _ = _; rw [hj, at0_at hlt, at0_at hjl]
        obtain ⟨d1, d2, d3⟩ := turn_dig (HLT.out k hlt) (HLT.out j hjl)
        obtain ⟨_, _, d4⟩ := turn_dig (HLT.out j hjl) (HLT.out j hjl)
        have HR := Lib.hid hR
        have HLF := Lib.hid hLf
        clear hp hq hR hLf hj
        obtain ⟨x, hx⟩ : ∃ x, dig s[k] = x := ⟨_, rfl⟩
        obtain ⟨y, hy⟩ : ∃ y, dig s[j] = y := ⟨_, rfl⟩
        rw [hx, hy] at d1 d2
        rw [hx] at d3
        rw [hy] at d4
        have HX := Lib.hid hx
        have HY := Lib.hid hy
        obtain ⟨hx0, hx3⟩ := d3
        obtain ⟨hy0, hy3⟩ := d4
        clear hx hy
        by_cases e1 : rgt s[k] = s[j]
        · have HR2 := Lib.hid (show p + 1 = rTo s (k + 1) by rw [HR.out, if_pos e1])
          have HL2 := Lib.hid (show q = lTo s (k + 1) by rw [HLF.out, if_pos e1]; rfl)
          have g1 : ((y - x + 4) % 4 == 1) = true := d1.trans (by simpa using e1)
          clear e1 d1 d2
          go_wp2_with fail
          refine (IsClosedWord_s _ _ hm).mono ?_
          rw [HC.out]
          rintro e w1 ⟨rfl, hb1⟩
          go_wp2_with fail
          refine (l28Digit_s _ _).mono ?_
          rw [HX.out]
          rintro e w2 ⟨rfl, hb2⟩
          go_wp2_with fail
          refine (l28Digit_s _ _).mono ?_
          rw [HY.out]
          rintro e w3 ⟨rfl, hb3⟩
          go_wp2_with fail
          exact ⟨⟨k + 1, p + 1, q, by omega, by go_num, by go_num, rfl, HR2.out, HL2.out, by omega, by omega, (by (repeat (first | with_reducible exact Below.refl _ _ | with_reducible assumption | with_reducible apply bel_alloc | with_reducible apply bel_drew | with_reducible apply bel_drewN | ((with_reducible refine bel_set ?_ ?_); rotate_left; (simp <;> omega)) | (with_reducible refine bel_trans ?_ (by with_reducible assumption)))))⟩, by simp [intOf]; omega⟩
        · have HR2 := Lib.hid (show p = rTo s (k + 1) by rw [HR.out, if_neg e1]; rfl)
          have g1 : ((y - x + 4) % 4 == 1) = false := d1.trans (by simpa using e1)
          by_cases e2 : rgt s[j] = s[k]
          · have HL2 := Lib.hid (show q + 1 = lTo s (k + 1) by rw [HLF.out, if_neg e1, if_pos e2])
            have g2 : ((y - x + 4) % 4 == 3) = true := d2.trans (by simp [e1, e2])
            clear e1 e2 d1 d2
            go_wp2_with fail
            refine (IsClosedWord_s _ _ hm).mono ?_
            rw [HC.out]
            rintro e w1 ⟨rfl, hb1⟩
            go_wp2_with fail
            refine (l28Digit_s _ _).mono ?_
            rw [HX.out]
            rintro e w2 ⟨rfl, hb2⟩
            go_wp2_with fail
            refine (l28Digit_s _ _).mono ?_
            rw [HY.out]
            rintro e w3 ⟨rfl, hb3⟩
            go_wp2_with fail
            exact ⟨⟨k + 1, p, q + 1, by omega, by go_num, rfl, by go_num, HR2.out, HL2.out, by omega, by omega, (by (repeat (first | with_reducible exact Below.refl _ _ | with_reducible assumption | with_reducible apply bel_alloc | with_reducible apply bel_drew | with_reducible apply bel_drewN | ((with_reducible refine bel_set ?_ ?_); rotate_left; (simp <;> omega)) | (with_reducible refine bel_trans ?_ (by with_reducible assumption)))))⟩, by simp [intOf]; omega⟩
          · have HL2 := Lib.hid (show q = lTo s (k + 1) by rw [HLF.out, if_neg e1, if_neg e2]; rfl)
            have g2 : ((y - x + 4) % 4 == 3) = false := d2.trans (by simp [e1, e2])
            clear e1 e2 d1 d2
            go_wp2_with fail
            refine (IsClosedWord_s _ _ hm).mono ?_
            rw [HC.out]
            rintro e w1 ⟨rfl, hb1⟩
            go_wp2_with fail
            refine (l28Digit_s _ _).mono ?_
            rw [HX.out]
            rintro e w2 ⟨rfl, hb2⟩
            go_wp2_with fail
            refine (l28Digit_s _ _).mono ?_
            rw [HY.out]
            rintro e w3 ⟨rfl, hb3⟩
            go_wp2_with fail
            exact ⟨⟨k + 1, p, q, by omega, by go_num, rfl, rfl, HR2.out, HL2.out, by omega, by omega, (by (repeat (first | with_reducible exact Below.refl _ _ | with_reducible assumption | with_reducible apply bel_alloc | with_reducible apply bel_drew | with_reducible apply bel_drewN | ((with_reducible refine bel_set ?_ ?_); rotate_left; (simp <;> omega)) | (with_reducible refine bel_trans ?_ (by with_reducible assumption)))))⟩, by simp [intOf]; omega⟩
      · have hkk : k = s.size := by omega
        subst hkk
        have HP := Lib.hid hp
        have HQ := Lib.hid hq
        have hi1 : ¬ (s.size : Int) < (s.size : Int) := by omega
        clear hp hq
        go_wp2
        go_ret2
        exact ⟨by rw [HV.out, ← HP.out, ← HQ.out]; rfl, (by (repeat (first | with_reducible exact Below.refl _ _ | with_reducible assumption | with_reducible apply bel_alloc | with_reducible apply bel_drew | with_reducible apply bel_drewN | ((with_reducible refine bel_set ?_ ?_); rotate_left; (simp <;> omega)) | (with_reducible refine bel_trans ?_ (by with_reducible assumption)))))⟩
theorem law_FnExactTurnsOf (s : ByteArray) (w : World) (hm : s.size ≤ maxLen) : Calls Try.prog 3 #[.string s] w (Ret w (.bool true)) := by
  have hm' := hm
  unfold maxLen at hm'
  obtain ⟨n, b, hv⟩ := turnsV_form s
  have HV := Lib.hid hv
  clear hv
  go_enter Try.func3, Try.ntmps3
  go_wp2_with (first
    | (go_at_call 15; refine (TurnsOf_s _ _ hm).mono ?_; rw [HV.out]; rintro e w1 ⟨rfl, hb1⟩)
    | (go_at_call 16; refine (TurnsOf_i _ _ hm).mono ?_; rw [HV.out]; rintro e w2 ⟨rfl, hb2⟩))
  all_goals go_ret
  all_goals exact ⟨rfl, (by (repeat (first | with_reducible exact Below.refl _ _ | with_reducible assumption | with_reducible apply bel_alloc | with_reducible apply bel_drew | with_reducible apply bel_drewN | ((with_reducible refine bel_set ?_ ?_); rotate_left; (simp <;> omega)) | (with_reducible refine bel_trans ?_ (by with_reducible assumption)))))⟩
end Go.Proofs.Ytemmbpmgfjodnaa
