/- Runs of a word: numbers written, both sides. -/
import Derived.Test.YtcgohceakjjlhaaDoorTurnM
import Derived.Test.YtcgohceakjjlhaaDoorWordsC
import Derived.Test.YtcgohceakjjlhaaDoorAppB
namespace Go.Proofs.YtcgohceakjjlhaaDoor
open Go.RowKit
set_option linter.unusedVariables false
attribute [local go_sem ↓] Go.wp_at_zero Go.wp_at_succ

theorem dec_step {m : Nat} (h : ¬ m < 10) : Lib.decDigits m = Lib.decDigits (m / 10) ++ [UInt8.ofNat (48 + m % 10)] := by rw [Lib.decDigits, dif_neg h]
/-- What is written of n when m is left. -/
def decTo (n m : Nat) (l : List UInt8) : Prop := if m = 0 then l = Lib.decDigits n else Lib.decDigits m ++ l = Lib.decDigits n
theorem decTo_step {n m : Nat} {l : List UInt8} (h : decTo n m l) (hm : 0 < m) : decTo n (m / 10) (UInt8.ofNat (48 + m % 10) :: l) := by
  unfold decTo at *
  rw [if_neg (by omega)] at h
  by_cases h10 : m < 10
  · rw [if_pos (by omega), show m % 10 = m from Nat.mod_eq_of_lt h10, ← h, Lib.decDigits_one h10]
    rfl
  · rw [if_neg (by omega), ← h, dec_step h10]
    simp
set_option maxRecDepth 100000 in
set_option maxHeartbeats 1600000 in
theorem FormatInt_s (n : Nat) (w : World) (h1 : 1 ≤ n) (h2 : n < 100) : Calls Tryd.prog 21 #[.int .i64 (n : Int)] w (Ret w (.string (bs (Lib.decDigits n)))) := by
  have hn0 : ((n : Int) == 0) = false := by rw [beq_eq_false_iff_ne]; omega
  have hn1 : ¬ (n : Int) < 0 := by omega
  go_enter Tryd.func21, Tryd.ntmps21
  go_wp2_with fail
  go_loopw [0, 3, 5] (fun e0 e3 e5 wr => ∃ (m : Nat) (q : ByteArray), m ≤ n ∧ e0 = .int .i64 (m : Int) ∧ e3 = .string q ∧ decTo n m q.data.toList ∧ q.size + (if m = 0 then 0 else if m < 10 then 1 else 2) ≤ 2 ∧ Below w.heap.size w wr) (fun e0 _ _ _ => (intOf e0).toNat)
  case atStart => exact ⟨n, ⟨#[]⟩, Nat.le_refl _, rfl, rfl, by unfold decTo; rw [if_neg (by omega)]; simp, by rw [if_neg (by omega)]; show 0 + _ ≤ 2; split <;> omega, Below.refl _ _⟩
  case round =>
    obtain ⟨m, q, hm, rfl, rfl, hd, hq, hb⟩ := hrel
    by_cases h0 : 0 < m
    · have hst := decTo_step hd h0
      have HST := Lib.hid hst
      have hq2 : q.size ≤ 1 := by
        rw [if_neg (by omega)] at hq
        split at hq <;> omega
      have HQ := Lib.hid hq
      have e1 : (m : Int).tmod 10 = ((m % 10 : Nat) : Int) := by rw [Int.tmod_eq_emod_of_nonneg (by omega)]; simp
      have e2 : (m : Int).tdiv 10 = ((m / 10 : Nat) : Int) := by rw [Int.tdiv_eq_ediv_of_nonneg (by omega)]; simp
      have e3 : (m : Int) % 10 = ((m % 10 : Nat) : Int) := by simp
      have e4 : (m : Int) / 10 = ((m / 10 : Nat) : Int) := by simp
      obtain ⟨d, hd2⟩ : ∃ d, m % 10 = d := ⟨_, rfl⟩
      obtain ⟨p, hp⟩ : ∃ p, m / 10 = p := ⟨_, rfl⟩
      have hd9 : d ≤ 9 := by rw [← hd2]; omega
      have hpm : p < m := by rw [← hp]; omega
      rw [hd2] at e1 e3
      rw [hp] at e2 e4
      have HD2 := Lib.hid hd2
      have HP := Lib.hid hp
      have hm0 : ((m : Int) != 0) = true := by simp; omega
      have hdn : ¬ (d : Int) < 0 := by omega
      have hw1 : IntKind.i64.wrap ((48 : Int) + (d : Int)) = (48 : Int) + (d : Int) := Go.IntWalk.i64_in _ (by omega)
      have hw2 : IntKind.i64.wrap (d : Int) = (d : Int) := Go.IntWalk.i64_in _ (by omega)
      have hw3 : IntKind.i64.wrap (p : Int) = (p : Int) := Go.IntWalk.i64_in _ (by omega)
      have hw4 : IntKind.u8.wrap ((48 : Int) + (d : Int)) = (48 : Int) + (d : Int) := by rw [IntKind.wrap_u8]; omega
      clear hd hst hq hd2 hp
      go_wp2_with fail
      have hb8 : (48 : Int) + (d : Int) = ((UInt8.ofNat (48 + d)).toNat : Int) := by
        rw [UInt8.toNat_ofNat']
        omega
      have hcv := conv_B (wr.alloc (.cells #[.int .u8 (UInt8.ofNat (48 + d)).toNat] 5)) (c := 1) (rd_newB wr 5 (UInt8.ofNat (48 + d))) (n := 1) rfl
      rw [← hb8] at hcv
      rw [hcv]
      clear hcv hb8
      have hsz : (⟨[UInt8.ofNat (48 + d)].toArray⟩ : ByteArray).size = 1 := rfl
      go_wp2_with fail
      have hap : ((⟨#[48 + UInt8.ofNat d]⟩ : ByteArray) ++ q).data.toList = UInt8.ofNat (48 + d) :: q.data.toList := by
        rw [show UInt8.ofNat (48 + d) = 48 + UInt8.ofNat d from UInt8.ofNat_add 48 d]
        simp [ByteArray.data_append]
      have hsz2 : ((⟨#[48 + UInt8.ofNat d]⟩ : ByteArray) ++ q).size = 1 + q.size := by rw [ByteArray.size_append]; rfl
      refine ⟨⟨p, _, by omega, rfl, rfl, ?_, ?_, bel_alloc hb _⟩, by simp [intOf]; omega⟩
      · rw [hap, ← HD2.out, ← HP.out]; exact HST.out
      · rw [hsz2]
        have h1 := HQ.out
        have h2 := HP.out
        rw [if_neg (by omega)] at h1
        by_cases h3 : m < 10
        · rw [if_pos h3] at h1
          rw [if_pos (by omega)]
          omega
        · rw [if_neg h3] at h1
          rw [if_neg (by omega), if_pos (by omega)]
          omega
    · obtain rfl : m = 0 := by omega
      have HD : Hid (q = bs (Lib.decDigits n)) := by
        show q = _
        unfold decTo at hd
        rw [if_pos rfl] at hd
        rw [← hd]
        rfl
      clear hd hq h0
      go_wp2_with fail
      go_ret
      exact ⟨by rw [← HD.out]; rfl, hb⟩
end Go.Proofs.YtcgohceakjjlhaaDoor
