/- Texts of this claim, one behind the other: part 7. -/
import Derived.Test.YtcgjnonlndaoeaaGreatDoorU6FnOverlaps
import Derived.Laws.EntriesVeiled
import Derived.Outline
import Derived.WalkLawsBesides
import Derived.WalkSpells
import Derived.BigQuiet
import Derived.Deep.QuietTactic
import Derived.Deep.RegionHeld3
import Derived.Deep.RegionWith
import Derived.Deep.DeepCutAuto
import Derived.Deep.CutBlock
import Derived.Deep.DrawnRows
import Derived.Shelf.Spec.TrailingZeros
import Derived.MapKept
import Derived.ChangeKeysEq
import Derived.Carry
import Derived.Test.YtcgjnonlndaoeaaGreatDoorRows
import Derived.Lib.LaidTab
import Derived.LaidMore
import Derived.Stop.LaidErr
import Derived.MakeChecks
/- The program's search: its lists by bits, the covering search. -/
namespace Go.Proofs.YtcgjnonlndaoeaaGreatDoor
open Go.RowKit
set_option linter.unusedVariables false
attribute [local go_sem ↓] Go.wp_at_zero Go.wp_at_succ

/-- A search was made. -/
def RetSr (w : World) (L : List Int) (v : Value) (e : Ending) (w' : World) : Prop :=
  ∃ gs hs, e = .returned (.pointer (some ⟨gs, 0, none⟩)) ∧ Srch (gs + 1) gs w' hs (fB L) v .nilFunc ∧ w.heap.size ≤ gs ∧ Below w.heap.size w w'
theorem Srch.fresh (w : World) (v t : Value) : Srch (w.heap.size + 1) w.heap.size (w.alloc (.cells (srC (List.replicate 64 (Option.none, 0, 0)) v t).toArray 90)) (List.replicate 64 (Option.none, 0, 0)) (fB []) v t := by
  refine ⟨Blk.new _ _ _, by simp, fB_len _, fun k a b => ?_, Nat.lt_succ_self _, fun i j a b hij g e => ?_⟩
  · rw [List.getElem_replicate, fB_at]
    exact own_nil _ _ _ _
  · rw [List.getElem_replicate] at e
    cases e
set_option maxRecDepth 100000 in
set_option maxHeartbeats 3200000 in
theorem newSearch_i (A : Option Addr) (q c : Nat) (L : List Int) (w : World) (hr : Rd w A (vI L)) (hl : L.length = q) (hq : q ≤ 1048576) (hM : Msk 36 L) :
    Calls Tryz.prog 46 #[.slice A q c, .nilFunc] w (RetSr w L .nilFunc) := by
  have hs0 := Srch.fresh w .nilFunc .nilFunc
  have HS0 := Lib.hid hs0
  have HL := Lib.hid hl
  have HR := Lib.hid hr
  have HM := Lib.hid hM
  clear hs0 hl hr hM
  go_enter Tryz.func46, Tryz.ntmps46
  go_wp2_with fail
  go_loopw [14] (fun e14 wr => ∃ (i : Nat) (hs : List H), i ≤ q ∧ e14 = .int .i64 i ∧ Srch (w.heap.size + 1) w.heap.size wr hs (fB (L.take i)) .nilFunc .nilFunc ∧ Below w.heap.size w wr) (fun e14 _ => q - (intOf e14).toNat)
  case atStart => exact ⟨0, _, Nat.zero_le _, rfl, HS0.out, bel_alloc (Below.refl _ _) _⟩
  case round =>
    clear HS0
    obtain ⟨i, hs, hi, rfl, hS, hb⟩ := hrel
    have HS := Lib.hid hS
    have HB := Lib.hid hb
    clear hS hb
    by_cases hlt : i < q
    · have hi0 : (0 : Int) ≤ (i : Int) := by omega
      have hi1 : (i : Int) < (q : Int) := by omega
      have hil : i < L.length := by rw [HL.out]; exact hlt
      obtain ⟨g, off, hA, hg, d1⟩ := RdI.at_ (HR.out.below HB.out) hil
      obtain ⟨m, hm, hm36⟩ := HM.out _ (List.getElem_mem hil)
      rw [hm] at d1
      have hst : L.take (i + 1) = L.take i ++ [(m : Int)] := by rw [List.take_succ_eq_append_getElem hil, hm]
      obtain ⟨L0, hL0⟩ : ∃ L0, L.take i = L0 := ⟨_, rfl⟩
      have hL0l : L0.length ≤ 1048576 := by rw [← hL0, List.length_take]; omega
      rw [hL0] at HS hst
      have HST := Lib.hid hst
      have HM36 := Lib.hid hm36
      subst hA
      clear hst hm hL0 hm36
      go_wp2_with fail
      go_loopw [8] (fun e8 wr => ∃ (k : Nat) (hs : List H), k ≤ 36 ∧ e8 = .int .i64 k ∧ Srch (w.heap.size + 1) w.heap.size wr hs (fB2 L0 (m : Int) k) .nilFunc .nilFunc ∧ Below w.heap.size w wr) (fun e8 _ => 36 - (intOf e8).toNat)
      case atStart => exact ⟨0, hs, Nat.zero_le _, rfl, by rw [fB2_zero]; exact HS.out, HB.out⟩
      case round =>
        clear HS HB d1 hg
        obtain ⟨k, hs, hk, rfl, hS, hb⟩ := hrel
        have HS := Lib.hid hS
        have HB := Lib.hid hb
        clear hS hb
        have hk0 : (0 : Int) ≤ (k : Int) := by omega
        have hk64 : (k : Int) ≤ 64 := by omega
        have hkl : (k : Int) < 64 := by omega
        have ek : IntKind.i64.wrap (k : Int) = (k : Int) := Go.IntWalk.i64_in _ (by omega)
        have hbit := bit_testP m k (by have := HM36.out; omega)
        obtain ⟨d, hd⟩ : ∃ d, m / 2 ^ k = d := ⟨_, rfl⟩
        have hdI : (m : Int) / 2 ^ k = (d : Int) := by rw [← hd]; simp
        rw [hdI] at hbit
        by_cases hd0 : d = 0
        · have hltm : m < 2 ^ k := by
            rw [hd0] at hd
            rcases (Nat.div_eq_zero_iff).1 hd with h | h
            · have := Nat.pow_pos (n := k) (show 0 < 2 by decide); omega
            · exact h
          have HE := Lib.hid (fB2_end L0 (m : Int) (k := k) (by rw [Int.toNat_natCast]; exact hltm))
          have hne : ((d : Int) != 0) = false := by simp [hd0]
          clear hltm hd hd0 hbit
          go_wp2_with fail
          exact ⟨⟨i + 1, hs, by omega, by go_num, by rw [HST.out, ← HE.out]; exact HS.out, HB.out⟩, by simp [intOf]; omega⟩
        · have hk36 : k < 36 := by
            rcases Nat.lt_or_ge k 36 with h | h
            · exact h
            · exfalso
              apply hd0
              rw [← hd]
              exact Nat.div_eq_of_lt (by rw [show k = 36 by omega]; exact HM36.out)
          have hne : ((d : Int) != 0) = true := by simp [hd0]
          clear hd hd0
          cases hbt : m.testBit k with
          | false =>
            rw [hbt] at hbit
            have HE := Lib.hid (fB2_no L0 (m : Int) (k := k) (by rw [Int.toNat_natCast]; exact hbt))
            clear hbt
            go_wp2_with fail
            exact ⟨⟨k + 1, hs, by omega, by go_num, by rw [HE.out]; exact HS.out, HB.out⟩, by simp [intOf]; omega⟩
          | true =>
            rw [hbt] at hbit
            have HE := Lib.hid (fB2_yes L0 (m : Int) (k := k) (by omega) (by rw [Int.toNat_natCast]; exact hbt))
            have hkh : k < hs.length := by rw [HS.out.hlen]; omega
            have hkf : k < (fB2 L0 (m : Int) k).length := by rw [fB2_len]; omega
            have d0 := HS.out.cell hkh
            have o0 := HS.out.row k hkh hkf
            rw [fB2_now] at o0
            have hrl : (bitL k L0).length = hs[k].2.1 := by have := own_len o0; rw [vI_length] at this; omega
            have hrl2 := bitL_len k L0
            obtain ⟨D, hD⟩ : ∃ D, hs[k].1 = D := ⟨_, rfl⟩
            obtain ⟨nn, hnn⟩ : ∃ nn, hs[k].2.1 = nn := ⟨_, rfl⟩
            obtain ⟨cc, hcc⟩ : ∃ cc, hs[k].2.2 = cc := ⟨_, rfl⟩
            rw [hD, hnn, hcc] at d0 o0
            rw [hnn] at hrl
            have f0 := HS.out.blk.frozen k
            have l0 := HS.out.blk.lt
            have HO := Lib.hid o0
            have HD := Lib.hid hD
            have HKH := Lib.hid hkh
            have HKF := Lib.hid hkf
            have hnn2 : nn ≤ 1048576 := by omega
            clear hbt o0 hD hnn hcc hrl hrl2
            go_wp2_with fail
            go_region_law ((refine step_appI rfl (.tmp 36) (.tmp 38) rfl (w.heap.size + 1) D nn cc (bitL k L0) (by simp [Act.eval]) (own_keep HO.out (bel_alloc (bel_drew (Below.refl _ _)) _)) (some ⟨wr.heap.size, 0, none⟩) 1 1 [(m : Int)] (by simp [Act.eval]) (rd_newI _ _ _) rfl (by omega) (by have := HB.out.size; simp; omega) ?_); intro D8 c8 w8 ho8 hg8 hat8; have HO8 := Lib.hid ho8; have HG8 := Lib.hid hg8; have HAT8 := Lib.hid hat8; clear ho8 hg8 hat8; have HB8 := Lib.hid ((HS.out.blk.below (bel_alloc (bel_drew (Below.refl _ _)) _)).grown HG8.out (fun e => by have := (own_lt HO.out _ e.symm).1; omega)); have d8 : w8.cell? ⟨w.heap.size, k, none⟩ = some (.slice D nn cc) := keep_grown HG8.out (keep_alloc (keep_drew d0)) (fun e => by have h9 := (own_lt HO.out _ e.symm).1; exact absurd h9 (Nat.not_succ_le_self _)); have f8 : w8.frozen? ⟨w.heap.size, k, none⟩ = false := HB8.out.frozen k; have l8 : w.heap.size < w8.heap.size := HB8.out.lt)
            all_goals
              have hP := (HS.out.below (bel_alloc (bel_drew (Below.refl _ _)) (.cells #[.int .i64 (m : Int)] 3))).put hkh hkf HO8.out (by rw [HD.out]; exact HG8.out) (by rw [HD.out]; exact at_or HAT8.out (Nat.le_refl _))
              rw [← HE.out] at hP
              have hb8 : Below w.heap.size w (w8.setCell ⟨w.heap.size, k, none⟩ (.slice D8 (nn + 1) c8)) := bel_set (bel_app (bel_trans HB.out (bel_alloc (bel_drew (Below.refl _ _)) _)) HG8.out (fun g9 e9 => by have := (own_lt HO.out g9 e9).1; omega)) (Nat.le_refl _)
              have HP := Lib.hid hP
              have HB9 := Lib.hid hb8
              clear hP hb8
              go_wp2_with fail
              exact ⟨⟨k + 1, _, by omega, by go_num, HP.out, HB9.out⟩, by simp [intOf]; omega⟩
    · obtain rfl : i = q := by omega
      have hi1 : ¬ (i : Int) < (i : Int) := by omega
      have hE : L.take i = L := List.take_of_length_le (by rw [HL.out]; exact Nat.le_refl _)
      have HE := Lib.hid hE
      clear hE
      go_wp2_with fail
      go_ret
      exact ⟨_, hs, rfl, by have := HS.out; rwa [HE.out] at this, Nat.le_refl _, HB.out⟩
end Go.Proofs.YtcgjnonlndaoeaaGreatDoor

/- A search that calls a function back:  The program's search: its lists by bits, the covering search. -/
namespace Go.Proofs.YtcgjnonlndaoeaaGreatDoor
open Go.RowKit
set_option linter.unusedVariables false
attribute [local go_sem ↓] Go.wp_at_zero Go.wp_at_succ

set_option maxRecDepth 100000 in
set_option maxHeartbeats 3200000 in
theorem newSearch_f (fn : Fn) (cap : Array Value) (A : Option Addr) (q c : Nat) (L : List Int) (w : World) (hr : Rd w A (vI L)) (hl : L.length = q) (hq : q ≤ 1048576) (hM : Msk 36 L) :
    Calls Tryz.prog 46 #[.slice A q c, (.func fn #[] cap)] w (RetSr w L (.func fn #[] cap)) := by
  have hs0 := Srch.fresh w (.func fn #[] cap) .nilFunc
  have HS0 := Lib.hid hs0
  have HL := Lib.hid hl
  have HR := Lib.hid hr
  have HM := Lib.hid hM
  clear hs0 hl hr hM
  go_enter Tryz.func46, Tryz.ntmps46
  go_wp2_with fail
  go_loopw [14] (fun e14 wr => ∃ (i : Nat) (hs : List H), i ≤ q ∧ e14 = .int .i64 i ∧ Srch (w.heap.size + 1) w.heap.size wr hs (fB (L.take i)) (.func fn #[] cap) .nilFunc ∧ Below w.heap.size w wr) (fun e14 _ => q - (intOf e14).toNat)
  case atStart => exact ⟨0, _, Nat.zero_le _, rfl, HS0.out, bel_alloc (Below.refl _ _) _⟩
  case round =>
    clear HS0
    obtain ⟨i, hs, hi, rfl, hS, hb⟩ := hrel
    have HS := Lib.hid hS
    have HB := Lib.hid hb
    clear hS hb
    by_cases hlt : i < q
    · have hi0 : (0 : Int) ≤ (i : Int) := by omega
      have hi1 : (i : Int) < (q : Int) := by omega
      have hil : i < L.length := by rw [HL.out]; exact hlt
      obtain ⟨g, off, hA, hg, d1⟩ := RdI.at_ (HR.out.below HB.out) hil
      obtain ⟨m, hm, hm36⟩ := HM.out _ (List.getElem_mem hil)
      rw [hm] at d1
      have hst : L.take (i + 1) = L.take i ++ [(m : Int)] := by rw [List.take_succ_eq_append_getElem hil, hm]
      obtain ⟨L0, hL0⟩ : ∃ L0, L.take i = L0 := ⟨_, rfl⟩
      have hL0l : L0.length ≤ 1048576 := by rw [← hL0, List.length_take]; omega
      rw [hL0] at HS hst
      have HST := Lib.hid hst
      have HM36 := Lib.hid hm36
      subst hA
      clear hst hm hL0 hm36
      go_wp2_with fail
      go_loopw [8] (fun e8 wr => ∃ (k : Nat) (hs : List H), k ≤ 36 ∧ e8 = .int .i64 k ∧ Srch (w.heap.size + 1) w.heap.size wr hs (fB2 L0 (m : Int) k) (.func fn #[] cap) .nilFunc ∧ Below w.heap.size w wr) (fun e8 _ => 36 - (intOf e8).toNat)
      case atStart => exact ⟨0, hs, Nat.zero_le _, rfl, by rw [fB2_zero]; exact HS.out, HB.out⟩
      case round =>
        clear HS HB d1 hg
        obtain ⟨k, hs, hk, rfl, hS, hb⟩ := hrel
        have HS := Lib.hid hS
        have HB := Lib.hid hb
        clear hS hb
        have hk0 : (0 : Int) ≤ (k : Int) := by omega
        have hk64 : (k : Int) ≤ 64 := by omega
        have hkl : (k : Int) < 64 := by omega
        have ek : IntKind.i64.wrap (k : Int) = (k : Int) := Go.IntWalk.i64_in _ (by omega)
        have hbit := bit_testP m k (by have := HM36.out; omega)
        obtain ⟨d, hd⟩ : ∃ d, m / 2 ^ k = d := ⟨_, rfl⟩
        have hdI : (m : Int) / 2 ^ k = (d : Int) := by rw [← hd]; simp
        rw [hdI] at hbit
        by_cases hd0 : d = 0
        · have hltm : m < 2 ^ k := by
            rw [hd0] at hd
            rcases (Nat.div_eq_zero_iff).1 hd with h | h
            · have := Nat.pow_pos (n := k) (show 0 < 2 by decide); omega
            · exact h
          have HE := Lib.hid (fB2_end L0 (m : Int) (k := k) (by rw [Int.toNat_natCast]; exact hltm))
          have hne : ((d : Int) != 0) = false := by simp [hd0]
          clear hltm hd hd0 hbit
          go_wp2_with fail
          exact ⟨⟨i + 1, hs, by omega, by go_num, by rw [HST.out, ← HE.out]; exact HS.out, HB.out⟩, by simp [intOf]; omega⟩
        · have hk36 : k < 36 := by
            rcases Nat.lt_or_ge k 36 with h | h
            · exact h
            · exfalso
              apply hd0
              rw [← hd]
              exact Nat.div_eq_of_lt (by rw [show k = 36 by omega]; exact HM36.out)
          have hne : ((d : Int) != 0) = true := by simp [hd0]
          clear hd hd0
          cases hbt : m.testBit k with
          | false =>
            rw [hbt] at hbit
            have HE := Lib.hid (fB2_no L0 (m : Int) (k := k) (by rw [Int.toNat_natCast]; exact hbt))
            clear hbt
            go_wp2_with fail
            exact ⟨⟨k + 1, hs, by omega, by go_num, by rw [HE.out]; exact HS.out, HB.out⟩, by simp [intOf]; omega⟩
          | true =>
            rw [hbt] at hbit
            have HE := Lib.hid (fB2_yes L0 (m : Int) (k := k) (by omega) (by rw [Int.toNat_natCast]; exact hbt))
            have hkh : k < hs.length := by rw [HS.out.hlen]; omega
            have hkf : k < (fB2 L0 (m : Int) k).length := by rw [fB2_len]; omega
            have d0 := HS.out.cell hkh
            have o0 := HS.out.row k hkh hkf
            rw [fB2_now] at o0
            have hrl : (bitL k L0).length = hs[k].2.1 := by have := own_len o0; rw [vI_length] at this; omega
            have hrl2 := bitL_len k L0
            obtain ⟨D, hD⟩ : ∃ D, hs[k].1 = D := ⟨_, rfl⟩
            obtain ⟨nn, hnn⟩ : ∃ nn, hs[k].2.1 = nn := ⟨_, rfl⟩
            obtain ⟨cc, hcc⟩ : ∃ cc, hs[k].2.2 = cc := ⟨_, rfl⟩
            rw [hD, hnn, hcc] at d0 o0
            rw [hnn] at hrl
            have f0 := HS.out.blk.frozen k
            have l0 := HS.out.blk.lt
            have HO := Lib.hid o0
            have HD := Lib.hid hD
            have HKH := Lib.hid hkh
            have HKF := Lib.hid hkf
            have hnn2 : nn ≤ 1048576 := by omega
            clear hbt o0 hD hnn hcc hrl hrl2
            go_wp2_with fail
            go_region_law ((refine step_appI rfl (.tmp 36) (.tmp 38) rfl (w.heap.size + 1) D nn cc (bitL k L0) (by simp [Act.eval]) (own_keep HO.out (bel_alloc (bel_drew (Below.refl _ _)) _)) (some ⟨wr.heap.size, 0, none⟩) 1 1 [(m : Int)] (by simp [Act.eval]) (rd_newI _ _ _) rfl (by omega) (by have := HB.out.size; simp; omega) ?_); intro D8 c8 w8 ho8 hg8 hat8; have HO8 := Lib.hid ho8; have HG8 := Lib.hid hg8; have HAT8 := Lib.hid hat8; clear ho8 hg8 hat8; have HB8 := Lib.hid ((HS.out.blk.below (bel_alloc (bel_drew (Below.refl _ _)) _)).grown HG8.out (fun e => by have := (own_lt HO.out _ e.symm).1; omega)); have d8 : w8.cell? ⟨w.heap.size, k, none⟩ = some (.slice D nn cc) := keep_grown HG8.out (keep_alloc (keep_drew d0)) (fun e => by have h9 := (own_lt HO.out _ e.symm).1; exact absurd h9 (Nat.not_succ_le_self _)); have f8 : w8.frozen? ⟨w.heap.size, k, none⟩ = false := HB8.out.frozen k; have l8 : w.heap.size < w8.heap.size := HB8.out.lt)
            all_goals
              have hP := (HS.out.below (bel_alloc (bel_drew (Below.refl _ _)) (.cells #[.int .i64 (m : Int)] 3))).put hkh hkf HO8.out (by rw [HD.out]; exact HG8.out) (by rw [HD.out]; exact at_or HAT8.out (Nat.le_refl _))
              rw [← HE.out] at hP
              have hb8 : Below w.heap.size w (w8.setCell ⟨w.heap.size, k, none⟩ (.slice D8 (nn + 1) c8)) := bel_set (bel_app (bel_trans HB.out (bel_alloc (bel_drew (Below.refl _ _)) _)) HG8.out (fun g9 e9 => by have := (own_lt HO.out g9 e9).1; omega)) (Nat.le_refl _)
              have HP := Lib.hid hP
              have HB9 := Lib.hid hb8
              clear hP hb8
              go_wp2_with fail
              exact ⟨⟨k + 1, _, by omega, by go_num, HP.out, HB9.out⟩, by simp [intOf]; omega⟩
    · obtain rfl : i = q := by omega
      have hi1 : ¬ (i : Int) < (i : Int) := by omega
      have hE : L.take i = L := List.take_of_length_le (by rw [HL.out]; exact Nat.le_refl _)
      have HE := Lib.hid hE
      clear hE
      go_wp2_with fail
      go_ret
      exact ⟨_, hs, rfl, by have := HS.out; rwa [HE.out] at this, Nat.le_refl _, HB.out⟩
end Go.Proofs.YtcgjnonlndaoeaaGreatDoor

/- The place of the least bit: the library's function, out of its table. -/
namespace Go.Proofs.YtcgjnonlndaoeaaGreatDoor
open Go.RowKit
set_option linter.unusedVariables false
attribute [local go_sem ↓] Go.wp_at_zero Go.wp_at_succ

/-- The library's table is there. -/
def Tb (w : World) : Prop := ∀ j, j < Lib.deBruijn64tab.length → w.cell? ⟨1, j, none⟩ = some (.int .u8 (Lib.deBruijn64tab.getD j 0))
theorem Tb.below {w w' : World} (h : Tb w) (hb : Below w.heap.size w w') : Tb w' := fun j hj => keep_below hb (h j hj)
theorem TZ64_l (x : Nat) (w : World) (h0 : x ≠ 0) (hx : x < 2 ^ 62) (hT : Tb w) : Calls Tryz.prog 95 #[.int .u64 (x : Int)] w (Ret w (.int .i64 (lowN x : Nat))) := by
  have hx64 : x < 18446744073709551616 := by omega
  obtain ⟨hlow, hk⟩ := Lib.lowest_bit 64 x h0 hx64
  obtain ⟨hi, htab⟩ := Lib.deBruijn64_at _ hk
  have hcell := hT _ hi
  rw [htab] at hcell
  have key := tz64_key x _ hx64 h0 hlow
  have hx0 : ((x : Int) == 0) = false := by simp; omega
  obtain ⟨k, hk2⟩ : ∃ k, lowN x = k := ⟨_, rfl⟩
  have hk3 : Lib.ctz 64 x = k := hk2
  rw [hk3] at hcell hk key hi
  rw [hk2]
  obtain ⟨idx, hidx⟩ : ∃ idx, 2 ^ k * 285870213051353865 % 18446744073709551616 / 288230376151711744 = idx := ⟨_, rfl⟩
  rw [hidx] at hcell key
  have hi2 : idx < 64 := by rw [← hidx]; omega
  clear hidx hi hlow htab hk2 hk3 hT
  go_enter Tryz.func95, Tryz.ntmps95
  go_wp2_with (simp only [key])
  go_ret
  exact ⟨rfl, Below.refl _ _⟩
theorem TZ_l (x : Nat) (w : World) (h0 : x ≠ 0) (hx : x < 2 ^ 62) (hT : Tb w) : Calls Tryz.prog 74 #[.int .u64 (x : Int)] w (Ret w (.int .i64 (lowN x : Nat))) := by
  have h := TZ64_l x w h0 hx hT
  have H := Lib.hid h
  have hw : IntKind.u64.wrap (x : Int) = (x : Int) := by rw [IntKind.wrap_u64]; omega
  clear h hT h0
  go_enter Tryz.func74, Tryz.ntmps74
  go_wp2_with fail
  refine H.out.mono ?_
  rintro e w1 ⟨rfl, hb1⟩
  go_wp2_with fail
  go_ret
  exact ⟨rfl, hb1⟩
end Go.Proofs.YtcgjnonlndaoeaaGreatDoor

/- The program's covering search. -/
namespace Go.Proofs.YtcgjnonlndaoeaaGreatDoor
open Go.RowKit
set_option linter.unusedVariables false
attribute [local go_sem ↓] Go.wp_at_zero Go.wp_at_succ

/-- What the program's covering search answers. -/
def RetCv (w : World) (l : List Int) (o : Option (List Int)) (e : Ending) (w' : World) : Prop :=
  ∃ A n c, e = .returned (.tuple #[.slice A n c, .bool o.isSome]) ∧ (∀ p, o = some p → Rd w' A (vI (l ++ p)) ∧ (l ++ p).length = n) ∧ Below w.heap.size w w'
set_option maxRecDepth 100000 in
set_option maxHeartbeats 3200000 in
theorem cover_i (gs base : Nat) (hs : List H) (L : List Int) (v t : Value) (hLl : L.length ≤ 1048576) (hM : Msk 36 L) : ∀ (most free : Nat) (l : List Int) (A : Option Addr) (n c : Nat) (w : World), Srch base gs w hs (fB L) v t → Tb w → Rd w A (vI l) → l.length = n → n + most ≤ 1000 → free < 2 ^ 36 →
    Calls Tryz.prog 49 #[.pointer (some ⟨gs, 0, none⟩), .int .i64 (free : Int), .int .i64 (most : Int), .slice A n c] w (RetCv w l (covP L most free))
  | most, free, l, A, n, c, w, hS, hT, hr, hl, hnm, hf => by
    have HS := Lib.hid hS
    have HT := Lib.hid hT
    have HR := Lib.hid hr
    have HL := Lib.hid hl
    have HM := Lib.hid hM
    clear hS hT hr hl
    by_cases h0 : free = 0
    · have hz : ((free : Int) == 0) = true := by simp [h0]
      have HV : Hid (covP L most free = some []) := by show _ = _; rw [h0, covP_zero]
      clear h0 hM
      go_enter Tryz.func49, Tryz.ntmps49
      go_wp2_with fail
      go_ret2
      exact ⟨_, _, _, by rw [HV.out]; rfl, fun p hp => by rw [HV.out] at hp; injection hp with hp; subst hp; rw [List.append_nil]; exact ⟨HR.out, HL.out⟩, Below.refl _ _⟩
    · have hz : ((free : Int) == 0) = false := by simp [h0]
      by_cases hn0 : most = 0
      · have hz2 : ((most : Int) == 0) = true := by simp [hn0]
        have HV : Hid (covP L most free = none) := by show _ = _; rw [hn0, covP_none L h0]
        clear h0 hM hn0
        go_enter Tryz.func49, Tryz.ntmps49
        go_wp2_with fail
        go_ret2
        exact ⟨_, _, _, by rw [HV.out]; rfl, (fun p hp => by rw [HV.out] at hp; cases hp), Below.refl _ _⟩
      · have hz2 : ((most : Int) == 0) = false := by simp [hn0]
        obtain ⟨n1, hn1⟩ : ∃ n1, most = n1 + 1 := ⟨most - 1, by omega⟩
        have hnI : (most : Int) - 1 = (n1 : Int) := by omega
        have en1 : IntKind.i64.wrap (n1 : Int) = (n1 : Int) := Go.IntWalk.i64_in _ (by omega)
        obtain ⟨hlb, hl64⟩ := lowN_bit h0 (by omega)
        have htz : ∀ w', Below w.heap.size w w' → Calls Tryz.prog 74 #[.int .u64 (free : Int)] w' (Ret w' (.int .i64 (lowN free : Nat))) := fun w' hb => TZ_l free w' h0 (by omega) (HT.out.below hb)
        have hV : covP L most free = (bitL (lowN free) L).findSome? fun m => (covP L n1 (free - (free &&& m.toNat))).map (m :: ·) := by rw [hn1, covP_succ L n1 h0]
        have IH : ∀ (free : Nat) (l : List Int) (A : Option Addr) (n c : Nat) (w : World), Srch base gs w hs (fB L) v t → Tb w → Rd w A (vI l) → l.length = n → n + n1 ≤ 1000 → free < 2 ^ 36 →
          Calls Tryz.prog 49 #[.pointer (some ⟨gs, 0, none⟩), .int .i64 (free : Int), .int .i64 (n1 : Int), .slice A n c] w (RetCv w l (covP L n1 free)) := fun free l A n c w => cover_i gs base hs L v t hLl hM n1 free l A n c w
        obtain ⟨low, hlo⟩ : ∃ low, lowN free = low := ⟨_, rfl⟩
        rw [hlo] at htz hl64 hlb hV
        have hlow36 : low < 36 := by
          rcases Nat.lt_or_ge low 36 with h | h
          · exact h
          · rw [Nat.testBit_lt_two_pow (Nat.lt_of_lt_of_le hf (Nat.pow_le_pow_right (by decide) h))] at hlb
            cases hlb
        have hlh : low < hs.length := by rw [HS.out.hlen]; omega
        have hlf : low < (fB L).length := by rw [fB_len]; omega
        have d0 := HS.out.cell hlh
        have o0 := HS.out.row low hlh hlf
        rw [fB_at] at o0
        obtain ⟨M, hMM⟩ : ∃ M, bitL low L = M := ⟨_, rfl⟩
        have hMl : M.length ≤ 1048576 := by have := bitL_len low L; rw [hMM] at this; omega
        have hMk : Msk 36 M := hMM ▸ bitL_msk hM
        rw [hMM] at o0 hV
        obtain ⟨D, hD⟩ : ∃ D, hs[low].1 = D := ⟨_, rfl⟩
        obtain ⟨q, hq⟩ : ∃ q, hs[low].2.1 = q := ⟨_, rfl⟩
        obtain ⟨cc, hcc⟩ : ∃ cc, hs[low].2.2 = cc := ⟨_, rfl⟩
        rw [hD, hq, hcc] at d0 o0
        have hMq : M.length = q := by have := own_len o0; rw [vI_length] at this; omega
        have l0 := HS.out.blk.lt
        have hcv : IntKind.u64.wrap (free : Int) = (free : Int) := wraps_u64 _ (by omega) (by omega)
        have hlo0 : (0 : Int) ≤ (low : Int) := by omega
        have hlo64 : (low : Int) < 64 := by omega
        have HRM := Lib.hid (Rd.of_own o0)
        have HMQ := Lib.hid hMq
        have HMK := Lib.hid hMk
        have HV := Lib.hid hV
        have HIH := Lib.hid @IH
        have HTZ := Lib.hid @htz
        have HF := Lib.hid hf
        have hqm : q ≤ 1048576 := by omega
        have hn1000 : n + n1 + 1 ≤ 1000 := by omega
        clear h0 hn0 hn1 hlb hl64 htz hV IH hlo o0 hMM hMl hMk hD hq hcc hMq hM hlh hlf hf
        go_enter Tryz.func49, Tryz.ntmps49
        go_wp2_with fail
        (refine wp_region_below (by kernel_rfl) (by kernel_rfl) ?_; (repeat (first | go_big_quiet_skip | (refine quietV (v := ?_) (by rfl) rfl (fun w' hbw => ?_) ?_; rotate_left; ((try dsimp only at hbw); have hbc := (bcell hbw).1; have hbf := (bcell hbw).2; go_simp; first | done | with_reducible rfl | (with_reducible exact callsB (v := .int .i64 (low : Int)) (HTZ.out _ (by with_reducible assumption)) hbw)); simp only [List.setIfInBounds_toArray, List.set_cons_zero, List.set_cons_succ]))); refine wpQuiet_nil ?_; intro w1 hb1)
        have HB1 := Lib.hid hb1
        clear hb1 d0 l0
        go_wp2_with fail
        go_loopw [28] (fun e28 wr => ∃ i : Nat, i ≤ q ∧ e28 = .int .i64 i ∧ (∀ m ∈ M.take i, (covP L n1 (free - (free &&& m.toNat))).map (m :: ·) = none) ∧ Below w.heap.size w wr) (fun e28 _ => q - (intOf e28).toNat)
        case atStart => exact ⟨0, Nat.zero_le _, rfl, by simp, HB1.out⟩
        case round =>
          clear HB1
          obtain ⟨i, hi, rfl, hno, hb⟩ := hrel
          have HNO := Lib.hid hno
          have HB := Lib.hid hb
          clear hno hb
          by_cases hlt : i < q
          · have hi0 : (0 : Int) ≤ (i : Int) := by omega
            have hi1 : (i : Int) < (q : Int) := by omega
            have hil : i < M.length := by rw [HMQ.out]; exact hlt
            obtain ⟨g, off, hA, hg, d1⟩ := RdI.at_ (HRM.out.below HB.out) hil
            obtain ⟨m, hm, hm36⟩ := HMK.out _ (List.getElem_mem hil)
            rw [hm] at d1
            obtain ⟨f2, hf2⟩ : ∃ f2, free - (free &&& m) = f2 := ⟨_, rfl⟩
            have hand : bits .andNot .i64 (free : Int) (m : Int) = (f2 : Int) := by rw [i64_andNot free m (by have := HF.out; omega) (by omega), hf2]
            have hf236 : f2 < 2 ^ 36 := by have := HF.out; omega
            have hg2 : (covP L n1 (free - (free &&& M[i].toNat))).map (M[i] :: ·) = (covP L n1 f2).map ((m : Int) :: ·) := by rw [hm, Int.toNat_natCast, hf2]
            have HG := Lib.hid hg2
            have HF2 := Lib.hid hf236
            obtain ⟨o, ho⟩ : ∃ o, covP L n1 f2 = o := ⟨_, rfl⟩
            rw [ho] at HG
            have HO := Lib.hid ho
            subst hA
            clear hm hf2 hg2 hf236 ho
            go_wp2_with fail
            refine (copyInts_i A n c l _ (HR.out.below HB.out) HL.out (by omega)).mono ?_
            rintro e w2 ⟨D2, q2, c2, rfl, hO2, hb2⟩
            obtain rfl : q2 = n := by have := own_len hO2; rw [vI_length, HL.out] at this; omega
            have HO2 := Lib.hid hO2
            have HB2 := Lib.hid (bel_trans HB.out hb2)
            have HBR := Lib.hid hb2
            clear hO2 hb2
            go_wp2_with (at_builtin; go_must (refine app_I _ rfl _ _ rfl wr.heap.size _ _ _ l rfl (HO2.out.alloc _) _ _ _ [(m : Int)] rfl (rd_newI _ _ _) rfl (by omega) (by have := HBR.out.size; simp; omega) ?_); intro D6 c6 w6 ho6 hg6 hat6; have HO6 := Lib.hid ho6; have HG6 := Lib.hid hg6; clear ho6 hg6 hat6)
            have hb6 : Below w.heap.size w w6 := bel_app (bel_alloc HB2.out _) HG6.out (fun g9 e9 => by have := (own_lt HO2.out g9 e9).1; have := HB.out.size; omega)
            have HB6 := Lib.hid hb6
            have hC := HIH.out f2 (l ++ [(m : Int)]) D6 (q2 + 1) c6 w6 (HS.out.below hb6) (HT.out.below hb6) (Rd.of_own HO6.out) (by rw [List.length_append, HL.out]; rfl) (by omega) HF2.out
            rw [HO.out] at hC
            have HC := Lib.hid hC
            clear hC hb6
            cases o with
            | none =>
              have HS2 := Lib.hid (none_succ hil HNO.out (HG.out.trans rfl))
              refine HC.out.mono ?_
              rintro e w7 ⟨A7, n7, c7, rfl, hp7, hb7⟩
              clear hp7
              have HB7 := Lib.hid (bel_trans HB6.out hb7)
              clear hb7
              go_wp2_with fail
              exact ⟨⟨i + 1, by omega, by go_num, HS2.out, HB7.out⟩, by simp [intOf]; omega⟩
            | some p =>
              have HF9 := Lib.hid (find_at (f := fun m => (covP L n1 (free - (free &&& m.toNat))).map (m :: ·)) hil HNO.out (HG.out.trans rfl))
              refine HC.out.mono ?_
              rintro e w7 ⟨A7, n7, c7, rfl, hp7, hb7⟩
              have hp8 := hp7 p rfl
              have HP8 := Lib.hid hp8
              have HB7 := Lib.hid (bel_trans HB6.out hb7)
              clear hb7 hp7 hp8
              go_wp2_with fail
              go_ret2
              exact ⟨A7, n7, c7, by rw [HV.out, HF9.out]; rfl, fun p9 hp9 => by
                rw [HV.out, HF9.out] at hp9
                injection hp9 with hp9
                subst hp9
                have h9 := HP8.out
                rw [List.append_assoc] at h9
                exact h9, HB7.out⟩
          · have hi1 : ¬ (i : Int) < (q : Int) := by omega
            have HS2 := Lib.hid (find_none (show M.length ≤ i by rw [HMQ.out]; omega) HNO.out)
            go_wp2_with fail
            go_ret2
            exact ⟨_, _, _, by rw [HV.out, HS2.out]; rfl, (fun p hp => by rw [HV.out, HS2.out] at hp; cases hp), HB.out⟩
termination_by most => most
decreasing_by omega
end Go.Proofs.YtcgjnonlndaoeaaGreatDoor

/- The program's search for a tiling: the function that is called back. -/
namespace Go.Proofs.YtcgjnonlndaoeaaGreatDoor
open Go.RowKit
set_option linter.unusedVariables false
attribute [local go_sem ↓] Go.wp_at_zero Go.wp_at_succ

/-- All but two old blocks stand. -/
structure Fl2 (g8 g9 : Nat) (w w' : World) : Prop where
  os : w'.os = w.os
  tape : w'.tape = w.tape
  output : w'.output = w.output
  size : w.heap.size ≤ w'.heap.size
  block : ∀ b, b < w.heap.size → b ≠ g8 → b ≠ g9 → w'.heap[b]? = w.heap[b]?
theorem Fl2.pre {g8 g9 : Nat} {w w1 w2 : World} (h : Below w.heap.size w w1) (k : Fl2 g8 g9 w1 w2) : Fl2 g8 g9 w w2 :=
  ⟨k.os.trans h.os, k.tape.trans h.tape, k.output.trans h.output, Nat.le_trans h.size k.size, fun b hb h8 h9 => (k.block b (Nat.lt_of_lt_of_le hb h.size) h8 h9).trans (h.block b hb)⟩
theorem Fl2.below {g8 g9 base : Nat} {w w1 w2 : World} (h : Below base w w1) (k : Fl2 g8 g9 w1 w2) (h1 : base ≤ w1.heap.size) (h8 : base ≤ g8) (h9 : base ≤ g9) : Below base w w2 :=
  ⟨k.os.trans h.os, k.tape.trans h.tape, k.output.trans h.output, Nat.le_trans h.size k.size, fun b hb => (k.block b (by omega) (by omega) (by omega)).trans (h.block b hb)⟩
/-- The state that the callback works on: nothing found yet. -/
structure Vst (g5 g8 g9 : Nat) (w : World) : Prop where
  n : Blk w g5 3 #[.int .i64 0]
  o : ∃ A n c, Blk w g8 22 #[.slice A n c]
  f : Blk w g9 4 #[.bool false]
  d58 : g5 ≠ g8
  d59 : g5 ≠ g9
  d89 : g8 ≠ g9
theorem Vst.below {g5 g8 g9 : Nat} {w w' : World} (h : Vst g5 g8 g9 w) (hb : Below w.heap.size w w') : Vst g5 g8 g9 w' := by
  obtain ⟨A, n, c, ho⟩ := h.o
  exact ⟨h.n.below hb, ⟨A, n, c, ho.below hb⟩, h.f.below hb, h.d58, h.d59, h.d89⟩
/-- It was found. -/
structure Vfd (g8 g9 : Nat) (w : World) : Prop where
  o : ∃ A n c, Blk w g8 22 #[.slice A n c]
  f : Blk w g9 4 #[.bool true]
theorem visit_i (g5 g8 g9 : Nat) (A : Option Addr) (n c : Nat) (w : World) (h : Vst g5 g8 g9 w) :
    Calls Tryz.prog 104 #[.slice A n c, .pointer (some ⟨g5, 0, none⟩), .pointer (some ⟨g8, 0, none⟩), .pointer (some ⟨g9, 0, none⟩)] w (fun e w' => e = .returned (.bool false) ∧ Vfd g8 g9 w' ∧ Fl2 g8 g9 w w') := by
  obtain ⟨A0, n0, c0, ho⟩ := h.o
  have b5 : w.cell? ⟨g5, 0, none⟩ = some (.int .i64 0) := by simpa using h.n.cell 0
  have b8 : w.cell? ⟨g8, 0, none⟩ = some (.slice A0 n0 c0) := by simpa using ho.cell 0
  have b9 : w.cell? ⟨g9, 0, none⟩ = some (.bool false) := by simpa using h.f.cell 0
  have f8 := ho.frozen 0
  have f9 := h.f.frozen 0
  have l5 := h.n.lt
  have l8 := ho.lt
  have l9 := h.f.lt
  have d89 := h.d89
  have d98 := Ne.symm d89
  have G1 : w.grownBy (w.setCell ⟨g8, 0, none⟩ (.slice A n c)) (some g8) := grown_set (p := ⟨g8, 0, none⟩) (World.grownBy.refl _ _) rfl _
  have G2 : (w.setCell ⟨g8, 0, none⟩ (.slice A n c)).grownBy ((w.setCell ⟨g8, 0, none⟩ (.slice A n c)).setCell ⟨g9, 0, none⟩ (.bool true)) (some g9) := grown_set (p := ⟨g9, 0, none⟩) (World.grownBy.refl _ _) rfl _
  have o8 : Blk (w.setCell ⟨g8, 0, none⟩ (.slice A n c)) g8 22 #[.slice A n c] := ho.set_ 0 _
  have o9 : Blk (w.setCell ⟨g8, 0, none⟩ (.slice A n c)) g9 4 #[.bool false] := h.f.grown G1 (fun e => by injection e with e; omega)
  have hvf : Vfd g8 g9 ((w.setCell ⟨g8, 0, none⟩ (.slice A n c)).setCell ⟨g9, 0, none⟩ (.bool true)) := ⟨⟨A, n, c, o8.grown G2 (fun e => by injection e with e; omega)⟩, o9.set_ 0 _⟩
  have hfl : Fl2 g8 g9 w ((w.setCell ⟨g8, 0, none⟩ (.slice A n c)).setCell ⟨g9, 0, none⟩ (.bool true)) :=
    ⟨G2.os.trans G1.os, G2.tape.trans G1.tape, G2.output.trans G1.output, Nat.le_trans G1.size G2.size, fun b hb h8 h9 => (G2.block b (Nat.lt_of_lt_of_le hb G1.size) (fun e => by injection e with e; omega)).trans (G1.block b hb (fun e => by injection e with e; omega))⟩
  have HVF := Lib.hid hvf
  have HFL := Lib.hid hfl
  clear hvf hfl G1 G2 o8 o9 ho h
  go_enter Tryz.func104, Tryz.ntmps104
  go_wp2_with fail
  go_ret
  exact ⟨rfl, HVF.out, HFL.out⟩
end Go.Proofs.YtcgjnonlndaoeaaGreatDoor

/- The program's search for a tiling: is there one. -/
namespace Go.Proofs.YtcgjnonlndaoeaaGreatDoor
open Go.RowKit
set_option linter.unusedVariables false
attribute [local go_sem ↓] Go.wp_at_zero Go.wp_at_succ

theorem pop_fall {free m low : Nat} (hf : free < 2 ^ 36) (hin : m &&& free = m) (hb : m.testBit low = true) : pop (free - (free &&& m)) + 1 ≤ pop free := by
  have hk : ∀ k, m.testBit k = true → free.testBit k = true := fun k h => by
    have h2 := congrArg (fun x => x.testBit k) hin
    simp only [Nat.testBit_and, h, Bool.true_and] at h2
    exact h2
  have hlow : low < 64 := by
    rcases Nat.lt_or_ge low 64 with h | h
    · exact h
    · have h2 := hk low hb
      rw [Nat.testBit_lt_two_pow (Nat.lt_of_lt_of_le hf (Nat.pow_le_pow_right (by decide) (by omega)))] at h2
      cases h2
  have e : free = (free - (free &&& m)) ||| m := Nat.eq_of_testBit_eq fun k => by
    rw [Nat.testBit_or, sub_and_bit (by omega)]
    have h := hk k
    cases h1 : m.testBit k <;> cases h2 : free.testBit k <;> simp_all
  have d : (free - (free &&& m)) &&& m = 0 := Nat.eq_of_testBit_eq fun k => by
    rw [Nat.testBit_and, sub_and_bit (by omega)]
    cases m.testBit k <;> simp
  have h1 := pop_or d
  rw [← e] at h1
  have h2 : 0 < pop m := List.countP_pos_iff.2 ⟨low, by simp; omega, hb⟩
  omega
theorem neqF (w : World) : Sem.run Tryz.prog (binOp BinOp.neq 88 Value.nilFunc Value.nilFunc) w = .ok (.bool false) w := by kernel_rfl
/-- Whether a tiling was found. -/
def RetFl (g8 g9 : Nat) (L : List Int) (free : Nat) (w : World) (e : Ending) (w' : World) : Prop :=
  ∃ b : Bool, e = .returned (.bool b) ∧ (b = true → tilV L free = [] ∧ Below w.heap.size w w') ∧ (b = false → tilV L free ≠ [] ∧ Vfd g8 g9 w' ∧ Fl2 g8 g9 w w')
theorem flat_nil {L : List Int} {free : Nat} {M : List Int} (h : ∀ m ∈ M, tilG L free m = []) : M.flatMap (tilG L free) = [] := by
  rw [List.flatMap_eq_nil_iff]
  exact h
set_option maxRecDepth 100000 in
set_option maxHeartbeats 3200000 in
theorem fill_i (gs base g5 g8 g9 : Nat) (hs : List H) (L : List Int) (hLl : L.length ≤ 1048576) (hM : Msk 36 L) : ∀ (free : Nat) (l : List Int) (A : Option Addr) (n c : Nat) (w : World), Srch base gs w hs (fB L) (.func (.func 104) #[] #[.pointer (some ⟨g5, 0, none⟩), .pointer (some ⟨g8, 0, none⟩), .pointer (some ⟨g9, 0, none⟩)]) .nilFunc → Tb w → Vst g5 g8 g9 w → Rd w A (vI l) → l.length = n → n + pop free ≤ 1000 → free < 2 ^ 36 →
    Calls Tryz.prog 105 #[.pointer (some ⟨gs, 0, none⟩), .int .i64 (free : Int), .slice A n c] w (RetFl g8 g9 L free w)
  | free, l, A, n, c, w, hS, hT, hV, hr, hl, hnm, hf => by
    have HS := Lib.hid hS
    have HT := Lib.hid hT
    have HVS := Lib.hid hV
    have HR := Lib.hid hr
    have HL := Lib.hid hl
    have HM := Lib.hid hM
    have s0 := hS.cellV.1
    have s1 := hS.cellV.2
    have l0 := hS.blk.lt
    clear hS hT hr hl hV
    by_cases h0 : free = 0
    · have hz : ((free : Int) == 0) = true := by simp [h0]
      have HTV : Hid (tilV L free ≠ []) := by show _ ≠ _; rw [h0, tilV_zero]; simp
      clear h0 hM
      go_enter Tryz.func105, Tryz.ntmps105
      go_wp2_with fail
      refine (visit_i g5 g8 g9 A n c w HVS.out).mono ?_
      rintro e w1 ⟨rfl, hvf, hfl⟩
      have H1 := Lib.hid hvf
      have H2 := Lib.hid hfl
      clear hvf hfl
      go_wp2_with fail
      go_ret
      exact ⟨false, rfl, (fun h => by cases h), fun _ => ⟨HTV.out, H1.out, H2.out⟩⟩
    · have hz : ((free : Int) == 0) = false := by simp [h0]
      obtain ⟨hlb, hl64⟩ := lowN_bit h0 (by omega)
      have htz : ∀ w', Below w.heap.size w w' → Calls Tryz.prog 74 #[.int .u64 (free : Int)] w' (Ret w' (.int .i64 (lowN free : Nat))) := fun w' hb => TZ_l free w' h0 (by omega) (HT.out.below hb)
      have hV : tilV L free = (bitL (lowN free) L).flatMap (tilG L free) := tilV_pos L h0
      have hGm : ∀ m ∈ bitL (lowN free) L, m.toNat.testBit (lowN free) = true := fun m hm => (List.mem_filter.1 hm).2
      have IH : ∀ (f2 : Nat), f2 < free → ∀ (l : List Int) (A : Option Addr) (n c : Nat) (w : World), Srch base gs w hs (fB L) (.func (.func 104) #[] #[.pointer (some ⟨g5, 0, none⟩), .pointer (some ⟨g8, 0, none⟩), .pointer (some ⟨g9, 0, none⟩)]) .nilFunc → Tb w → Vst g5 g8 g9 w → Rd w A (vI l) → l.length = n → n + pop f2 ≤ 1000 → f2 < 2 ^ 36 →
        Calls Tryz.prog 105 #[.pointer (some ⟨gs, 0, none⟩), .int .i64 (f2 : Int), .slice A n c] w (RetFl g8 g9 L f2 w) := fun f2 hlt l A n c w => fill_i gs base g5 g8 g9 hs L hLl hM f2 l A n c w
      obtain ⟨low, hlo⟩ : ∃ low, lowN free = low := ⟨_, rfl⟩
      rw [hlo] at htz hl64 hlb hV hGm
      have hlow36 : low < 36 := by
        rcases Nat.lt_or_ge low 36 with h | h
        · exact h
        · rw [Nat.testBit_lt_two_pow (Nat.lt_of_lt_of_le hf (Nat.pow_le_pow_right (by decide) h))] at hlb
          cases hlb
      have hlh : low < hs.length := by rw [HS.out.hlen]; omega
      have hlf : low < (fB L).length := by rw [fB_len]; omega
      have d0 := HS.out.cell hlh
      have o0 := HS.out.row low hlh hlf
      rw [fB_at] at o0
      obtain ⟨M, hMM⟩ : ∃ M, bitL low L = M := ⟨_, rfl⟩
      have hMl : M.length ≤ 1048576 := by have := bitL_len low L; rw [hMM] at this; omega
      have hMk : Msk 36 M := hMM ▸ bitL_msk hM
      rw [hMM] at o0 hV hGm
      obtain ⟨D, hD⟩ : ∃ D, hs[low].1 = D := ⟨_, rfl⟩
      obtain ⟨q, hq⟩ : ∃ q, hs[low].2.1 = q := ⟨_, rfl⟩
      obtain ⟨cc, hcc⟩ : ∃ cc, hs[low].2.2 = cc := ⟨_, rfl⟩
      rw [hD, hq, hcc] at d0 o0
      have hMq : M.length = q := by have := own_len o0; rw [vI_length] at this; omega
      have hcv : IntKind.u64.wrap (free : Int) = (free : Int) := wraps_u64 _ (by omega) (by omega)
      have hlo0 : (0 : Int) ≤ (low : Int) := by omega
      have hlo64 : (low : Int) < 64 := by omega
      have HRM := Lib.hid (Rd.of_own o0)
      have HMQ := Lib.hid hMq
      have HMK := Lib.hid hMk
      have HV := Lib.hid hV
      have HGM := Lib.hid hGm
      have HIH := Lib.hid @IH
      have HTZ := Lib.hid @htz
      have HF := Lib.hid hf
      have hqm : q ≤ 1048576 := by omega
      have HNM := Lib.hid hnm
      have hn1000 : n ≤ 1000 := by omega
      clear h0 hlb hl64 htz hV IH hlo o0 hMM hMl hMk hD hq hcc hMq hM hlh hlf hf hGm hnm
      go_enter Tryz.func105, Tryz.ntmps105
      go_wp2_with fail
      (refine wp_region_below (by kernel_rfl) (by kernel_rfl) ?_; (repeat (first | go_big_quiet_skip | (refine quietV (v := ?_) (by rfl) rfl (fun w' hbw => ?_) ?_; rotate_left; ((try dsimp only at hbw); have hbc := (bcell hbw).1; have hbf := (bcell hbw).2; go_simp; first | done | with_reducible rfl | (with_reducible exact callsB (v := .int .i64 (low : Int)) (HTZ.out _ (by with_reducible assumption)) hbw)); simp only [List.setIfInBounds_toArray, List.set_cons_zero, List.set_cons_succ]))); refine wpQuiet_nil ?_; intro w1 hb1)
      have HB1 := Lib.hid hb1
      clear hb1 d0 l0 s0 s1
      go_wp2_with fail
      go_loopw [26] (fun e26 wr => ∃ i : Nat, i ≤ q ∧ e26 = .int .i64 i ∧ (∀ m ∈ M.take i, tilG L free m = []) ∧ Below w.heap.size w wr) (fun e26 _ => q - (intOf e26).toNat)
      case atStart => exact ⟨0, Nat.zero_le _, rfl, by simp, HB1.out⟩
      case round =>
        clear HB1
        obtain ⟨i, hi, rfl, hno, hb⟩ := hrel
        have HNO := Lib.hid hno
        have HB := Lib.hid hb
        clear hno hb
        by_cases hlt : i < q
        · have hi0 : (0 : Int) ≤ (i : Int) := by omega
          have hi1 : (i : Int) < (q : Int) := by omega
          have hil : i < M.length := by rw [HMQ.out]; exact hlt
          obtain ⟨g, off, hA, hg, d1⟩ := RdI.at_ (HRM.out.below HB.out) hil
          obtain ⟨m, hm, hm36⟩ := HMK.out _ (List.getElem_mem hil)
          have hmb := HGM.out _ (List.getElem_mem hil)
          rw [hm] at d1 hmb
          rw [Int.toNat_natCast] at hmb
          have hsnoc : ∀ m' ∈ M.take (i + 1), m' ∈ M.take i ∨ m' = (m : Int) := fun m' h => by
            rw [List.take_succ_eq_append_getElem hil, List.mem_append, List.mem_singleton, hm] at h
            exact h
          have HSN := Lib.hid hsnoc
          have HMB := Lib.hid hmb
          have hGin : M[i] = (m : Int) := hm
          have HIN := Lib.hid (hGin ▸ List.getElem_mem hil : (m : Int) ∈ M)
          have S := HS.out.below HB.out
          have s1 := S.cellV.2
          have l0 := S.blk.lt
          obtain ⟨r6, hr6⟩ : ∃ r6, m - (m &&& free) = r6 := ⟨_, rfl⟩
          have hand : bits .andNot .i64 (m : Int) (free : Int) = (r6 : Int) := by rw [i64_andNot m free (by omega) (by have := HF.out; omega), hr6]
          subst hA
          by_cases hin : r6 = 0
          · have hr0 : ((r6 : Int) != 0) = false := by simp [hin]
            have hmf : m &&& free = m := by have h1 : m &&& free ≤ m := Nat.and_le_left; omega
            obtain ⟨f2, hf2⟩ : ∃ f2, free - (free &&& m) = f2 := ⟨_, rfl⟩
            have hand2 : bits .andNot .i64 (free : Int) (m : Int) = (f2 : Int) := by rw [i64_andNot free m (by have := HF.out; omega) (by omega), hf2]
            have hfm : free - m = f2 := by rw [← hf2, Nat.and_comm, hmf]
            have hpop := pop_fall HF.out hmf HMB.out
            have hm1 := bit_pos HMB.out
            have hmle : m ≤ free := by rw [← hmf]; exact Nat.and_le_right
            rw [hf2] at hpop
            have HG2 : Hid (tilG L free (m : Int) = (tilV L f2).map ((m : Int) :: ·)) := by
              show _ = _
              unfold tilG
              rw [Int.toNat_natCast, if_pos (by unfold inM; rw [hmf]; simp), hfm]
            have HN2 := Lib.hid (by have := HNM.out; omega : n + 1 + pop f2 ≤ 1000)
            have HF2 := Lib.hid (by have := HF.out; omega : f2 < 2 ^ 36)
            have HLT := Lib.hid (by omega : f2 < free)
            have hm63 : (m : Int) < 9223372036854775808 := by omega
            have hrun := neqF wr
            clear hr6 hin hmf hf2 hfm hpop hm1 hmle hsnoc hmb hGin S hm
            go_wp2_with fail
            refine (copyInts_i A n c l _ (HR.out.below HB.out) HL.out (by omega)).mono ?_
            rintro e w2 ⟨D2, q2, c2, rfl, hO2, hb2⟩
            obtain rfl : q2 = n := by have := own_len hO2; rw [vI_length, HL.out] at this; omega
            have HO2 := Lib.hid hO2
            have HB2 := Lib.hid (bel_trans HB.out hb2)
            have HBR := Lib.hid hb2
            clear hO2 hb2 d1
            go_wp2_with (at_builtin; go_must (refine app_I _ rfl _ _ rfl wr.heap.size _ _ _ l rfl (HO2.out.alloc _) _ _ _ [(m : Int)] rfl (rd_newI _ _ _) rfl (by omega) (by have := HBR.out.size; simp; omega) ?_); intro D6 c6 w6 ho6 hg6 hat6; have HO6 := Lib.hid ho6; have HG6 := Lib.hid hg6; clear ho6 hg6 hat6)
            have hb6 : Below w.heap.size w w6 := bel_app (bel_alloc HB2.out _) HG6.out (fun g9 e9 => by have := (own_lt HO2.out g9 e9).1; have := HB.out.size; omega)
            have HB6 := Lib.hid hb6
            have hC := HIH.out f2 HLT.out (l ++ [(m : Int)]) D6 (q2 + 1) c6 w6 (HS.out.below hb6) (HT.out.below hb6) (HVS.out.below hb6) (Rd.of_own HO6.out) (by rw [List.length_append, HL.out]; rfl) HN2.out HF2.out
            clear hb6
            refine hC.mono ?_
            rintro e w7 ⟨b, rfl, hT7, hF7⟩
            have HT7 := Lib.hid hT7
            have HF7 := Lib.hid hF7
            clear hT7 hF7 hC
            cases b with
            | true =>
              have h7 := HT7.out rfl
              have HS2 : Hid (∀ m' ∈ M.take (i + 1), tilG L free m' = []) := fun m' hm' => by
                rcases HSN.out m' hm' with h | h
                · exact HNO.out m' h
                · rw [h, HG2.out, h7.1]; rfl
              have HB7 := Lib.hid (bel_trans HB6.out h7.2)
              clear h7 HT7 HF7
              go_wp2_with fail
              exact ⟨⟨i + 1, by omega, by go_num, HS2.out, HB7.out⟩, by simp [intOf]; omega⟩
            | false =>
              have h7 := HF7.out rfl
              have H7 := Lib.hid h7
              clear h7 HT7 HF7
              go_wp2_with fail
              go_ret
              refine ⟨false, rfl, (fun h => by cases h), fun _ => ⟨?_, H7.out.2.1, Fl2.pre HB6.out H7.out.2.2⟩⟩
              rw [HV.out]
              intro h
              rw [List.flatMap_eq_nil_iff] at h
              have h2 := h _ HIN.out
              rw [HG2.out, List.map_eq_nil_iff] at h2
              exact H7.out.1 h2
          · have hr0 : ((r6 : Int) != 0) = true := by simp [hin]
            have HS2 : Hid (∀ m' ∈ M.take (i + 1), tilG L free m' = []) := fun m' hm' => by
              rcases HSN.out m' hm' with h | h
              · exact HNO.out m' h
              · rw [h]
                unfold tilG
                rw [Int.toNat_natCast, if_neg (by unfold inM; simp only [beq_iff_eq]; intro h2; omega)]
            clear hr6 hin hsnoc hmb hGin S hm
            go_wp2_with fail
            exact ⟨⟨i + 1, by omega, by go_num, HS2.out, HB.out⟩, by simp [intOf]; omega⟩
        · have hi1 : ¬ (i : Int) < (q : Int) := by omega
          have HEV : Hid (tilV L free = []) := by
            show _ = _
            rw [HV.out]
            exact flat_nil fun m hm => HNO.out m (by rw [List.take_of_length_le (by rw [HMQ.out]; omega)]; exact hm)
          go_wp2_with fail
          go_ret
          exact ⟨true, rfl, (fun _ => ⟨HEV.out, HB.out⟩), fun h => by cases h⟩
termination_by free => free
decreasing_by exact hlt
end Go.Proofs.YtcgjnonlndaoeaaGreatDoor

/- The program's HasTiling. -/
namespace Go.Proofs.YtcgjnonlndaoeaaGreatDoor
open Go.RowKit
set_option linter.unusedVariables false
attribute [local go_sem ↓] Go.wp_at_zero Go.wp_at_succ

def RetOr (w : World) (L : List Int) (free : Nat) (e : Ending) (w' : World) : Prop :=
  ∃ X x xc, e = .returned (.tuple #[.slice X x xc, .bool (decide (tilV L free ≠ []))]) ∧ Below w.heap.size w w'
set_option maxRecDepth 100000 in
set_option maxHeartbeats 3200000 in
theorem ordinal_i (A : Option Addr) (q c free : Nat) (L : List Int) (w : World) (hr : Rd w A (vI L)) (hl : L.length = q) (hq : q ≤ 1048576) (hM : Msk 36 L) (hf : free < 2 ^ 36) (hT : Tb w) :
    Calls Tryz.prog 85 #[.slice A q c, .int .i64 (free : Int), .int .i64 0] w (RetOr w L free) := by
  have hb0 := bel_alloc (bel_alloc (bel_alloc (Below.refl w.heap.size w) (.cells #[.int .i64 0] 3)) (.cells #[.slice none 0 0] 22)) (.cells #[.bool false] 4)
  have n5 := ((Blk.new w 3 #[.int .i64 0]).alloc (.cells #[.slice none 0 0] 22)).alloc (.cells #[.bool false] 4)
  have n8 := (Blk.new (w.alloc (.cells #[.int .i64 0] 3)) 22 #[.slice none 0 0]).alloc (.cells #[.bool false] 4)
  have n9 := Blk.new ((w.alloc (.cells #[.int .i64 0] 3)).alloc (.cells #[.slice none 0 0] 22)) 4 #[.bool false]
  rw [World.size_alloc] at n8
  rw [World.size_alloc, World.size_alloc] at n9
  have hR0 := hr.below hb0
  have hT0 := hT.below hb0
  obtain ⟨w0, hw0⟩ : ∃ w0, ((w.alloc (.cells #[.int .i64 0] 3)).alloc (.cells #[.slice none 0 0] 22)).alloc (.cells #[.bool false] 4) = w0 := ⟨_, rfl⟩
  rw [hw0] at hb0 n5 n8 n9 hR0 hT0
  have hV0 : Vst w.heap.size (w.heap.size + 1) (w.heap.size + 1 + 1) w0 := ⟨n5, ⟨_, _, _, n8⟩, n9, by omega, by omega, by omega⟩
  have HW0 := Lib.hid hw0
  have HB0 := Lib.hid hb0
  have HV0 := Lib.hid hV0
  have HR0 := Lib.hid hR0
  have HT0 := Lib.hid hT0
  have HL := Lib.hid hl
  have HM := Lib.hid hM
  have HF := Lib.hid hf
  have hp64 : pop free ≤ 64 := by unfold pop; have h := List.countP_le_length (p := fun i => free.testBit i) (l := List.range 64); simpa using h
  clear hw0 hb0 n5 n8 n9 hV0 hR0 hT0 hr hl hM hf hT
  go_enter Tryz.func85, Tryz.ntmps85
  go_wp2_with fail
  rw [HW0.out]
  clear HW0
  refine (newSearch_f _ _ A q c L w0 HR0.out HL.out hq HM.out).mono ?_
  rintro e w1 ⟨gs, hs, rfl, hS, hgs, hb1⟩
  have HS := Lib.hid hS
  have HB1 := Lib.hid hb1
  have HB01 := Lib.hid (bel_trans HB0.out hb1)
  have HV1 := Lib.hid (HV0.out.below hb1)
  have HT1 := Lib.hid (HT0.out.below hb1)
  clear hS hb1 HR0
  go_wp2_with fail
  refine (fill_i gs (gs + 1) w.heap.size (w.heap.size + 1) (w.heap.size + 1 + 1) hs L (by have := HL.out; omega) HM.out free [] none 0 0 w1 HS.out HT1.out HV1.out (.inl rfl) rfl (by omega) HF.out).mono ?_
  rintro e w2 ⟨b, rfl, hT, hF⟩
  have hfin : (∃ X x xc, w2.cell? ⟨w.heap.size + 1, 0, none⟩ = some (.slice X x xc)) ∧ w2.cell? ⟨w.heap.size + 1 + 1, 0, none⟩ = some (.bool (decide (tilV L free ≠ []))) ∧ w.heap.size + 1 < w2.heap.size ∧ w.heap.size + 1 + 1 < w2.heap.size ∧ Below w.heap.size w w2 := by
    cases b with
    | true =>
      obtain ⟨h1, h2⟩ := hT rfl
      have hv := HV1.out.below h2
      obtain ⟨X, x, xc, ho⟩ := hv.o
      exact ⟨⟨X, x, xc, by simpa using ho.cell 0⟩, by rw [decide_eq_false (by simpa using h1)]; simpa using hv.f.cell 0, ho.lt, hv.f.lt, bel_trans HB01.out h2⟩
    | false =>
      obtain ⟨h1, h2, h3⟩ := hF rfl
      obtain ⟨X, x, xc, ho⟩ := h2.o
      exact ⟨⟨X, x, xc, by simpa using ho.cell 0⟩, by rw [decide_eq_true h1]; simpa using h2.f.cell 0, ho.lt, h2.f.lt, Fl2.below HB01.out h3 HB01.out.size (by omega) (by omega)⟩
  obtain ⟨⟨X, x, xc, a0⟩, a1, l0, l1, hb2⟩ := hfin
  obtain ⟨tb, htb⟩ : ∃ tb, decide (tilV L free ≠ []) = tb := ⟨_, rfl⟩
  rw [htb] at a1
  have HTB := Lib.hid htb
  have HB2 := Lib.hid hb2
  clear htb hb2 hT hF
  go_wp2_with fail
  (refine wp_region_below (by kernel_rfl) (by kernel_rfl) ?_; (repeat (first | go_big_quiet_skip | (refine quietV (v := ?_) (by rfl) rfl (fun w' hbw => ?_) ?_; rotate_left; ((try dsimp only at hbw); have hbc := (bcell hbw).1; have hbf := (bcell hbw).2; go_simp; first | done | with_reducible rfl | fail); simp only [List.setIfInBounds_toArray, List.set_cons_zero, List.set_cons_succ]))); refine wpQuiet_nil ?_; intro w3 hb3)
  go_wp2_with fail
  go_ret2
  exact ⟨X, x, xc, by rw [HTB.out]; rfl, bel_trans HB2.out hb3⟩
/-- Whether there is a tiling. -/
def hasV (W : Int) (rows : List Int) (P : List (List C)) : Bool := (isReg W rows && pcs P) && decide (tilV (allV W rows P) (maskV W rows) ≠ [])
def RetFi (w : World) (b : Bool) (e : Ending) (w' : World) : Prop := ∃ X x xc, e = .returned (.tuple #[.slice X x xc, .bool b]) ∧ Below w.heap.size w w'
set_option maxRecDepth 100000 in
set_option maxHeartbeats 3200000 in
theorem FindTiling_i (W : Int) (A B : Option Addr) (n c q cb : Nat) (rows : List Int) (hs : List H) (P : List (List C)) (w : World) (hr : Rd w A (vI rows)) (hl : rows.length = n) (hp : RdP w B q hs P) (hq : q ≤ 1048576) (hm : totC P ≤ 1048576) (hT : Tb w) :
    Calls Tryz.prog 63 #[.agg #[.int .i64 W, .slice A n c], .slice B q cb] w (RetFi w (hasV W rows P)) := by
  have HL := Lib.hid hl
  have HR := Lib.hid (hr.alloc (.cells #[.int .i64 W, .slice A n c] 29))
  have HP := Lib.hid (hp.alloc (.cells #[.int .i64 W, .slice A n c] 29))
  have HB0 := Lib.hid (Blk.new w 29 #[.int .i64 W, .slice A n c])
  have HM := Lib.hid hm
  have hbw0 : Below w.heap.size w (w.alloc (.cells #[.int .i64 W, .slice A n c] 29)) := bel_alloc (Below.refl _ _) _
  have HT := Lib.hid (hT.below hbw0)
  have HBW0 := Lib.hid hbw0
  clear hl hr hp hm hT hbw0
  obtain ⟨W0, hW0⟩ : ∃ W0, w.alloc (.cells #[.int .i64 W, .slice A n c] 29) = W0 := ⟨_, rfl⟩
  rw [hW0] at HR HP HB0 HT HBW0
  have HW0 := Lib.hid hW0
  clear hW0
  have b0 : W0.cell? ⟨w.heap.size, 0, none⟩ = some (.int .i64 W) := by simpa using HB0.out.cell 0
  have b1 : W0.cell? ⟨w.heap.size, 1, none⟩ = some (.slice A n c) := by simpa using HB0.out.cell 1
  have bl := HB0.out.lt
  obtain ⟨ip, hip⟩ : ∃ b, (isReg W rows && pcs P) = b := ⟨_, rfl⟩
  have HIP := Lib.hid hip
  cases ip with
  | false =>
    have HV : Hid (hasV W rows P = false) := by show _ = _; unfold hasV; rw [hip]; rfl
    clear hip
    go_enter Tryz.func63, Tryz.ntmps63
    go_wp2_with fail
    rw [HW0.out]
    refine (isProblem_i W A B n c q cb rows hs P _ HR.out HL.out HP.out hq HM.out).mono ?_
    rw [HIP.out]
    rintro e w1 ⟨rfl, hb1⟩
    have HB1 := Lib.hid (bel_trans HBW0.out hb1)
    clear hb1
    go_wp2_with fail
    go_ret2
    exact ⟨_, _, _, by rw [HV.out]; rfl, HB1.out⟩
  | true =>
    have h2 := hip
    simp only [Bool.and_eq_true] at h2
    obtain ⟨hvr, hpc⟩ := h2
    have hLm := allV_msk W rows P
    have hLl := allV_len W rows P
    have hp5 := (pcs_at hpc).1
    have hM36 := mask36C W rows
    have hV : hasV W rows P = decide (tilV (allV W rows P) (maskV W rows) ≠ []) := by unfold hasV; rw [hip, Bool.true_and]
    obtain ⟨L, hLe⟩ : ∃ L, allV W rows P = L := ⟨_, rfl⟩
    obtain ⟨M, hMM⟩ : ∃ M, maskV W rows = M := ⟨_, rfl⟩
    rw [hLe] at hLm hLl hV
    rw [hMM] at hM36 hV
    have hL5 : L.length ≤ 1440 := by have : 288 * P.length ≤ 1440 := by omega
                                     omega
    have HV := Lib.hid hV
    have HVR := Lib.hid hvr
    have HPC := Lib.hid hpc
    have HLE := Lib.hid hLe
    have HLM := Lib.hid hLm
    have HL5 := Lib.hid hL5
    have HMM := Lib.hid hMM
    have HM36 := Lib.hid hM36
    clear hip hvr hpc hLe hMM hLm hLl hp5 hL5 hM36 hV
    go_enter Tryz.func63, Tryz.ntmps63
    go_wp2_with fail
    rw [HW0.out]
    refine (isProblem_i W A B n c q cb rows hs P _ HR.out HL.out HP.out hq HM.out).mono ?_
    rw [HIP.out]
    rintro e w1 ⟨rfl, hb1⟩
    have HB1 := Lib.hid hb1
    have hB := HB0.out.below hb1
    clear hb1 b0 b1 bl
    have b0 : w1.cell? ⟨w.heap.size, 0, none⟩ = some (.int .i64 W) := by simpa using hB.cell 0
    have b1 : w1.cell? ⟨w.heap.size, 1, none⟩ = some (.slice A n c) := by simpa using hB.cell 1
    have bl := hB.lt
    clear hB
    go_wp2_with fail
    go_region_with (first | (go_at_call 47; refine (all_i W A B n c q cb rows hs P _ (HR.out.below (bel_trans HB1.out (bel_drew (Below.refl _ _)))) HL.out HVR.out (HP.out.below (bel_trans HB1.out (bel_drew (Below.refl _ _)))) HPC.out).mono ?_; rw [HLE.out]; rintro e w2 ⟨gE, q3, c3, rfl, hO, hb2⟩; have HQ3 := Lib.hid (by have h := own_len hO; rw [vI_length] at h; omega : L.length = q3); have HRE2 := Lib.hid (Rd.of_own hO); have HB2 := Lib.hid (bel_trans (bel_trans HB1.out (bel_drew (Below.refl _ _))) hb2); clear hO hb2; have hB2 := HB0.out.below HB2.out; have y0 : w2.cell? ⟨w.heap.size, 0, none⟩ = some (.int .i64 W) := (by simpa using hB2.cell 0); have y1 : w2.cell? ⟨w.heap.size, 1, none⟩ = some (.slice A n c) := (by simpa using hB2.cell 1); have yl := hB2.lt; clear hB2) | (go_at_call 50; refine (mask_i W A n c rows _ (HR.out.below HB2.out) HL.out HVR.out).mono ?_; rw [HMM.out]; rintro e w3 ⟨rfl, hb3⟩; have HB3 := Lib.hid (bel_trans HB2.out hb3); have HRE3 := Lib.hid (HRE2.out.below hb3); clear hb3) | (go_at_call 85; refine (ordinal_i gE q3 c3 M L w3 HRE3.out HQ3.out (by have := HQ3.out; have := HL5.out; omega) HLM.out HM36.out (HT.out.below HB3.out)).mono ?_; rintro e w4 ⟨X, x, xc, rfl, hb4⟩; rw [← HV.out]; have HB4 := Lib.hid (bel_trans HB3.out hb4); clear hb4))
    all_goals
      go_wp2_with fail
      go_ret2
      exact ⟨X, x, xc, rfl, bel_trans HBW0.out HB4.out⟩
set_option maxRecDepth 100000 in
set_option maxHeartbeats 3200000 in
theorem HasTiling_i (W : Int) (A B : Option Addr) (n c q cb : Nat) (rows : List Int) (hs : List H) (P : List (List C)) (w : World) (hr : Rd w A (vI rows)) (hl : rows.length = n) (hp : RdP w B q hs P) (hq : q ≤ 1048576) (hm : totC P ≤ 1048576) (hT : Tb w) :
    Calls Tryz.prog 30 #[.agg #[.int .i64 W, .slice A n c], .slice B q cb] w (Ret w (.bool (hasV W rows P))) := by
  have HL := Lib.hid hl
  have HR := Lib.hid (hr.alloc (.cells #[.int .i64 W, .slice A n c] 29))
  have HP := Lib.hid (hp.alloc (.cells #[.int .i64 W, .slice A n c] 29))
  have HB0 := Lib.hid (Blk.new w 29 #[.int .i64 W, .slice A n c])
  have HM := Lib.hid hm
  have hbw0 : Below w.heap.size w (w.alloc (.cells #[.int .i64 W, .slice A n c] 29)) := bel_alloc (Below.refl _ _) _
  have HT := Lib.hid (hT.below hbw0)
  have HBW0 := Lib.hid hbw0
  clear hl hr hp hm hT hbw0
  obtain ⟨W0, hW0⟩ : ∃ W0, w.alloc (.cells #[.int .i64 W, .slice A n c] 29) = W0 := ⟨_, rfl⟩
  rw [hW0] at HR HP HB0 HT HBW0
  have HW0 := Lib.hid hW0
  clear hW0
  have b0 : W0.cell? ⟨w.heap.size, 0, none⟩ = some (.int .i64 W) := by simpa using HB0.out.cell 0
  have b1 : W0.cell? ⟨w.heap.size, 1, none⟩ = some (.slice A n c) := by simpa using HB0.out.cell 1
  have bl := HB0.out.lt
  go_enter Tryz.func30, Tryz.ntmps30
  go_wp2_with fail
  rw [HW0.out]
  refine (FindTiling_i W A B n c q cb rows hs P W0 HR.out HL.out HP.out hq HM.out HT.out).mono ?_
  rintro e w1 ⟨X, x, xc, rfl, hb1⟩
  have HB1 := Lib.hid (bel_trans HBW0.out hb1)
  clear hb1
  go_wp2_with fail
  go_ret
  exact ⟨rfl, HB1.out⟩
end Go.Proofs.YtcgjnonlndaoeaaGreatDoor

/- Maps whose keys are cells: made, asked, written. -/
namespace Go.Proofs.YtcgjnonlndaoeaaGreatDoor
open Go.RowKit
set_option linter.unusedVariables false
def cellVA (c : C) : Value := .agg #[.int .i64 c.1, .int .i64 c.2]
def kvA (p : C × Value) : Value × Value := (cellVA p.1, p.2)
/-- Block b is a map with these entries, the elder ones first. -/
def MapCA (w : World) (b : Nat) (es : List (C × Value)) : Prop := ∃ (arr : Array MapEntry) (clock : Nat), w.heap[b]? = some (.map arr clock) ∧ arr.toList.map (fun e => (e.key, e.val)) = es.map kvA
def lookCA (es : List (C × Value)) (c : C) : Option Value := (es.find? fun p => p.1 == c).map (·.2)
theorem lookC_nilA (c : C) : lookCA [] c = none := rfl
theorem lookC_appA {es : List (C × Value)} {c d : C} {v : Value} : lookCA (es ++ [(c, v)]) d = (lookCA es d).or (if c == d then some v else none) := by
  unfold lookCA
  rw [List.find?_append]
  cases List.find? (fun p => p.1 == d) es with
  | some p => rfl
  | none =>
    rw [List.find?_cons]
    cases h : c == d <;> simp [h]
section
variable {w w' : World} {b : Nat} {es : List (C × Value)}
theorem MapCA.made (w : World) : MapCA (w.alloc (.map #[] 0)) w.heap.size [] := ⟨#[], 0, heap_alloc_new w _, rfl⟩
theorem MapCA.lt (h : MapCA w b es) : b < w.heap.size := by
  obtain ⟨arr, cl, hb, _⟩ := h
  exact (Array.getElem?_eq_some_iff.1 hb).1
theorem MapCA.at_ (h : MapCA w b es) (hb : w'.heap[b]? = w.heap[b]?) : MapCA w' b es := by
  obtain ⟨arr, cl, h1, h2⟩ := h
  exact ⟨arr, cl, hb.trans h1, h2⟩
theorem MapCA.below (h : MapCA w b es) (hb : Below w.heap.size w w') : MapCA w' b es := h.at_ (hb.block b h.lt)
theorem MapCA.alloc (h : MapCA w b es) (o : Obj) : MapCA (w.alloc o) b es := h.at_ (Below.heap_alloc w o b h.lt)
theorem MapCA.grown {row : Option Nat} (h : MapCA w b es) (hg : w.grownBy w' row) (hne : some b ≠ row) : MapCA w' b es := h.at_ (hg.block b h.lt hne)
theorem MapCA.set_ (h : MapCA w b es) (p : Addr) (hp : b ≠ p.block) (v : Value) : MapCA (w.setCell p v) b es := h.at_ (Below.heap_setCell w p v b hp)
end
/-- How many entries a map has. -/
def mapSzA (w : World) (b : Nat) : Nat := match w.heap[b]? with
  | some (.map arr _) => arr.size
  | _ => 0
theorem MapCA.sz {w : World} {b : Nat} {es : List (C × Value)} (h : MapCA w b es) : mapSzA w b = es.length := by
  obtain ⟨arr, cl, hb, hl⟩ := h
  unfold mapSzA
  rw [hb]
  have := congrArg List.length hl
  simpa using this
theorem equal_cellA (w : World) (c d : C) : (Op.equal 117 (cellVA c) (cellVA d)).run Tryz.prog w = .ok (c == d) w := by
  obtain ⟨a, b⟩ := c
  obtain ⟨a', b'⟩ := d
  have hu : Tryz.prog.underlying 117 = some (.array 2 3) := by kernel_rfl
  have e : ((a, b) == (a', b')) = (a == a' && b == b') := rfl
  obtain ⟨i0, hi⟩ := info_of_underlying Tryz.underlying3
  have hc : Tryz.prog.cellsOf 3 = 1 := by kernel_rfl
  have hk : Tryz.prog.plainKey 3 = true := by kernel_rfl
  have p0 : ∀ x y : Int, (part 3 #[.int .i64 x, .int .i64 y] (0 * 1)).run Tryz.prog w = .ok (.int .i64 x) w := fun x y => run_part_plain w hk rfl
  have p1 : ∀ x y : Int, (part 3 #[.int .i64 x, .int .i64 y] (1 * 1)).run Tryz.prog w = .ok (.int .i64 y) w := fun x y => run_part_plain w hk rfl
  rw [e]
  unfold cellVA Op.equal Op.maxDepth
  rw [run_equalIn_array w 9999 _ _ hu hi, hc, show List.range 2 = [0, 1] from rfl]
  simp only [Op.eqItems, Sem.run_bind, p0, p1, Result.andThen_ok, run_equalIn_int w 9998 3 .i64 .i64 _ _ Tryz.underlying3]
  have p2 : ∀ x y : Int, (part 3 #[.int .i64 x, .int .i64 y] 1).run Tryz.prog w = .ok (.int .i64 y) w := fun x y => run_part_plain w hk rfl
  cases h1 : (a == a') <;> cases h2 : (b == b') <;> simp [p2, h2, run_equalIn_int w 9998 3 .i64 .i64 _ _ Tryz.underlying3]
theorem check_cellA (e : Bool) (c : C) (w : World) : (Instr.checkKey e 10000 117 (cellVA c)).run Tryz.prog w = .ok () w := by
  obtain ⟨a, b⟩ := c
  kernel_rfl
/-- Where a key stands. -/
def posCA (es : List (C × Value)) (c : C) (i : Nat) : Option (Nat × Value) :=
  match es with
  | [] => none
  | p :: t => if c == p.1 then some (i, p.2) else posCA t c (i + 1)
theorem run_askingA (c : C) (w : World) : ∀ (l : List MapEntry) (es : List (C × Value)) (i : Nat), l.map (fun e => (e.key, e.val)) = es.map kvA →
    (Instr.findAsking 117 (cellVA c) l i).run Tryz.prog w = .ok (posCA es c i) w
  | [], es, i, h => by
    cases es with
    | nil => rfl
    | cons p t => simp at h
  | e :: l, es, i, h => by
    cases es with
    | nil => simp at h
    | cons p t =>
      simp only [List.map_cons, List.cons.injEq, kvA, Prod.mk.injEq] at h
      obtain ⟨⟨hk, hv⟩, ht⟩ := h
      simp only [Instr.findAsking, Sem.run_bind, hk, equal_cellA, Result.andThen_ok, posCA]
      cases c == p.1 with
      | true => simp [hv]
      | false => simpa using run_askingA c w l t (i + 1) ht
theorem run_findA (c : C) (w : World) (l : List MapEntry) (es : List (C × Value)) (h : l.map (fun e => (e.key, e.val)) = es.map kvA) :
    (Instr.findKey 117 (cellVA c) l).run Tryz.prog w = .ok (posCA es c 0) w := by
  have hu := run_underlying Tryz.underlying117 w
  unfold Instr.findKey
  rw [Sem.run_bind, hu, Result.andThen_ok]
  cases l with
  | nil =>
    cases es with
    | nil => rfl
    | cons p t => simp at h
  | cons e t => exact run_askingA c w (e :: t) es 0 h
theorem posC_lookA (es : List (C × Value)) (c : C) : ∀ i, (posCA es c i).map (·.2) = lookCA es c := by
  induction es with
  | nil => intro i; rfl
  | cons p t ih =>
    intro i
    unfold posCA lookCA
    rw [List.find?_cons, show (p.1 == c) = (c == p.1) from by rw [Bool.eq_iff_iff, beq_iff_eq, beq_iff_eq]; exact eq_comm]
    cases h : c == p.1 with
    | true => rfl
    | false => simpa [lookCA] using ih (i + 1)
section
variable {w : World} {b : Nat} {es : List (C × Value)} {T e : TypeId}
theorem run_lookCA (h : MapCA w b es) (ht : Tryz.prog.underlying T = some (.map 117 e)) {z : Value} (hz : (zeroValue e).run Tryz.prog w = .ok z w) (c : C) (ok : Bool) :
    (Instr.lookup T (.map (some b)) (cellVA c) ok).run Tryz.prog w = .ok (if ok then .tuple #[(lookCA es c).getD z, .bool (lookCA es c).isSome] else (lookCA es c).getD z) w := by
  obtain ⟨arr, cl, hb, hl⟩ := h
  have hp := posC_lookA es c 0
  simp only [Instr.lookup, Sem.run_bind, run_underlying ht, Result.andThen_ok, MapKept.run_getObj_map hb, check_cellA, run_findA c w _ es hl, Sem.run_pure]
  cases hq : posCA es c 0 with
  | none =>
    rw [hq] at hp
    simp only [Option.map_none] at hp
    rw [← hp]
    simp [hz]
  | some q =>
    obtain ⟨i, v⟩ := q
    rw [hq] at hp
    simp only [Option.map_some] at hp
    rw [← hp]
    simp
theorem posC_someA {c : C} {i : Nat} {v : Value} : ∀ {es : List (C × Value)} {k : Nat}, posCA es c k = some (i, v) → k ≤ i ∧ es[i - k]? = some (c, v)
  | [], k, h => by cases h
  | p :: t, k, h => by
    unfold posCA at h
    cases hc : c == p.1 with
    | true =>
      rw [hc, if_pos rfl] at h
      injection h with h
      injection h with h1 h2
      subst h1 h2
      have : c = p.1 := by simpa using hc
      rw [this]
      simp
    | false =>
      rw [hc, if_neg (by simp)] at h
      obtain ⟨h1, h2⟩ := posC_someA h
      refine ⟨by omega, ?_⟩
      rw [show i - k = (i - (k + 1)) + 1 from by omega, List.getElem?_cons_succ]
      exact h2
/-- A new key. -/
theorem run_updCA (h : MapCA w b es) (ht : Tryz.prog.underlying T = some (.map 117 e)) (c : C) (v : Value) (hn : lookCA es c = none) :
    ∃ w', (Instr.mapUpdate T (.map (some b)) (cellVA c) v).run Tryz.prog w = .ok () w' ∧ MapCA w' b (es ++ [(c, v)]) ∧ w.grownBy w' (some b) ∧ w'.heap.size = w.heap.size := by
  obtain ⟨arr, cl, hb, hl⟩ := h
  have hp := posC_lookA es c 0
  have hq : posCA es c 0 = none := by
    cases hq : posCA es c 0 with
    | none => rfl
    | some q => rw [hq, hn] at hp; cases hp
  have hrun : (Instr.mapUpdate T (.map (some b)) (cellVA c) v).run Tryz.prog w = .ok () { w with heap := w.heap.setIfInBounds b (.map (arr.push { key := cellVA c, val := v, born := cl }) (cl + 1)) } := by
    simp only [Instr.mapUpdate, Sem.run_bind, run_underlying ht, Result.andThen_ok, MapKept.run_getObj_map hb, check_cellA, run_findA c w _ es hl, hq]
    exact MapKept.run_setObj_map _ hb
  have hlt := (Array.getElem?_eq_some_iff.1 hb).1
  refine ⟨_, hrun, ⟨arr.push { key := cellVA c, val := v, born := cl }, cl + 1, ?_, ?_⟩, ⟨rfl, rfl, rfl, by simp, fun k hk hne => ?_⟩, by simp⟩
  · simp [hlt]
  · simp only [Array.toList_push, List.map_append, hl]
    rfl
  · have : b ≠ k := fun e => hne (by rw [e])
    simp [Array.getElem?_setIfInBounds_ne this]
/-- A key that is there, with the value that it has. -/
theorem run_updC_sameA (h : MapCA w b es) (ht : Tryz.prog.underlying T = some (.map 117 e)) (c : C) (v : Value) (hn : lookCA es c = some v) :
    ∃ w', (Instr.mapUpdate T (.map (some b)) (cellVA c) v).run Tryz.prog w = .ok () w' ∧ MapCA w' b es ∧ w.grownBy w' (some b) ∧ w'.heap.size = w.heap.size := by
  obtain ⟨arr, cl, hb, hl⟩ := h
  have hp := posC_lookA es c 0
  obtain ⟨i, hq⟩ : ∃ i, posCA es c 0 = some (i, v) := by
    cases hq : posCA es c 0 with
    | none => rw [hq, hn] at hp; cases hp
    | some q => rw [hq, hn] at hp; simp at hp; exact ⟨q.1, by rw [← hp]⟩
  obtain ⟨_, hi⟩ := posC_someA hq
  rw [Nat.sub_zero] at hi
  have hlen : arr.toList.length = es.length := by have := congrArg List.length hl; simpa using this
  have hie : i < es.length := (List.getElem?_eq_some_iff.1 hi).1
  have hia : i < arr.size := by have := hlen; rw [Array.length_toList] at this; omega
  have hki : (arr[i].key, arr[i].val) = (cellVA c, v) := by
    have := congrArg (fun l => l[i]?) hl
    simp only [List.getElem?_map, hi, Option.map_some, kvA] at this
    rw [List.getElem?_eq_getElem (by rw [Array.length_toList]; exact hia)] at this
    simpa using this
  injection hki with hk1 hk2
  have hst : (Instr.keyThatStays (((arr[i]?).map (·.key)).getD (cellVA c)) (cellVA c)).run Tryz.prog w = .ok (cellVA c) w := by
    rw [Array.getElem?_eq_getElem hia]
    simp only [Option.map_some, Option.getD_some, hk1]
    unfold Instr.keyThatStays
    rw [if_pos (by simp [Instr.sameBits, cellVA])]
    rfl
  have hrun : (Instr.mapUpdate T (.map (some b)) (cellVA c) v).run Tryz.prog w = .ok () { w with heap := w.heap.setIfInBounds b (.map (arr.modify i fun e => { e with key := cellVA c, val := v }) cl) } := by
    simp only [Instr.mapUpdate, Sem.run_bind, run_underlying ht, Result.andThen_ok, MapKept.run_getObj_map hb, check_cellA, run_findA c w _ es hl, hq, hst]
    exact MapKept.run_setObj_map _ hb
  have hlt := (Array.getElem?_eq_some_iff.1 hb).1
  refine ⟨_, hrun, ⟨arr.modify i fun e => { e with key := cellVA c, val := v }, cl, ?_, ?_⟩, ⟨rfl, rfl, rfl, by simp, fun k hk hne => ?_⟩, by simp⟩
  · simp [hlt]
  · rw [← hl]
    apply List.ext_getElem?
    intro j
    simp only [List.getElem?_map, Array.getElem?_toList, Array.getElem?_modify]
    by_cases hij : i = j
    · subst hij
      rw [if_pos rfl, Array.getElem?_eq_getElem hia]
      simp [hk1, hk2]
    · rw [if_neg hij]
  · have : b ≠ k := fun e => hne (by rw [e])
    simp [Array.getElem?_setIfInBounds_ne this]
end
section
variable {w : World} {o : Oper} {a : Act} {K : Act → World → Prop} {Q : Exit → Act → World → Prop} {b : Nat} {es : List (C × Value)} {T e : TypeId}
/-- At the operation: a new key. -/
theorem wpUpdCA (m x v : Operand) (hop : o.op = .mapUpdate T m x v ∨ o.op = .insert T m x v) (h : MapCA w b es) (ht : Tryz.prog.underlying T = some (.map 117 e)) (c : C) (val : Value)
    (hm : a.eval m = .map (some b)) (hx : a.eval x = cellVA c) (hv : a.eval v = val) (hn : lookCA es c = none)
    (hK : ∀ w', MapCA w' b (es ++ [(c, val)]) → w.grownBy w' (some b) → w'.heap.size = w.heap.size → K (a.put o.dst undef) w') : o.wp Tryz.prog a w K Q := by
  obtain ⟨w', hrun, h1, h2, h3⟩ := run_updCA h ht c val hn
  unfold Oper.wp
  rcases hop with hop | hop <;> simp [execOp, hop, hm, hx, hv, hrun, Result.andThen, Oper.upon] <;> exact hK w' h1 h2 h3
theorem wpUpdC_sameA (m x v : Operand) (hop : o.op = .mapUpdate T m x v ∨ o.op = .insert T m x v) (h : MapCA w b es) (ht : Tryz.prog.underlying T = some (.map 117 e)) (c : C) (val : Value)
    (hm : a.eval m = .map (some b)) (hx : a.eval x = cellVA c) (hv : a.eval v = val) (hn : lookCA es c = some val)
    (hK : ∀ w', MapCA w' b es → w.grownBy w' (some b) → w'.heap.size = w.heap.size → K (a.put o.dst undef) w') : o.wp Tryz.prog a w K Q := by
  obtain ⟨w', hrun, h1, h2, h3⟩ := run_updC_sameA h ht c val hn
  unfold Oper.wp
  rcases hop with hop | hop <;> simp [execOp, hop, hm, hx, hv, hrun, Result.andThen, Oper.upon] <;> exact hK w' h1 h2 h3
theorem wpList_updCA {ops : Array Oper} {rest : List Oper} (hgd : o.guard = none) (m x v : Operand) (hop : o.op = .mapUpdate T m x v ∨ o.op = .insert T m x v) (h : MapCA w b es) (ht : Tryz.prog.underlying T = some (.map 117 e)) (c : C) (val : Value)
    (hm : a.eval m = .map (some b)) (hx : a.eval x = cellVA c) (hv : a.eval v = val) (hn : lookCA es c = none)
    (hK : ∀ w', MapCA w' b (es ++ [(c, val)]) → w.grownBy w' (some b) → w'.heap.size = w.heap.size → wpList Tryz.prog ops Q rest (a.put o.dst undef) w') : wpList Tryz.prog ops Q (o :: rest) a w :=
  wpList_plain hgd fun K hK' => wpUpdCA m x v hop h ht c val hm hx hv hn fun w' h1 h2 h3 => hK' _ _ (hK w' h1 h2 h3)
theorem wpList_updC_sameA {ops : Array Oper} {rest : List Oper} (hgd : o.guard = none) (m x v : Operand) (hop : o.op = .mapUpdate T m x v ∨ o.op = .insert T m x v) (h : MapCA w b es) (ht : Tryz.prog.underlying T = some (.map 117 e)) (c : C) (val : Value)
    (hm : a.eval m = .map (some b)) (hx : a.eval x = cellVA c) (hv : a.eval v = val) (hn : lookCA es c = some val)
    (hK : ∀ w', MapCA w' b es → w.grownBy w' (some b) → w'.heap.size = w.heap.size → wpList Tryz.prog ops Q rest (a.put o.dst undef) w') : wpList Tryz.prog ops Q (o :: rest) a w :=
  wpList_plain hgd fun K hK' => wpUpdC_sameA m x v hop h ht c val hm hx hv hn fun w' h1 h2 h3 => hK' _ _ (hK w' h1 h2 h3)
end
end Go.Proofs.YtcgjnonlndaoeaaGreatDoor

/- The program's packer: the most placements from one on, remembered in a map. -/
namespace Go.Proofs.YtcgjnonlndaoeaaGreatDoor
open Go.RowKit
set_option linter.unusedVariables false
attribute [local go_sem ↓] Go.wp_at_zero Go.wp_at_succ

/-- What the packer remembers is right. -/
def EntOk (L : List Int) (es : List (C × Value)) : Prop := ∀ p ∈ es, ∃ i u : Nat, p.1 = ((i : Int), (u : Int)) ∧ p.2 = .int .i64 (mostL (L.drop i) u : Nat)
theorem look_ent {L : List Int} {es : List (C × Value)} (h : EntOk L es) {i u : Nat} {v : Value} (hv : lookCA es ((i : Int), (u : Int)) = some v) : v = .int .i64 (mostL (L.drop i) u : Nat) := by
  unfold lookCA at hv
  rw [Option.map_eq_some_iff] at hv
  obtain ⟨p, hp, rfl⟩ := hv
  obtain ⟨i', u', h1, h2⟩ := h p (List.mem_of_find?_eq_some hp)
  have h3 := List.find?_some hp
  simp only [beq_iff_eq] at h3
  rw [h1] at h3
  injection h3 with e1 e2
  rw [h2]
  have e3 : i' = i := by omega
  have e4 : u' = u := by omega
  rw [e3, e4]
theorem EntOk.snoc {L : List Int} {es : List (C × Value)} (h : EntOk L es) (i u : Nat) : EntOk L (es ++ [(((i : Int), (u : Int)), .int .i64 (mostL (L.drop i) u : Nat))]) := fun p hp => by
  rcases List.mem_append.1 hp with hp | hp
  · exact h p hp
  · rw [List.mem_singleton] at hp
    subst hp
    exact ⟨i, u, rfl, rfl⟩
/-- A packer. -/
structure Pk (gp mb : Nat) (A : Option Addr) (q c : Nat) (L : List Int) (es : List (C × Value)) (w : World) : Prop where
  blk : Blk w gp 104 #[.slice A q c, .map (some mb)]
  rd : Rd w A (vI L)
  map : MapCA w mb es
  ent : EntOk L es
  dm : gp ≠ mb
  dA : ∀ b, ob A = some b → b ≠ mb
section
variable {gp mb : Nat} {A : Option Addr} {q c : Nat} {L : List Int} {es es' : List (C × Value)} {w w' : World}
theorem Pk.below (h : Pk gp mb A q c L es w) (hb : Below w.heap.size w w') : Pk gp mb A q c L es w' := ⟨h.blk.below hb, h.rd.below hb, h.map.below hb, h.ent, h.dm, h.dA⟩
theorem Pk.put (h : Pk gp mb A q c L es w) (hg : w.grownBy w' (some mb)) (hm : MapCA w' mb es') (he : EntOk L es') : Pk gp mb A q c L es' w' :=
  ⟨h.blk.grown hg (fun e => by injection e with e; exact h.dm e), h.rd.grown hg (fun b e r => by injection r with r; exact h.dA b e r), hm, he, h.dm, h.dA⟩
end
theorem bel_gr {w w' : World} {row : Option Nat} (h : Below w.heap.size w w') : w.grownBy w' row := ⟨h.os, h.tape, h.output, h.size, fun b hb _ => h.block b hb⟩
def RetMo (gp mb : Nat) (A : Option Addr) (q c : Nat) (L : List Int) (v : Nat) (w : World) (e : Ending) (w' : World) : Prop :=
  ∃ es', e = .returned (.int .i64 (v : Int)) ∧ Pk gp mb A q c L es' w' ∧ w.grownBy w' (some mb)
set_option maxRecDepth 100000 in
set_option maxHeartbeats 3200000 in
theorem most_i (gp mb : Nat) (A : Option Addr) (q c : Nat) (L : List Int) (hl : L.length = q) (hq : q ≤ 1048576) (hM : Msk 36 L) : ∀ (k i used : Nat) (es : List (C × Value)) (w : World), i + k = q → used < 2 ^ 36 → Pk gp mb A q c L es w →
    Calls Tryz.prog 84 #[.pointer (some ⟨gp, 0, none⟩), .int .i64 (i : Int), .int .i64 (used : Int)] w (RetMo gp mb A q c L (mostL (L.drop i) used) w)
  | 0, i, used, es, w, hik, hu, hp => by
    obtain rfl : i = q := by omega
    have b0 : w.cell? ⟨gp, 0, none⟩ = some (.slice A i c) := by simpa using hp.blk.cell 0
    have bl := hp.blk.lt
    have HP := Lib.hid hp
    have h0 : mostL (L.drop i) used = 0 := by rw [List.drop_eq_nil_of_le (by omega)]; rfl
    have he : ((i : Int) == (i : Int)) = true := by simp
    rw [h0]
    clear hp hik hM h0 hl
    go_enter Tryz.func84, Tryz.ntmps84
    go_wp2_with fail
    go_ret
    exact ⟨es, rfl, HP.out, World.grownBy.refl _ _⟩
  | k + 1, i, used, es, w, hik, hu, hp => by
    have hlt : i < q := by omega
    have hil : i < L.length := by omega
    obtain ⟨m, hm, hm36⟩ := hM _ (List.getElem_mem hil)
    have hdrop : L.drop i = (m : Int) :: L.drop (i + 1) := by rw [List.drop_eq_getElem_cons hil, hm]
    have hne : ((i : Int) == (q : Int)) = false := by simp only [beq_eq_false_iff_ne]; omega
    have hcell : ∀ w', Rd w' A (vI L) → ∃ g off, A = some ⟨g, off, none⟩ ∧ g < w'.heap.size ∧ w'.cell? ⟨g, off + i, none⟩ = some (.int .i64 (m : Int)) := fun w' hr => by
      obtain ⟨g, off, h1, h2, h3⟩ := RdI.at_ hr hil
      rw [hm] at h3
      exact ⟨g, off, h1, h2, h3⟩
    have IH : ∀ (used : Nat) (es : List (C × Value)) (w : World), used < 2 ^ 36 → Pk gp mb A q c L es w →
      Calls Tryz.prog 84 #[.pointer (some ⟨gp, 0, none⟩), .int .i64 ((i + 1 : Nat) : Int), .int .i64 (used : Int)] w (RetMo gp mb A q c L (mostL (L.drop (i + 1)) used) w) := fun used es w h1 h2 => most_i gp mb A q c L hl hq hM k (i + 1) used es w (by omega) h1 h2
    have hkey := bel_alloc (Below.refl w.heap.size w) (.cells #[.int .i64 (i : Int), .int .i64 (used : Int)] 117)
    have hK1 := Blk.new w 117 #[.int .i64 (i : Int), .int .i64 (used : Int)]
    have hp1 := hp.below hkey
    have b0 : w.cell? ⟨gp, 0, none⟩ = some (.slice A q c) := by simpa using hp.blk.cell 0
    have bl := hp.blk.lt
    have hz2 := most_len (L.drop (i + 1))
    have hmb : mb < w.heap.size := hp.map.lt
    have hdl : (L.drop (i + 1)).length ≤ 1048576 := by rw [List.length_drop]; omega
    obtain ⟨w1, hw1⟩ : ∃ w1, w.alloc (.cells #[.int .i64 (i : Int), .int .i64 (used : Int)] 117) = w1 := ⟨_, rfl⟩
    rw [hw1] at hkey hK1 hp1
    have HW1 := Lib.hid hw1
    have HK1 := Lib.hid hK1
    have HP1 := Lib.hid hp1
    have HB1 := Lib.hid hkey
    have HIH := Lib.hid @IH
    have HCE := Lib.hid @hcell
    have HDR := Lib.hid hdrop
    have HZ2 := Lib.hid hz2
    have HDL := Lib.hid hdl
    have HU := Lib.hid hu
    clear hw1 hK1 hp1 hkey IH hcell hdrop hz2 hdl hu hp hil hm hM hl
    have hlks : ∀ w', Below w1.heap.size w1 w' → (Instr.lookup 102 (.map (some mb)) (cellVA ((i : Int), (used : Int))) true).run Tryz.prog w' = .ok (.tuple #[(lookCA es ((i : Int), (used : Int))).getD (.int .i64 0), .bool (lookCA es ((i : Int), (used : Int))).isSome]) w' := fun w' hb => by
      have := run_lookCA (HP1.out.below hb).map Tryz.underlying102 (z := .int .i64 0) (by kernel_rfl) ((i : Int), (used : Int)) true
      simpa using this
    simp only [cellVA] at hlks
    have c0 : w1.cell? ⟨gp, 0, none⟩ = some (.slice A q c) := by simpa using HP1.out.blk.cell 0
    have c1 : w1.cell? ⟨gp, 1, none⟩ = some (.map (some mb)) := by simpa using HP1.out.blk.cell 1
    have cl := HP1.out.blk.lt
    have k0 : w1.cell? ⟨w.heap.size, 0, none⟩ = some (.int .i64 (i : Int)) := by simpa using HK1.out.cell 0
    have k1 : w1.cell? ⟨w.heap.size, 1, none⟩ = some (.int .i64 (used : Int)) := by simpa using HK1.out.cell 1
    have kl := HK1.out.lt
    obtain ⟨o, ho⟩ : ∃ o, lookCA es ((i : Int), (used : Int)) = o := ⟨_, rfl⟩
    rw [ho] at hlks
    cases o with
    | some v =>
      obtain ⟨r, hr⟩ : ∃ r, mostL (L.drop i) used = r := ⟨_, rfl⟩
      have hv := look_ent HP1.out.ent ho
      rw [hr] at hv ⊢
      clear hr
      subst hv
      simp only [Option.getD_some, Option.isSome_some] at hlks
      have HLK := Lib.hid hlks
      clear hlks ho
      go_enter Tryz.func84, Tryz.ntmps84
      go_upto_region 4 with fail
      rw [HW1.out]
      (refine wp_region_below (by kernel_rfl) (by kernel_rfl) ?_; (repeat (first | go_big_quiet_skip | (refine quietV (v := ?_) (by rfl) rfl (fun w' hbw => ?_) ?_; rotate_left; ((try dsimp only at hbw); have hbc := (bcell hbw).1; have hbf := (bcell hbw).2; go_simp; first | done | with_reducible rfl | (have hl := HLK.out _ hbw; go_simp; first | done | with_reducible rfl)); simp only [List.setIfInBounds_toArray, List.set_cons_zero, List.set_cons_succ]))); refine wpQuiet_nil ?_; intro w2 hb2)
      go_wp2_with fail
      go_ret
      exact ⟨es, rfl, HP1.out.below hb2, bel_gr (bel_trans HB1.out hb2)⟩
    | none =>
      simp only [Option.getD_none, Option.isSome_none] at hlks
      have HLK := Lib.hid hlks
      obtain ⟨i1, hi1⟩ : ∃ i1, i + 1 = i1 := ⟨_, rfl⟩
      have hi1I : (i : Int) + 1 = (i1 : Int) := by omega
      have ei1 : IntKind.i64.wrap (i1 : Int) = (i1 : Int) := Go.IntWalk.i64_in _ (by omega)
      have hi0 : (0 : Int) ≤ (i : Int) := by omega
      have hiq : (i : Int) < (q : Int) := by omega
      rw [hi1] at HIH HDR HZ2 HDL
      obtain ⟨a, ha⟩ : ∃ a, mostL (L.drop i1) used = a := ⟨_, rfl⟩
      have haz : a ≤ 1048576 := by have h1 := HZ2.out used; have h2 := HDL.out; omega
      have HA := Lib.hid ha
      have hC1 := Lib.hid (HIH.out used es)
      clear hlks ho hi1 ha
      go_enter Tryz.func84, Tryz.ntmps84
      go_upto_region 4 with fail
      rw [HW1.out]
      (refine wp_region_below (by kernel_rfl) (by kernel_rfl) ?_; (repeat (first | go_big_quiet_skip | (refine quietV (v := ?_) (by rfl) rfl (fun w' hbw => ?_) ?_; rotate_left; ((try dsimp only at hbw); have hbc := (bcell hbw).1; have hbf := (bcell hbw).2; go_simp; first | done | with_reducible rfl | (have hl := HLK.out _ hbw; go_simp; first | done | with_reducible rfl)); simp only [List.setIfInBounds_toArray, List.set_cons_zero, List.set_cons_succ]))); refine wpQuiet_nil ?_; intro w2 hb2)
      have HP2 := Lib.hid (HP1.out.below hb2)
      have HG2 : Hid (w.grownBy w2 (some mb)) := bel_gr (bel_trans HB1.out hb2)
      have HK2 := Lib.hid (HK1.out.below hb2)
      clear hb2 c0 c1 cl k0 k1 kl
      go_wp2_with fail
      refine (hC1.out w2 HU.out HP2.out).mono ?_
      rw [HA.out]
      rintro e w3 ⟨es3, rfl, hp3, hg3⟩
      have HP3 := Lib.hid hp3
      have HG3 := Lib.hid (HG2.out.trans hg3)
      have HK3 := Lib.hid (HK2.out.grown hg3 (fun e => by injection e with e; omega))
      obtain ⟨g, off, hA, hgg, d0⟩ := HCE.out w3 hp3.rd
      obtain ⟨z, hz⟩ : ∃ z, m &&& used = z := ⟨_, rfl⟩
      have hand : bits .and .i64 (m : Int) (used : Int) = (z : Int) := by rw [i64_and m used (by omega) (by have := HU.out; omega), hz]
      have c0 : w3.cell? ⟨gp, 0, none⟩ = some (.slice A q c) := by simpa using hp3.blk.cell 0
      have cl := hp3.blk.lt
      obtain ⟨r, hr⟩ : ∃ r, mostL (L.drop i) used = r := ⟨_, rfl⟩
      rw [hr]
      have HRV := Lib.hid hr
      clear hp3 hg3 hr
      rw [hA] at c0
      by_cases hz0 : z = 0
      · have hze : ((z : Int) == 0) = true := by simp [hz0]
        obtain ⟨u2, hu2⟩ : ∃ u2, used ||| m = u2 := ⟨_, rfl⟩
        have hor : bits .or .i64 (used : Int) (m : Int) = (u2 : Int) := by rw [i64_or used m (by have := HU.out; omega) (by omega), hu2]
        have hu236 : u2 < 2 ^ 36 := by rw [← hu2]; exact Nat.or_lt_two_pow HU.out hm36
        obtain ⟨b, hb⟩ : ∃ b, mostL (L.drop i1) u2 = b := ⟨_, rfl⟩
        have hbz : b ≤ 1048576 := by have h1 := HZ2.out u2; have h2 := HDL.out; omega
        obtain ⟨b1, hb1⟩ : ∃ b1, 1 + b = b1 := ⟨_, rfl⟩
        have hb1I : (1 : Int) + (b : Int) = (b1 : Int) := by omega
        have eb1 : IntKind.i64.wrap (b1 : Int) = (b1 : Int) := Go.IntWalk.i64_in _ (by omega)
        have hrm : r = max a b1 := by
          have h := HRV.out
          rw [HDR.out, most_yes (by rw [Int.toNat_natCast, hz, hz0]), Int.toNat_natCast, hu2, HA.out, hb, hb1] at h
          exact h.symm
        have HBV := Lib.hid hb
        have HRM := Lib.hid hrm
        have hC2 := Lib.hid (HIH.out u2 es3)
        clear hz hz0 hu2 hb hb1 hrm
        go_wp2_with fail
        refine (hC2.out w3 hu236 HP3.out).mono ?_
        rw [HBV.out]
        rintro e w4 ⟨es4, rfl, hp4, hg4⟩
        have HP4 := Lib.hid hp4
        have HG4 := Lib.hid (HG3.out.trans hg4)
        have HK4 := Lib.hid (HK3.out.grown hg4 (fun e => by injection e with e; omega))
        clear hp4 hg4 d0 c0 cl
        by_cases hba : b1 > a
        · have hbI : (b1 : Int) > (a : Int) := by omega
          have hmx : max (a : Int) (b1 : Int) = (r : Int) := by have := HRM.out; omega
          have hmy : max (b1 : Int) (a : Int) = (r : Int) := by have := HRM.out; omega
          obtain rfl : r = b1 := by have := HRM.out; omega
          clear hba
          have HSN := Lib.hid (EntOk.snoc HP4.out.ent i used)
          have hlv : ∀ v, lookCA es4 ((i : Int), (used : Int)) = some v → v = .int .i64 ((r : Nat) : Int) := fun v h => by rw [look_ent HP4.out.ent h, HRV.out]
          have HLV := Lib.hid hlv
          rw [HRV.out] at HSN
          have c1 : w4.cell? ⟨gp, 1, none⟩ = some (.map (some mb)) := by simpa using HP4.out.blk.cell 1
          have cl := HP4.out.blk.lt
          have k0 : w4.cell? ⟨w.heap.size, 0, none⟩ = some (.int .i64 (i : Int)) := by simpa using HK4.out.cell 0
          have k1 : w4.cell? ⟨w.heap.size, 1, none⟩ = some (.int .i64 (used : Int)) := by simpa using HK4.out.cell 1
          have kl := HK4.out.lt
          have hgm : ¬ (some gp = ob (some (⟨mb, 0, none⟩ : Addr))) := fun e => by simp [ob] at e; exact HP4.out.dm e
          have hkm : ¬ (some w.heap.size = ob (some (⟨mb, 0, none⟩ : Addr))) := fun e => by simp [ob] at e; omega
          clear hlv
          go_wp2_with fail
          (refine wp_region_tailN (C := Gr w4 (some ⟨mb, 0, none⟩)) 6 (by kernel_rfl) (by kernel_rfl) (Gr.drawn _ _) (fun _ _ h k => h.ext k) ?_; simp only [List.take_succ_cons, List.take_zero, List.drop_succ_cons, List.drop_zero]; (repeat (first | (refine headSkip (by rfl) rfl ?_; simp only [List.setIfInBounds_toArray, List.set_cons_zero, List.set_cons_succ]) | (refine headV (v := ?_) (by rfl) rfl (fun w' hcw => ?_) ?_; rotate_left; ((try dsimp only at hcw); have hbc := hcw.cells; go_simp; first | done | with_reducible rfl | fail); simp only [List.setIfInBounds_toArray, List.set_cons_zero, List.set_cons_succ]))); unfold wpHead)
          refine tailK (by rfl) (fun u1 hc1 he1 K hK => ?_)
          cases hlk : lookCA es4 ((i : Int), (used : Int)) with
          | none =>
            refine wpUpdCA (T := 102) _ _ _ (Or.inl rfl) (HP4.out.map.below he1) Tryz.underlying102 ((i : Int), (used : Int)) (.int .i64 ((r : Nat) : Int)) rfl rfl rfl hlk ?_
            intro u2 hM2 hg2 hz2
            refine hK _ _ (Gr.trans hc1 hg2) ?_
            clear hK K
            simp only [Act.put]
            (refine fun u3 hc3 he3 => NoPanic.normal ?_)
            have HP5 := Lib.hid (((HP4.out.below he1).put hg2 hM2 HSN.out).below he3)
            have HG5 := Lib.hid (((HG4.out.trans (bel_gr he1)).trans hg2).trans (bel_gr he3))
            clear hM2 hg2 hz2 hc3 he3 hc1 he1 hlk c1 cl k0 k1 kl
            go_wp2_with fail
            go_ret
            exact ⟨_, by rw [HRV.out]; rfl, HP5.out, HG5.out⟩
          | some v =>
            have hv := HLV.out v hlk
            subst hv
            refine wpUpdC_sameA (T := 102) _ _ _ (Or.inl rfl) (HP4.out.map.below he1) Tryz.underlying102 ((i : Int), (used : Int)) (.int .i64 ((r : Nat) : Int)) rfl rfl rfl hlk ?_
            intro u2 hM2 hg2 hz2
            refine hK _ _ (Gr.trans hc1 hg2) ?_
            clear hK K
            simp only [Act.put]
            (refine fun u3 hc3 he3 => NoPanic.normal ?_)
            have HP5 := Lib.hid (((HP4.out.below he1).put hg2 hM2 HP4.out.ent).below he3)
            have HG5 := Lib.hid (((HG4.out.trans (bel_gr he1)).trans hg2).trans (bel_gr he3))
            clear hM2 hg2 hz2 hc3 he3 hc1 he1 hlk c1 cl k0 k1 kl
            go_wp2_with fail
            go_ret
            exact ⟨_, by rw [HRV.out]; rfl, HP5.out, HG5.out⟩
        · have hbI : ¬ (b1 : Int) > (a : Int) := by omega
          have hmx : max (a : Int) (b1 : Int) = (r : Int) := by have := HRM.out; omega
          have hmy : max (b1 : Int) (a : Int) = (r : Int) := by have := HRM.out; omega
          obtain rfl : r = a := by have := HRM.out; omega
          clear hba
          have HSN := Lib.hid (EntOk.snoc HP4.out.ent i used)
          have hlv : ∀ v, lookCA es4 ((i : Int), (used : Int)) = some v → v = .int .i64 ((r : Nat) : Int) := fun v h => by rw [look_ent HP4.out.ent h, HRV.out]
          have HLV := Lib.hid hlv
          rw [HRV.out] at HSN
          have c1 : w4.cell? ⟨gp, 1, none⟩ = some (.map (some mb)) := by simpa using HP4.out.blk.cell 1
          have cl := HP4.out.blk.lt
          have k0 : w4.cell? ⟨w.heap.size, 0, none⟩ = some (.int .i64 (i : Int)) := by simpa using HK4.out.cell 0
          have k1 : w4.cell? ⟨w.heap.size, 1, none⟩ = some (.int .i64 (used : Int)) := by simpa using HK4.out.cell 1
          have kl := HK4.out.lt
          have hgm : ¬ (some gp = ob (some (⟨mb, 0, none⟩ : Addr))) := fun e => by simp [ob] at e; exact HP4.out.dm e
          have hkm : ¬ (some w.heap.size = ob (some (⟨mb, 0, none⟩ : Addr))) := fun e => by simp [ob] at e; omega
          clear hlv
          go_wp2_with fail
          (refine wp_region_tailN (C := Gr w4 (some ⟨mb, 0, none⟩)) 6 (by kernel_rfl) (by kernel_rfl) (Gr.drawn _ _) (fun _ _ h k => h.ext k) ?_; simp only [List.take_succ_cons, List.take_zero, List.drop_succ_cons, List.drop_zero]; (repeat (first | (refine headSkip (by rfl) rfl ?_; simp only [List.setIfInBounds_toArray, List.set_cons_zero, List.set_cons_succ]) | (refine headV (v := ?_) (by rfl) rfl (fun w' hcw => ?_) ?_; rotate_left; ((try dsimp only at hcw); have hbc := hcw.cells; go_simp; first | done | with_reducible rfl | fail); simp only [List.setIfInBounds_toArray, List.set_cons_zero, List.set_cons_succ]))); unfold wpHead)
          refine tailK (by rfl) (fun u1 hc1 he1 K hK => ?_)
          cases hlk : lookCA es4 ((i : Int), (used : Int)) with
          | none =>
            refine wpUpdCA (T := 102) _ _ _ (Or.inl rfl) (HP4.out.map.below he1) Tryz.underlying102 ((i : Int), (used : Int)) (.int .i64 ((r : Nat) : Int)) rfl rfl rfl hlk ?_
            intro u2 hM2 hg2 hz2
            refine hK _ _ (Gr.trans hc1 hg2) ?_
            clear hK K
            simp only [Act.put]
            (refine fun u3 hc3 he3 => NoPanic.normal ?_)
            have HP5 := Lib.hid (((HP4.out.below he1).put hg2 hM2 HSN.out).below he3)
            have HG5 := Lib.hid (((HG4.out.trans (bel_gr he1)).trans hg2).trans (bel_gr he3))
            clear hM2 hg2 hz2 hc3 he3 hc1 he1 hlk c1 cl k0 k1 kl
            go_wp2_with fail
            go_ret
            exact ⟨_, by rw [HRV.out]; rfl, HP5.out, HG5.out⟩
          | some v =>
            have hv := HLV.out v hlk
            subst hv
            refine wpUpdC_sameA (T := 102) _ _ _ (Or.inl rfl) (HP4.out.map.below he1) Tryz.underlying102 ((i : Int), (used : Int)) (.int .i64 ((r : Nat) : Int)) rfl rfl rfl hlk ?_
            intro u2 hM2 hg2 hz2
            refine hK _ _ (Gr.trans hc1 hg2) ?_
            clear hK K
            simp only [Act.put]
            (refine fun u3 hc3 he3 => NoPanic.normal ?_)
            have HP5 := Lib.hid (((HP4.out.below he1).put hg2 hM2 HP4.out.ent).below he3)
            have HG5 := Lib.hid (((HG4.out.trans (bel_gr he1)).trans hg2).trans (bel_gr he3))
            clear hM2 hg2 hz2 hc3 he3 hc1 he1 hlk c1 cl k0 k1 kl
            go_wp2_with fail
            go_ret
            exact ⟨_, by rw [HRV.out]; rfl, HP5.out, HG5.out⟩
      · have hze : ((z : Int) == 0) = false := by simp [hz0]
        obtain rfl : r = a := by
          have h := HRV.out
          rw [HDR.out, most_no (by rw [Int.toNat_natCast, hz]; exact hz0), HA.out] at h
          exact h.symm
        clear hz hz0
        go_upto_region 10 with fail
        clear d0 c0 cl
        have HSN := Lib.hid (EntOk.snoc HP3.out.ent i used)
        have hlv : ∀ v, lookCA es3 ((i : Int), (used : Int)) = some v → v = .int .i64 ((r : Nat) : Int) := fun v h => by rw [look_ent HP3.out.ent h, HRV.out]
        have HLV := Lib.hid hlv
        rw [HRV.out] at HSN
        have c1 : w3.cell? ⟨gp, 1, none⟩ = some (.map (some mb)) := by simpa using HP3.out.blk.cell 1
        have cl := HP3.out.blk.lt
        have k0 : w3.cell? ⟨w.heap.size, 0, none⟩ = some (.int .i64 (i : Int)) := by simpa using HK3.out.cell 0
        have k1 : w3.cell? ⟨w.heap.size, 1, none⟩ = some (.int .i64 (used : Int)) := by simpa using HK3.out.cell 1
        have kl := HK3.out.lt
        have hgm : ¬ (some gp = ob (some (⟨mb, 0, none⟩ : Addr))) := fun e => by simp [ob] at e; exact HP3.out.dm e
        have hkm : ¬ (some w.heap.size = ob (some (⟨mb, 0, none⟩ : Addr))) := fun e => by simp [ob] at e; omega
        clear hlv
        go_wp2_with fail
        (refine wp_region_tailN (C := Gr w3 (some ⟨mb, 0, none⟩)) 6 (by kernel_rfl) (by kernel_rfl) (Gr.drawn _ _) (fun _ _ h k => h.ext k) ?_; simp only [List.take_succ_cons, List.take_zero, List.drop_succ_cons, List.drop_zero]; (repeat (first | (refine headSkip (by rfl) rfl ?_; simp only [List.setIfInBounds_toArray, List.set_cons_zero, List.set_cons_succ]) | (refine headV (v := ?_) (by rfl) rfl (fun w' hcw => ?_) ?_; rotate_left; ((try dsimp only at hcw); have hbc := hcw.cells; go_simp; first | done | with_reducible rfl | fail); simp only [List.setIfInBounds_toArray, List.set_cons_zero, List.set_cons_succ]))); unfold wpHead)
        refine tailK (by rfl) (fun u1 hc1 he1 K hK => ?_)
        cases hlk : lookCA es3 ((i : Int), (used : Int)) with
        | none =>
          refine wpUpdCA (T := 102) _ _ _ (Or.inl rfl) (HP3.out.map.below he1) Tryz.underlying102 ((i : Int), (used : Int)) (.int .i64 ((r : Nat) : Int)) rfl rfl rfl hlk ?_
          intro u2 hM2 hg2 hz2
          refine hK _ _ (Gr.trans hc1 hg2) ?_
          clear hK K
          simp only [Act.put]
          (refine fun u3 hc3 he3 => NoPanic.normal ?_)
          have HP5 := Lib.hid (((HP3.out.below he1).put hg2 hM2 HSN.out).below he3)
          have HG5 := Lib.hid (((HG3.out.trans (bel_gr he1)).trans hg2).trans (bel_gr he3))
          clear hM2 hg2 hz2 hc3 he3 hc1 he1 hlk c1 cl k0 k1 kl
          go_wp2_with fail
          go_ret
          exact ⟨_, by rw [HRV.out]; rfl, HP5.out, HG5.out⟩
        | some v =>
          have hv := HLV.out v hlk
          subst hv
          refine wpUpdC_sameA (T := 102) _ _ _ (Or.inl rfl) (HP3.out.map.below he1) Tryz.underlying102 ((i : Int), (used : Int)) (.int .i64 ((r : Nat) : Int)) rfl rfl rfl hlk ?_
          intro u2 hM2 hg2 hz2
          refine hK _ _ (Gr.trans hc1 hg2) ?_
          clear hK K
          simp only [Act.put]
          (refine fun u3 hc3 he3 => NoPanic.normal ?_)
          have HP5 := Lib.hid (((HP3.out.below he1).put hg2 hM2 HP3.out.ent).below he3)
          have HG5 := Lib.hid (((HG3.out.trans (bel_gr he1)).trans hg2).trans (bel_gr he3))
          clear hM2 hg2 hz2 hc3 he3 hc1 he1 hlk c1 cl k0 k1 kl
          go_wp2_with fail
          go_ret
          exact ⟨_, by rw [HRV.out]; rfl, HP5.out, HG5.out⟩
end Go.Proofs.YtcgjnonlndaoeaaGreatDoor

/- The program's CountPacked. -/
namespace Go.Proofs.YtcgjnonlndaoeaaGreatDoor
open Go.RowKit
set_option linter.unusedVariables false
attribute [local go_sem ↓] Go.wp_at_zero Go.wp_at_succ

def RetLp (w : World) (b : Bool) (v : Nat) (e : Ending) (w' : World) : Prop := ∃ X x xc, e = .returned (.tuple #[.slice X x xc, .bool b]) ∧ (b = true → x = v) ∧ Below w.heap.size w w'
set_option maxRecDepth 100000 in
set_option maxHeartbeats 3200000 in
theorem LargestPacking_i (W : Int) (A B : Option Addr) (n c q cb : Nat) (rows : List Int) (hs : List H) (P : List (List C)) (w : World) (hr : Rd w A (vI rows)) (hl : rows.length = n) (hp : RdP w B q hs P) (hq : q ≤ 1048576) (hm : totC P ≤ 1048576) :
    Calls Tryz.prog 62 #[.agg #[.int .i64 W, .slice A n c], .slice B q cb] w (RetLp w (smallV W rows P) (mostL (allV W rows P) 0)) := by
  have HL := Lib.hid hl
  have HR := Lib.hid (hr.alloc (.cells #[.int .i64 W, .slice A n c] 29))
  have HP := Lib.hid (hp.alloc (.cells #[.int .i64 W, .slice A n c] 29))
  have HB0 := Lib.hid (Blk.new w 29 #[.int .i64 W, .slice A n c])
  have HM := Lib.hid hm
  have hbw0 : Below w.heap.size w (w.alloc (.cells #[.int .i64 W, .slice A n c] 29)) := bel_alloc (Below.refl _ _) _
  have HBW0 := Lib.hid hbw0
  clear hl hr hp hm hbw0
  obtain ⟨W0, hW0⟩ : ∃ W0, w.alloc (.cells #[.int .i64 W, .slice A n c] 29) = W0 := ⟨_, rfl⟩
  rw [hW0] at HR HP HB0 HBW0
  have HW0 := Lib.hid hW0
  clear hW0
  have b0 : W0.cell? ⟨w.heap.size, 0, none⟩ = some (.int .i64 W) := by simpa using HB0.out.cell 0
  have b1 : W0.cell? ⟨w.heap.size, 1, none⟩ = some (.slice A n c) := by simpa using HB0.out.cell 1
  have bl := HB0.out.lt
  cases hsm : smallV W rows P with
  | false =>
    have HS := Lib.hid hsm
    clear hsm
    go_enter Tryz.func62, Tryz.ntmps62
    go_wp2_with fail
    rw [HW0.out]
    refine (isSmall_i W A B n c q cb rows hs P _ HR.out HL.out HP.out hq HM.out).mono ?_
    rw [HS.out]
    rintro e w1 ⟨rfl, hb1⟩
    have HB1 := Lib.hid (bel_trans HBW0.out hb1)
    clear hb1
    go_wp2_with fail
    go_ret2
    exact ⟨_, _, _, rfl, (fun h => by cases h), HB1.out⟩
  | true =>
    obtain ⟨hvr, hpc, a, ha, ha12⟩ := small_parts hsm
    have hLm := allV_msk W rows P
    have hLl := allV_len W rows P
    have hp5 := (pcs_at hpc).1
    obtain ⟨L, hLe⟩ : ∃ L, allV W rows P = L := ⟨_, rfl⟩
    rw [hLe] at hLm hLl ⊢
    have hL5 : L.length ≤ 1440 := by omega
    obtain ⟨V, hV⟩ : ∃ V, mostL L 0 = V := ⟨_, rfl⟩
    rw [hV]
    have HV := Lib.hid hV
    have HS := Lib.hid hsm
    have HVR := Lib.hid hvr
    have HPC := Lib.hid hpc
    have HLE := Lib.hid hLe
    have HLM := Lib.hid hLm
    have HL5 := Lib.hid hL5
    clear hsm hvr hpc hLe hLm hLl hp5 hL5 ha hV
    go_enter Tryz.func62, Tryz.ntmps62
    go_wp2_with fail
    rw [HW0.out]
    refine (isSmall_i W A B n c q cb rows hs P _ HR.out HL.out HP.out hq HM.out).mono ?_
    rw [HS.out]
    rintro e w1 ⟨rfl, hb1⟩
    have HB1 := Lib.hid (bel_trans HBW0.out hb1)
    have hB := HB0.out.below hb1
    have HR1 := Lib.hid (HR.out.below hb1)
    have HP1 := Lib.hid (HP.out.below hb1)
    clear hb1 b0 b1 bl
    have b0 : w1.cell? ⟨w.heap.size, 0, none⟩ = some (.int .i64 W) := by simpa using hB.cell 0
    have b1 : w1.cell? ⟨w.heap.size, 1, none⟩ = some (.slice A n c) := by simpa using hB.cell 1
    have bl := hB.lt
    clear hB
    go_wp2_with fail
    refine (all_i W A B n c q cb rows hs P _ HR1.out HL.out HVR.out HP1.out HPC.out).mono ?_
    rw [HLE.out]
    rintro e w2 ⟨gE, q3, c3, rfl, hO, hb2⟩
    have hq3 : L.length = q3 := by have h := own_len hO; rw [vI_length] at h; omega
    have hq4 : q3 ≤ 1440 := by have := HL5.out; omega
    have HQ3 := Lib.hid hq3
    have hlt2 := own_lt hO
    have HGE := Lib.hid (fun b e => (hlt2 b e).2 : ∀ b, ob gE = some b → b < w2.heap.size)
    have HB2 := Lib.hid (bel_trans HB1.out hb2)
    have hx := bel_alloc (bel_alloc (Below.refl w2.heap.size w2) (.map #[] 0)) (.cells #[.slice gE q3 c3, .map (some w2.heap.size)] 104)
    have hPk : Pk (w2.heap.size + 1) w2.heap.size gE q3 c3 L [] ((w2.alloc (.map #[] 0)).alloc (.cells #[.slice gE q3 c3, .map (some w2.heap.size)] 104)) := by
      refine ⟨?_, (Rd.of_own hO).below hx, (MapCA.made w2).alloc _, fun p hp => absurd hp List.not_mem_nil, by omega, fun b e => by have := (hlt2 b e).2; omega⟩
      have h := Blk.new (w2.alloc (.map #[] 0)) 104 #[.slice gE q3 c3, .map (some w2.heap.size)]
      rw [World.size_alloc] at h
      exact h
    have HB3 := Lib.hid (bel_trans HB2.out hx)
    obtain ⟨w3, hw3⟩ : ∃ w3, (w2.alloc (.map #[] 0)).alloc (.cells #[.slice gE q3 c3, .map (some w2.heap.size)] 104) = w3 := ⟨_, rfl⟩
    have hs3 : w3.heap.size = w2.heap.size + 1 + 1 := by rw [← hw3]; simp
    rw [hw3] at hPk HB3
    have HPK := Lib.hid hPk
    have HW3 := Lib.hid hw3
    have HS3 := Lib.hid hs3
    have hs2 := HB2.out.size
    clear hO hq3 hb2 hx hPk hw3 hs3 b0 b1 bl hlt2
    have hmm := @run_makeMap Tryz.prog
    go_upto_region 4 with fail
    rw [HW3.out]
    clear hmm
    clear HW3
    obtain ⟨mb, hmb⟩ : ∃ mb, w2.heap.size = mb := ⟨_, rfl⟩
    obtain ⟨gp, hgp⟩ : ∃ gp, mb + 1 = gp := ⟨_, rfl⟩
    rw [hmb] at HPK HS3 hs2 HGE ⊢
    rw [hgp] at HPK ⊢
    have hgpI : gp = mb + 1 := hgp.symm
    have HGP := Lib.hid hgpI
    clear hmb hgp hgpI
    have c0 : w3.cell? ⟨gp, 0, none⟩ = some (.slice gE q3 c3) := by simpa using HPK.out.blk.cell 0
    have cl := HPK.out.blk.lt
    go_wp2_with fail
    go_loopw [23, 7, 8] (fun e23 e7 e8 wr => ∃ (i u x cD : Nat) (D : Option Addr) (xs : List Int) (es : List (C × Value)), i ≤ q3 ∧ e23 = .int .i64 i ∧ e7 = .slice D x cD ∧ e8 = .int .i64 u ∧ u < 2 ^ 36 ∧ x ≤ i ∧ Pk gp mb gE q3 c3 L es wr ∧ wr.ownsRow w3.heap.size 3 1 (.slice D x cD) x (vI xs) ∧ x + mostL (L.drop i) u = V ∧ Below w.heap.size w wr) (fun e23 _ _ _ => q3 - (intOf e23).toNat)
    case atStart => exact ⟨0, 0, 0, 0, none, [], [], Nat.zero_le _, rfl, rfl, rfl, by omega, by omega, HPK.out, own_nil _ _ _ _, by rw [List.drop_zero, HV.out]; omega, HB3.out⟩
    case round =>
      clear c0 cl HPK HV
      obtain ⟨i, u, x, cD, D, xs, es, hi, rfl, rfl, rfl, hu, hxi, hPk, hO, hsum, hb⟩ := hrel
      have HPk := Lib.hid hPk
      have HO := Lib.hid hO
      have HB := Lib.hid hb
      have hsw : w3.heap.size ≤ wr.heap.size := by have := hPk.map.lt; have := hPk.blk.lt; have := HS3.out; have := HGP.out; omega
      clear hO hb
      by_cases hlt : i < q3
      · have hi0 : (0 : Int) ≤ (i : Int) := by omega
        have hi1 : (i : Int) < (q3 : Int) := by omega
        have hil : i < L.length := by rw [HQ3.out]; exact hlt
        obtain ⟨g, off, hA, hgg, d0⟩ := RdI.at_ hPk.rd hil
        obtain ⟨m, hm, hm36⟩ := HLM.out _ (List.getElem_mem hil)
        rw [hm] at d0
        have hdrop : L.drop i = (m : Int) :: L.drop (i + 1) := by rw [List.drop_eq_getElem_cons hil, hm]
        obtain ⟨i1, hi1e⟩ : ∃ i1, i + 1 = i1 := ⟨_, rfl⟩
        have hi1I : (i : Int) + 1 = (i1 : Int) := by omega
        have ei1 : IntKind.i64.wrap (i1 : Int) = (i1 : Int) := Go.IntWalk.i64_in _ (by omega)
        rw [hi1e] at hdrop
        obtain ⟨z, hz⟩ : ∃ z, m &&& u = z := ⟨_, rfl⟩
        have hand : bits .and .i64 (m : Int) (u : Int) = (z : Int) := by rw [i64_and m u (by omega) (by omega), hz]
        have HDR := Lib.hid hdrop
        have HSUM := Lib.hid hsum
        have HU := Lib.hid hu
        have hC := Lib.hid (fun k i u es w (h1 : i + k = q3) (h2 : u < 2 ^ 36) (h3 : Pk gp mb gE q3 c3 L es w) => most_i gp mb gE q3 c3 L HQ3.out (by omega) HLM.out k i u es w h1 h2 h3)
        subst hA
        clear hdrop hsum hm hPk hil
        by_cases hz0 : z = 0
        · have hze : ((z : Int) == 0) = true := by simp [hz0]
          obtain ⟨u2, hu2⟩ : ∃ u2, u ||| m = u2 := ⟨_, rfl⟩
          have hor : bits .or .i64 (u : Int) (m : Int) = (u2 : Int) := by rw [i64_or u m (by omega) (by omega), hu2]
          have hu236 : u2 < 2 ^ 36 := by rw [← hu2]; exact Nat.or_lt_two_pow hu hm36
          obtain ⟨b, hb⟩ : ∃ b, mostL (L.drop i1) u2 = b := ⟨_, rfl⟩
          obtain ⟨s, hs⟩ : ∃ s, mostL (L.drop i) u = s := ⟨_, rfl⟩
          have hms : s = max (mostL (L.drop i1) u) (1 + b) := by
            rw [← hs, HDR.out, most_yes (by rw [Int.toNat_natCast, hz, hz0]), Int.toNat_natCast, hu2, hb]
          have hbz : b ≤ 1440 := by rw [← hb]; have h := most_len (L.drop i1) u2; rw [List.length_drop] at h; have := HL5.out; omega
          obtain ⟨b1, hb1⟩ : ∃ b1, 1 + b = b1 := ⟨_, rfl⟩
          have hb1I : (1 : Int) + (b : Int) = (b1 : Int) := by omega
          have eb1 : IntKind.i64.wrap (b1 : Int) = (b1 : Int) := Go.IntWalk.i64_in _ (by omega)
          have HBV := Lib.hid hb
          have HSV := Lib.hid hs
          have HMS := Lib.hid hms
          have HB1 := Lib.hid hb1
          have hc1 := Lib.hid (hC.out (q3 - i1) i1 u2 es wr (by omega) hu236 HPk.out)
          have hik : i + (q3 - i) = q3 := by omega
          have hI1 : i1 ≤ q3 := by omega
          have hie1 : i1 = i + 1 := hi1e.symm
          have HIE := Lib.hid hie1
          clear hz hz0 hu2 hb hs hms hb1 hi1e hie1
          go_wp2_with fail
          refine hc1.out.mono ?_
          rw [HBV.out]
          rintro e w4 ⟨es4, rfl, hp4, hg4⟩
          have HP4 := Lib.hid hp4
          have HG4 := Lib.hid hg4
          clear hp4 hg4
          go_wp2_with fail
          refine (hC.out (q3 - i) i u es4 w4 hik HU.out HP4.out).mono ?_
          rw [HSV.out]
          rintro e w5 ⟨es5, rfl, hp5, hg5⟩
          have HP5 := Lib.hid hp5
          have HG5 := Lib.hid (HG4.out.trans hg5)
          have HO5 := Lib.hid (own_kept HO.out HG5.out (fun g2 e r => by injection r with r; have h1 := (own_lt HO.out g2 e).1; have := HS3.out; omega))
          have HBW5 := Lib.hid (bel_grown HB.out HG5.out (fun b2 e => by injection e with e; omega))
          have hs5 := HG5.out.size
          clear hp5 hg5 d0
          by_cases heq : b1 = s
          · have hqe : ((b1 : Int) == (s : Int)) = true := by simp [heq]
            have hsn : x + 1 + mostL (L.drop i1) u2 = V := by have h1 := HSUM.out; have h2 := HSV.out; have h3 := HB1.out; rw [HBV.out]; omega
            have HSN := Lib.hid hsn
            clear heq hsn
            go_wp2_with (at_builtin; go_must (refine app_I _ rfl _ _ rfl w3.heap.size _ _ _ xs rfl (HO5.out.alloc _) _ _ _ [(m : Int)] rfl (rd_newI _ _ _) rfl (by omega) (by simp; omega) ?_); intro D6 c6 w6 ho6 hg6 hat6; have HO6 := Lib.hid ho6; have HG6 := Lib.hid hg6; clear ho6 hg6 hat6)
            have hbA := bel_alloc (Below.refl w5.heap.size w5) (.cells #[.int .i64 (m : Int)] 3)
            have hrow : ∀ b2, ob D = some b2 → b2 ≠ gp ∧ b2 ≠ mb ∧ w3.heap.size ≤ b2 := fun b2 e => by have h1 := (own_lt HO5.out b2 e).1; have := HS3.out; have := HGP.out; omega
            have h6 := HP5.out.below hbA
            have hp6 : Pk gp mb (some ⟨g, off, none⟩) q3 c3 L es5 w6 := ⟨h6.blk.grown HG6.out (fun e => (hrow gp e.symm).1 rfl), h6.rd.grown HG6.out (fun b2 e r => by have h1 := HGE.out b2 e; have h2 := (hrow b2 (by first | exact r | exact r.symm)).2.2; have := HS3.out; omega), h6.map.grown HG6.out (fun e => (hrow mb e.symm).2.1 rfl), h6.ent, h6.dm, h6.dA⟩
            have HP6 := Lib.hid hp6
            have HBW6 := Lib.hid (bel_grown (bel_alloc HBW5.out (.cells #[.int .i64 (m : Int)] 3)) HG6.out (fun b2 e => by have h2 := (hrow b2 e).2.2; have := HS3.out; omega))
            have HU2 := Lib.hid hu236
            clear hbA hrow h6 hp6
            go_wp2_with fail
            exact ⟨⟨i1, u2, x + 1, c6, D6, _, es5, hI1, by go_num, rfl, rfl, HU2.out, by have := HIE.out; omega, HP6.out, HO6.out, HSN.out, HBW6.out⟩, by simp [intOf]; have := HIE.out; omega⟩
          · have hqe : ((b1 : Int) == (s : Int)) = false := by simp only [beq_eq_false_iff_ne]; omega
            have hsn : x + mostL (L.drop i1) u = V := by have h1 := HSUM.out; have h2 := HSV.out; have h3 := HB1.out; have h4 := HMS.out; omega
            have HSN := Lib.hid hsn
            have HIQ := Lib.hid hI1
            clear heq hsn
            go_wp2_with fail
            exact ⟨⟨i1, u, x, cD, D, xs, es5, HIQ.out, by go_num, rfl, rfl, HU.out, by have := HIE.out; omega, HP5.out, HO5.out, HSN.out, HBW5.out⟩, by simp [intOf]; have := HIE.out; omega⟩
        · have hze : ((z : Int) == 0) = false := by simp [hz0]
          have hsn : x + mostL (L.drop i1) u = V := by
            have h1 := HSUM.out
            rw [HDR.out, most_no (by rw [Int.toNat_natCast, hz]; exact hz0)] at h1
            exact h1
          have HSN := Lib.hid hsn
          have HIE := Lib.hid hi1e
          clear hz hz0 hsn hi1e
          go_wp2_with fail
          exact ⟨⟨i1, u, x, cD, D, xs, es, by have := HIE.out; omega, by go_num, rfl, rfl, HU.out, by have := HIE.out; omega, HPk.out, HO.out, HSN.out, HB.out⟩, by simp [intOf]; have := HIE.out; omega⟩
      · obtain rfl : i = q3 := by omega
        have hi1 : ¬ (i : Int) < (i : Int) := by omega
        have hxV : x = V := by rw [List.drop_eq_nil_of_le (by rw [HQ3.out]; omega)] at hsum; simpa [mostL] using hsum
        have HXV := Lib.hid hxV
        clear hsum hPk hxV
        go_wp2_with fail
        go_ret2
        exact ⟨_, _, _, rfl, (fun _ => HXV.out), HB.out⟩
end Go.Proofs.YtcgjnonlndaoeaaGreatDoor

/- The program's CountPacked: its answer. -/
namespace Go.Proofs.YtcgjnonlndaoeaaGreatDoor
open Go.RowKit
set_option linter.unusedVariables false
attribute [local go_sem ↓] Go.wp_at_zero Go.wp_at_succ

def cpkV (W : Int) (rows : List Int) (P : List (List C)) : Int := if smallV W rows P = true then ((mostL (allV W rows P) 0 : Nat) : Int) else -1
set_option maxRecDepth 100000 in
set_option maxHeartbeats 3200000 in
theorem CountPacked_i (W : Int) (A B : Option Addr) (n c q cb : Nat) (rows : List Int) (hs : List H) (P : List (List C)) (w : World) (hr : Rd w A (vI rows)) (hl : rows.length = n) (hp : RdP w B q hs P) (hq : q ≤ 1048576) (hm : totC P ≤ 1048576) :
    Calls Tryz.prog 29 #[.agg #[.int .i64 W, .slice A n c], .slice B q cb] w (Ret w (.int .i64 (cpkV W rows P))) := by
  have HL := Lib.hid hl
  have HR := Lib.hid (hr.alloc (.cells #[.int .i64 W, .slice A n c] 29))
  have HP := Lib.hid (hp.alloc (.cells #[.int .i64 W, .slice A n c] 29))
  have HB0 := Lib.hid (Blk.new w 29 #[.int .i64 W, .slice A n c])
  have HM := Lib.hid hm
  have hbw0 : Below w.heap.size w (w.alloc (.cells #[.int .i64 W, .slice A n c] 29)) := bel_alloc (Below.refl _ _) _
  have HBW0 := Lib.hid hbw0
  clear hl hr hp hm hbw0
  obtain ⟨W0, hW0⟩ : ∃ W0, w.alloc (.cells #[.int .i64 W, .slice A n c] 29) = W0 := ⟨_, rfl⟩
  rw [hW0] at HR HP HB0 HBW0
  have HW0 := Lib.hid hW0
  clear hW0
  have b0 : W0.cell? ⟨w.heap.size, 0, none⟩ = some (.int .i64 W) := by simpa using HB0.out.cell 0
  have b1 : W0.cell? ⟨w.heap.size, 1, none⟩ = some (.slice A n c) := by simpa using HB0.out.cell 1
  have bl := HB0.out.lt
  go_enter Tryz.func29, Tryz.ntmps29
  go_wp2_with fail
  rw [HW0.out]
  refine (LargestPacking_i W A B n c q cb rows hs P W0 HR.out HL.out HP.out hq HM.out).mono ?_
  cases hsm : smallV W rows P with
  | false =>
    have HV : Hid (cpkV W rows P = -1) := by show _ = _; unfold cpkV; rw [hsm]; rfl
    rintro e w1 ⟨X, x, xc, rfl, hx, hb1⟩
    have HB1 := Lib.hid (bel_trans HBW0.out hb1)
    clear hb1 hx hsm
    go_wp2_with fail
    go_ret
    exact ⟨by rw [HV.out]; rfl, HB1.out⟩
  | true =>
    have HV : Hid (cpkV W rows P = ((mostL (allV W rows P) 0 : Nat) : Int)) := by show _ = _; unfold cpkV; rw [hsm]; rfl
    rintro e w1 ⟨X, x, xc, rfl, hx, hb1⟩
    have hxv := hx rfl
    have HXV := Lib.hid hxv
    have HB1 := Lib.hid (bel_trans HBW0.out hb1)
    clear hb1 hx hsm hxv
    go_wp2_with fail
    go_ret
    exact ⟨by rw [HV.out, ← HXV.out]; rfl, HB1.out⟩
end Go.Proofs.YtcgjnonlndaoeaaGreatDoor

/- Coverings with fewest masks: the program. -/
namespace Go.Proofs.YtcgjnonlndaoeaaGreatDoor
open Go.RowKit
set_option linter.unusedVariables false
attribute [local go_sem ↓] Go.wp_at_zero Go.wp_at_succ

set_option maxRecDepth 100000 in
set_option maxHeartbeats 3200000 in
theorem FewestCovering_i (W : Int) (A B : Option Addr) (n c q cb : Nat) (rows : List Int) (hs : List H) (P : List (List C)) (w : World) (hr : Rd w A (vI rows)) (hl : rows.length = n) (hp : RdP w B q hs P) (hq : q ≤ 1048576) (hm : totC P ≤ 1048576) (hT : Tb w) :
    Calls Tryz.prog 15 #[.agg #[.int .i64 W, .slice A n c], .slice B q cb] w (RetS2 w 3 1 (vI (fewL W rows P)) (.bool (fewcV W rows P).isSome)) := by
  have HL := Lib.hid hl
  have HR := Lib.hid (hr.alloc (.cells #[.int .i64 W, .slice A n c] 29))
  have HP := Lib.hid (hp.alloc (.cells #[.int .i64 W, .slice A n c] 29))
  have HB0 := Lib.hid (Blk.new w 29 #[.int .i64 W, .slice A n c])
  have HM := Lib.hid hm
  have hbw0 : Below w.heap.size w (w.alloc (.cells #[.int .i64 W, .slice A n c] 29)) := bel_alloc (Below.refl _ _) _
  have HT := Lib.hid hT
  clear hl hr hp hm hT
  have HB1 : Hid (∀ {w1 : World}, Below (w.alloc (.cells #[.int .i64 W, .slice A n c] 29)).heap.size (w.alloc (.cells #[.int .i64 W, .slice A n c] 29)) w1 → w1.cell? ⟨w.heap.size, 0, none⟩ = some (.int .i64 W) ∧ w1.cell? ⟨w.heap.size, 1, none⟩ = some (.slice A n c) ∧ w.heap.size < w1.heap.size) := fun h => by
    have hB := HB0.out.below h
    exact ⟨by simpa using hB.cell 0, by simpa using hB.cell 1, hB.lt⟩
  cases hsm : smallV W rows P with
  | false =>
    have hV := fewL_of (W := W) (rows := rows) (P := P) (o := none) (by unfold fewcV; rw [hsm]; rfl)
    have HV := Lib.hid hV
    have HS := Lib.hid hsm
    clear hsm hV
    go_enter Tryz.func15, Tryz.ntmps15
    go_wp2_with fail
    refine (isSmall_i W A B n c q cb rows hs P _ HR.out HL.out HP.out hq HM.out).mono ?_
    rw [HS.out]
    rintro e w1 ⟨rfl, hb1⟩
    have HB2 := Lib.hid (bel_trans hbw0 hb1)
    clear hb1
    go_wp2_with fail
    go_ret2
    exact ⟨_, _, _, by rw [HV.out.2]; rfl, by rw [HV.out.1]; simp only [Option.getD_none]; rw [ord_nil]; exact own_nil _ _ _ _, HB2.out⟩
  | true =>
    obtain ⟨hvr, hpc, a, ha, ha12⟩ := small_parts hsm
    have hfc : fewcV W rows P = fewTo (allV W rows P) (maskV W rows) (a + 1) := by unfold fewcV; rw [if_pos hsm, ha, Int.toNat_natCast]
    have hLm := allV_msk W rows P
    have hLl := allV_len W rows P
    have hp5 := (pcs_at hpc).1
    have hM36 := mask36C W rows
    obtain ⟨L, hL⟩ : ∃ L, allV W rows P = L := ⟨_, rfl⟩
    obtain ⟨M, hMM⟩ : ∃ M, maskV W rows = M := ⟨_, rfl⟩
    rw [hL] at hLm hLl hfc
    rw [hMM] at hM36 hfc
    have hL5 : L.length ≤ 1440 := by omega
    have HV := Lib.hid (fun o (h : fewTo L M (a + 1) = o) => fewL_of (hfc.trans h))
    have HS := Lib.hid hsm
    have HVR := Lib.hid hvr
    have HPC := Lib.hid hpc
    have HLE := Lib.hid hL
    have HLM := Lib.hid hLm
    have HL5 := Lib.hid hL5
    have HA := Lib.hid ha
    have HMM := Lib.hid hMM
    have HM36 := Lib.hid hM36
    clear hsm hvr hpc hL hMM hLm hLl hp5 hL5 ha hfc hM36
    go_enter Tryz.func15, Tryz.ntmps15
    go_wp2_with fail
    refine (isSmall_i W A B n c q cb rows hs P _ HR.out HL.out HP.out hq HM.out).mono ?_
    rw [HS.out]
    rintro e w1 ⟨rfl, hb1⟩
    obtain ⟨b0, b1, bl⟩ := HB1.out hb1
    go_wp2_with fail
    refine (all_i W A B n c q cb rows hs P _ (HR.out.below hb1) HL.out HVR.out (HP.out.below hb1) HPC.out).mono ?_
    rw [HLE.out]
    rintro e w2 ⟨gE, q3, c3, rfl, hO, hb2⟩
    have hq3 : L.length = q3 := by have := own_len hO; rw [vI_length] at this; omega
    have HQ3 := Lib.hid hq3
    have HRE2 := Lib.hid (Rd.of_own hO)
    have hq4 : q3 ≤ 1440 := by have := HL5.out; omega
    have HB12 := Lib.hid (bel_trans hb1 hb2)
    clear hO hq3 b0 b1 bl hb1 hb2
    go_wp2_with fail
    refine (newSearch_i gE q3 c3 L w2 HRE2.out HQ3.out (by omega) HLM.out).mono ?_
    rintro e w3 ⟨gs, hsr, rfl, hSr, hgs, hb3⟩
    have HSR := Lib.hid hSr
    have HB13 := Lib.hid (bel_trans HB12.out hb3)
    clear hSr hb3 hgs
    obtain ⟨b0, b1, bl⟩ := HB1.out HB13.out
    go_wp2_with fail
    go_loopw [7] (fun e7 wr2 => ∃ k : Nat, k ≤ a + 1 ∧ e7 = .int .i64 k ∧ fewTo L M k = none ∧ Below w3.heap.size w3 wr2) (fun e7 _ => a + 1 - (intOf e7).toNat)
    case atStart => exact ⟨0, Nat.zero_le _, rfl, rfl, Below.refl _ _⟩
    case round =>
      clear b0 b1 bl
      obtain ⟨k, hk, rfl, hno, hb4⟩ := hrel
      have HNO := Lib.hid hno
      have HB4 := Lib.hid (bel_trans HB13.out hb4)
      have HBS := Lib.hid hb4
      clear hno hb4
      obtain ⟨b0, b1, bl⟩ := HB1.out HB4.out
      go_wp2_with fail
      refine (AreaOf_i W A n c rows _ (HR.out.below HB4.out) HL.out).mono ?_
      rw [HA.out]
      rintro e w5 ⟨rfl, hb5⟩
      have HB45 := Lib.hid (bel_trans HB4.out hb5)
      have HBT := Lib.hid (bel_trans HBS.out hb5)
      clear hb5 b0 b1 bl
      obtain ⟨b0, b1, bl⟩ := HB1.out HB45.out
      by_cases hka : k ≤ a
      · have hkI : (k : Int) ≤ (a : Int) := by omega
        go_wp2_with fail
        refine (mask_i W A n c rows _ (HR.out.below HB45.out) HL.out HVR.out).mono ?_
        rw [HMM.out]
        rintro e w6 ⟨rfl, hb6⟩
        have HB46 := Lib.hid (bel_trans HB45.out hb6)
        have HBU := Lib.hid (bel_trans HBT.out hb6)
        clear hb6 b0 b1 bl
        go_wp2_with fail
        obtain ⟨o, ho⟩ : ∃ o, covP L k M = o := ⟨_, rfl⟩
        have hC := cover_i gs (gs + 1) hsr L .nilFunc .nilFunc (by have := HL5.out; omega) HLM.out k M [] none 0 0 w6 (HSR.out.below HBU.out) (HT.out.below (bel_trans hbw0 HB46.out)) (.inl rfl) rfl (by omega) HM36.out
        rw [ho] at hC
        have HC := Lib.hid hC
        have HO := Lib.hid ho
        clear hC ho
        cases o with
        | none =>
          have HN2 := Lib.hid (fewTo_next HNO.out HO.out)
          refine HC.out.mono ?_
          rintro e w8 ⟨g8, k8, c8, rfl, hO8, hb8⟩
          clear hO8
          have HBX := Lib.hid (bel_trans HBU.out hb8)
          clear hb8
          go_wp2_with fail
          exact ⟨⟨k + 1, by omega, by go_num, HN2.out, HBX.out⟩, by simp [intOf]; omega⟩
        | some p =>
          have hE := HV.out _ (fewTo_some HNO.out HO.out (a + 1) (by omega))
          have HE := Lib.hid hE
          refine HC.out.mono ?_
          rintro e w8 ⟨A8, n8, c8, rfl, hp8, hb8⟩
          obtain ⟨hr8, hl8⟩ := hp8 p rfl
          rw [List.nil_append] at hr8 hl8
          have hpl := (covP_spec (show M < 2 ^ 62 by have := HM36.out; omega) HO.out).1
          have hn8 : n8 ≤ 1000 := by omega
          have HR8 := Lib.hid hr8
          have HL8 := Lib.hid hl8
          have HBX := Lib.hid (bel_trans hbw0 (bel_trans HB46.out hb8))
          clear hb8 hp8 hE hr8 hl8 hpl
          go_wp2_with fail
          refine (ordered_i A8 n8 c8 p w8 HR8.out HL8.out (by omega)).mono ?_
          rintro e w9 ⟨A9, n9, c9, rfl, hO9, hb9⟩
          have HO9 := Lib.hid hO9
          have HB9 := Lib.hid (bel_trans HBX.out hb9)
          clear hO9 hb9
          go_wp2_with fail
          go_ret2
          exact ⟨_, _, _, by rw [HE.out.2]; rfl, by rw [HE.out.1]; exact own_base HO9.out HBX.out.size, HB9.out⟩
      · have hkI : ¬ (k : Int) ≤ (a : Int) := by omega
        obtain rfl : k = a + 1 := by omega
        have HE := Lib.hid (HV.out _ HNO.out)
        have HBX := Lib.hid (bel_trans hbw0 HB45.out)
        go_wp2_with fail
        go_ret2
        exact ⟨_, _, _, by rw [HE.out.2]; rfl, by rw [HE.out.1]; simp only [Option.getD_none]; rw [ord_nil]; exact own_nil _ _ _ _, HBX.out⟩
end Go.Proofs.YtcgjnonlndaoeaaGreatDoor

/- Coverings with fewest masks: how many. -/
namespace Go.Proofs.YtcgjnonlndaoeaaGreatDoor
open Go.RowKit
set_option linter.unusedVariables false
attribute [local go_sem ↓] Go.wp_at_zero Go.wp_at_succ

/-- How many masks the fewest covering has. -/
def cntcV (W : Int) (rows : List Int) (P : List (List C)) : Int := if (fewcV W rows P).isSome then ((fewL W rows P).length : Nat) else -1
theorem CountCovering_s (W : Int) (A B : Option Addr) (n c q cb : Nat) (rows : List Int) (hs : List H) (P : List (List C)) (w : World) (hr : Rd w A (vI rows)) (hl : rows.length = n) (hp : RdP w B q hs P) (hq : q ≤ 1048576) (hm : totC P ≤ 1048576) :
    Calls Tryz.prog 8 #[.agg #[.int .i64 W, .slice A n c], .slice B q cb] w (Ret w (.int .i64 (cntcV W rows P))) := by
  have HL := Lib.hid hl
  have HR := Lib.hid (hr.alloc (.cells #[.int .i64 W, .slice A n c] 29))
  have HP := Lib.hid (hp.alloc (.cells #[.int .i64 W, .slice A n c] 29))
  have HB0 := Lib.hid (Blk.new w 29 #[.int .i64 W, .slice A n c])
  have HM := Lib.hid hm
  have hbw0 : Below w.heap.size w (w.alloc (.cells #[.int .i64 W, .slice A n c] 29)) := bel_alloc (Below.refl _ _) _
  skip
  clear hl hr hp hm
  have HB1 : Hid (∀ {w1 : World}, Below (w.alloc (.cells #[.int .i64 W, .slice A n c] 29)).heap.size (w.alloc (.cells #[.int .i64 W, .slice A n c] 29)) w1 → w1.cell? ⟨w.heap.size, 0, none⟩ = some (.int .i64 W) ∧ w1.cell? ⟨w.heap.size, 1, none⟩ = some (.slice A n c) ∧ w.heap.size < w1.heap.size) := fun h => by
    have hB := HB0.out.below h
    exact ⟨by simpa using hB.cell 0, by simpa using hB.cell 1, hB.lt⟩
  obtain ⟨F, hF⟩ : ∃ F, fewL W rows P = F := ⟨_, rfl⟩
  obtain ⟨b, hb⟩ : ∃ b, (fewcV W rows P).isSome = b := ⟨_, rfl⟩
  have hV : cntcV W rows P = if b then ((F.length : Nat) : Int) else -1 := by unfold cntcV; rw [hF, hb]
  have HV := Lib.hid hV
  have HF := Lib.hid hF
  have HBB := Lib.hid hb
  clear hV hF hb
  go_enter Tryz.func8, Tryz.ntmps8
  go_wp2_with fail
  have hC := FewestCovering_s W A B n c q cb rows hs P _ HR.out HL.out HP.out hq HM.out
  rw [HF.out, HBB.out] at hC
  refine Calls.mono hC ?_
  rintro e w1 ⟨A1, n1, c1, rfl, hO1, hb1⟩
  have hn1 : F.length = n1 := by have := own_len hO1; rw [vI_length] at this; omega
  have HN1 := Lib.hid hn1
  have HB := Lib.hid (bel_trans hbw0 hb1)
  clear hC hO1 hn1 hb1
  cases b with
  | false =>
    go_wp2_with fail
    go_ret
    exact ⟨by rw [HV.out]; rfl, HB.out⟩
  | true =>
    have hv2 : cntcV W rows P = ((n1 : Nat) : Int) := by have h := HV.out; rw [HN1.out] at h; simpa using h
    have HV2 := Lib.hid hv2
    clear hv2
    go_wp2_with fail
    go_ret
    exact ⟨by rw [HV2.out]; rfl, HB.out⟩
theorem CountCovering_i (W : Int) (A B : Option Addr) (n c q cb : Nat) (rows : List Int) (hs : List H) (P : List (List C)) (w : World) (hr : Rd w A (vI rows)) (hl : rows.length = n) (hp : RdP w B q hs P) (hq : q ≤ 1048576) (hm : totC P ≤ 1048576) (hT : Tb w) :
    Calls Tryz.prog 11 #[.agg #[.int .i64 W, .slice A n c], .slice B q cb] w (Ret w (.int .i64 (cntcV W rows P))) := by
  have HL := Lib.hid hl
  have HR := Lib.hid (hr.alloc (.cells #[.int .i64 W, .slice A n c] 29))
  have HP := Lib.hid (hp.alloc (.cells #[.int .i64 W, .slice A n c] 29))
  have HB0 := Lib.hid (Blk.new w 29 #[.int .i64 W, .slice A n c])
  have HM := Lib.hid hm
  have hbw0 : Below w.heap.size w (w.alloc (.cells #[.int .i64 W, .slice A n c] 29)) := bel_alloc (Below.refl _ _) _
  have HT := Lib.hid (hT.below (bel_alloc (Below.refl _ _) (.cells #[.int .i64 W, .slice A n c] 29)))
  clear hl hr hp hm hT
  have HB1 : Hid (∀ {w1 : World}, Below (w.alloc (.cells #[.int .i64 W, .slice A n c] 29)).heap.size (w.alloc (.cells #[.int .i64 W, .slice A n c] 29)) w1 → w1.cell? ⟨w.heap.size, 0, none⟩ = some (.int .i64 W) ∧ w1.cell? ⟨w.heap.size, 1, none⟩ = some (.slice A n c) ∧ w.heap.size < w1.heap.size) := fun h => by
    have hB := HB0.out.below h
    exact ⟨by simpa using hB.cell 0, by simpa using hB.cell 1, hB.lt⟩
  obtain ⟨F, hF⟩ : ∃ F, fewL W rows P = F := ⟨_, rfl⟩
  obtain ⟨b, hb⟩ : ∃ b, (fewcV W rows P).isSome = b := ⟨_, rfl⟩
  have hV : cntcV W rows P = if b then ((F.length : Nat) : Int) else -1 := by unfold cntcV; rw [hF, hb]
  have HV := Lib.hid hV
  have HF := Lib.hid hF
  have HBB := Lib.hid hb
  clear hV hF hb
  go_enter Tryz.func11, Tryz.ntmps11
  go_wp2_with fail
  have hC := FewestCovering_i W A B n c q cb rows hs P _ HR.out HL.out HP.out hq HM.out HT.out
  rw [HF.out, HBB.out] at hC
  refine Calls.mono hC ?_
  rintro e w1 ⟨A1, n1, c1, rfl, hO1, hb1⟩
  have hn1 : F.length = n1 := by have := own_len hO1; rw [vI_length] at this; omega
  have HN1 := Lib.hid hn1
  have HB := Lib.hid (bel_trans hbw0 hb1)
  clear hC hO1 hn1 hb1
  cases b with
  | false =>
    go_wp2_with fail
    go_ret
    exact ⟨by rw [HV.out]; rfl, HB.out⟩
  | true =>
    have hv2 : cntcV W rows P = ((n1 : Nat) : Int) := by have h := HV.out; rw [HN1.out] at h; simpa using h
    have HV2 := Lib.hid hv2
    clear hv2
    go_wp2_with fail
    go_ret
    exact ⟨by rw [HV2.out]; rfl, HB.out⟩

end Go.Proofs.YtcgjnonlndaoeaaGreatDoor

/- Whether a list has a number: both sides. -/
namespace Go.Proofs.YtcgjnonlndaoeaaGreatDoor
open Go.RowKit
set_option linter.unusedVariables false
attribute [local go_sem ↓] Go.wp_at_zero Go.wp_at_succ
theorem hasInt_i (A : Option Addr) (n c : Nat) (xs : List Int) (x : Int) (w : World) (hr : Rd w A (vI xs)) (hl : xs.length = n) (hn : n ≤ 1099511627776) :
    Calls Tryz.prog 61 #[.slice A n c, .int .i64 x] w (Ret w (.bool (xs.any (· == x)))) := by
  have HL := Lib.hid hl
  clear hl
  go_enter Tryz.func61, Tryz.ntmps61
  go_wp2
  go_loopw [9] (fun i wr => ∃ k : Nat, k ≤ n ∧ i = .int .i64 k ∧ xs.any (· == x) = (xs.drop k).any (· == x) ∧ Below w.heap.size w wr) (fun i _ => n - (intOf i).toNat)
  case atStart => exact ⟨0, Nat.zero_le _, rfl, rfl, Below.refl _ _⟩
  case round =>
    obtain ⟨k, hk, rfl, hany, hb⟩ := hrel
    by_cases hlt : k < n
    · have hkl : k < xs.length := by rw [HL.out]; exact hlt
      have hk0 : (0 : Int) ≤ (k : Int) := by omega
      have hk1 : (k : Int) < (n : Int) := by omega
      obtain ⟨g, off, rfl, hg, d1⟩ := RdI.at_ (hr.below hb) hkl
      rw [List.drop_eq_getElem_cons hkl, List.any_cons] at hany
      obtain ⟨y, hy⟩ : ∃ y, xs[k] = y := ⟨_, rfl⟩
      rw [hy] at hany d1
      cases hyx : (y == x) with
      | true =>
        rw [hyx, Bool.true_or] at hany
        have HA := Lib.hid hany
        clear hany hy
        go_wp2
        go_ret
        exact ⟨by rw [HA.out]; rfl, hb⟩
      | false =>
        rw [hyx, Bool.false_or] at hany
        have HA := Lib.hid hany
        clear hany hy
        go_wp2
        exact ⟨⟨k + 1, by omega, by go_num, HA.out, hb⟩, by simp [intOf]; omega⟩
    · have hkn : k = n := by omega
      subst hkn
      rw [List.drop_of_length_le (by rw [HL.out]; omega)] at hany
      have HA := Lib.hid hany
      have hk1 : ¬ (k : Int) < (k : Int) := by omega
      clear hany
      go_wp2
      go_ret
      exact ⟨by rw [HA.out]; rfl, hb⟩
theorem l7Has_s (A : Option Addr) (n c : Nat) (xs : List Int) (x : Int) (w : World) (hr : Rd w A (vI xs)) (hl : xs.length = n) (hn : n ≤ 1099511627776) :
    Calls Tryz.prog 66 #[.slice A n c, .int .i64 x] w (Ret w (.bool (xs.any (· == x)))) := by
  have HL := Lib.hid hl
  clear hl
  go_enter Tryz.func66, Tryz.ntmps66
  go_wp2
  go_loopw [5] (fun i wr => ∃ k : Nat, k ≤ n ∧ i = .int .i64 k ∧ xs.any (· == x) = (xs.drop k).any (· == x) ∧ Below w.heap.size w wr) (fun i _ => n - (intOf i).toNat)
  case atStart => exact ⟨0, Nat.zero_le _, rfl, rfl, Below.refl _ _⟩
  case round =>
    obtain ⟨k, hk, rfl, hany, hb⟩ := hrel
    by_cases hlt : k < n
    · have hkl : k < xs.length := by rw [HL.out]; exact hlt
      have hk0 : (0 : Int) ≤ (k : Int) := by omega
      have hk1 : (k : Int) < (n : Int) := by omega
      obtain ⟨g, off, rfl, hg, d1⟩ := RdI.at_ (hr.below hb) hkl
      rw [List.drop_eq_getElem_cons hkl, List.any_cons] at hany
      obtain ⟨y, hy⟩ : ∃ y, xs[k] = y := ⟨_, rfl⟩
      rw [hy] at hany d1
      cases hyx : (y == x) with
      | true =>
        rw [hyx, Bool.true_or] at hany
        have HA := Lib.hid hany
        clear hany hy
        go_wp2
        go_ret
        exact ⟨by rw [HA.out]; rfl, hb⟩
      | false =>
        rw [hyx, Bool.false_or] at hany
        have HA := Lib.hid hany
        clear hany hy
        go_wp2
        exact ⟨⟨k + 1, by omega, by go_num, HA.out, hb⟩, by simp [intOf]; omega⟩
    · have hkn : k = n := by omega
      subst hkn
      rw [List.drop_of_length_le (by rw [HL.out]; omega)] at hany
      have HA := Lib.hid hany
      have hk1 : ¬ (k : Int) < (k : Int) := by omega
      clear hany
      go_wp2
      go_ret
      exact ⟨by rw [HA.out]; rfl, hb⟩
end Go.Proofs.YtcgjnonlndaoeaaGreatDoor

/- Are masks a covering of a region? Both sides. -/
namespace Go.Proofs.YtcgjnonlndaoeaaGreatDoor
open Go.RowKit
set_option linter.unusedVariables false
attribute [local go_sem ↓] Go.wp_at_zero Go.wp_at_succ

set_option maxRecDepth 100000 in
set_option maxHeartbeats 6400000 in
theorem IsCovering_i (W : Int) (A B D : Option Addr) (n c q cb k cd : Nat) (rows l : List Int) (hs : List H) (P : List (List C)) (w : World) (hr : Rd w A (vI rows)) (hl : rows.length = n) (hp : RdP w B q hs P) (hq : q ≤ 1048576) (hm : totC P ≤ 1048576) (hrd : Rd w D (vI l)) (hll : l.length = k) (hk : k ≤ 1048576) :
    Calls Tryz.prog 27 #[.agg #[.int .i64 W, .slice A n c], .slice B q cb, .slice D k cd] w (Ret w (.bool (covV W rows P l))) := by
  have HL := Lib.hid hl
  have HLL := Lib.hid hll
  have HR := Lib.hid (hr.alloc (.cells #[.int .i64 W, .slice A n c] 29))
  have HP := Lib.hid (hp.alloc (.cells #[.int .i64 W, .slice A n c] 29))
  have HRD := Lib.hid (hrd.alloc (.cells #[.int .i64 W, .slice A n c] 29))
  have HB0 := Lib.hid (Blk.new w 29 #[.int .i64 W, .slice A n c])
  have HM := Lib.hid hm
  have HPF := Lib.hid hp.flen
  have hbw0 : Below w.heap.size w (w.alloc (.cells #[.int .i64 W, .slice A n c] 29)) := bel_alloc (Below.refl _ _) _
  clear hl hll hr hp hrd hm
  cases hpv : (isReg W rows && pcs P) with
  | false =>
    have HV : Hid (covV W rows P l = false) := by show covV W rows P l = false; unfold covV; rw [hpv]; rfl
    have HPV := Lib.hid hpv
    clear hpv
    go_enter Tryz.func27, Tryz.ntmps27
    go_wp2_with fail
    refine (isProblem_i W A B n c q cb rows hs P _ HR.out HL.out HP.out hq HM.out).mono ?_
    rw [HPV.out]
    rintro e w1 ⟨rfl, hb1⟩
    go_wp2_with fail
    go_ret
    exact ⟨by rw [HV.out]; rfl, bel_trans hbw0 hb1⟩
  | true =>
    have HPV := Lib.hid hpv
    have hvr : isReg W rows = true := by simp only [Bool.and_eq_true] at hpv; exact hpv.1
    have hpc : pcs P = true := by simp only [Bool.and_eq_true] at hpv; exact hpv.2
    have HVR := Lib.hid hvr
    have HPC := Lib.hid hpc
    have hcov : covV W rows P l = optIs (covTo (allV W rows P) l k) (maskV W rows) := by unfold covV; rw [hpv, HLL.out, Bool.true_and]
    have hLm := allV_msk W rows P
    have hLl := allV_len W rows P
    have hp5 := (pcs_at hpc).1
    obtain ⟨L, hL⟩ : ∃ L, allV W rows P = L := ⟨_, rfl⟩
    rw [hL] at hcov hLm hLl
    have HLE := Lib.hid hL
    have HLM := Lib.hid hLm
    have hL5 : L.length ≤ 1440 := by omega
    have HL5 := Lib.hid hL5
    have HNO : Hid (∀ j u, j < k → covTo L l j = some u → covOk L l j u = false → covV W rows P l = false) := fun j u hj h1 h2 => by rw [hcov, show covTo L l k = none from optTo_no h1 h2 hj]; rfl
    have HYES : Hid (∀ u, covTo L l k = some u → covV W rows P l = (u == maskV W rows)) := fun u h => by rw [hcov, h]; rfl
    clear hpv hvr hpc hcov hLm hLl hp5 hL hL5
    go_enter Tryz.func27, Tryz.ntmps27
    go_wp2_with fail
    refine (isProblem_i W A B n c q cb rows hs P _ HR.out HL.out HP.out hq HM.out).mono ?_
    rw [HPV.out]
    rintro e w3 ⟨rfl, hb3⟩
    have HB3 := Lib.hid (HB0.out.below hb3)
    have x0 : w3.cell? ⟨w.heap.size, 0, none⟩ = some (.int .i64 W) := by simpa using HB3.out.cell 0
    have x1 : w3.cell? ⟨w.heap.size, 1, none⟩ = some (.slice A n c) := by simpa using HB3.out.cell 1
    have xl := HB3.out.lt
    go_wp2_with fail
    refine (all_i W A B n c q cb rows hs P _ (HR.out.below hb3) HL.out HVR.out (HP.out.below hb3) HPC.out).mono ?_
    rw [HLE.out]
    rintro e w1 ⟨E, q2, c2, rfl, hOE, hbE⟩
    have hq2 : L.length = q2 := by have := own_len hOE; rw [vI_length] at this; omega
    have HQ2 := Lib.hid hq2
    have HRE := Lib.hid (Rd.of_own hOE)
    have hb1 := bel_trans hb3 hbE
    have hbw1 := bel_trans hbw0 hb1
    have HB1 := Lib.hid (HB0.out.below hb1)
    have HR1 := Lib.hid (HR.out.below hb1)
    have HRD1 := Lib.hid (HRD.out.below hb1)
    have hq3 : q2 ≤ 1440 := by have := HL5.out; omega
    clear hb1 hOE hq2 hbE hb3 x0 x1 xl
    go_wp2_with fail
    go_loopw [20, 8] (fun e23 e8 wr => ∃ (j u : Nat), j ≤ k ∧ e23 = .int .i64 j ∧ e8 = .int .i64 (u : Int) ∧ covTo L l j = some u ∧ u < 2 ^ 36 ∧ Below w1.heap.size w1 wr) (fun e23 _ _ => k - (intOf e23).toNat)
    case atStart => exact ⟨0, 0, Nat.zero_le _, rfl, rfl, rfl, by decide, Below.refl _ _⟩
    case round =>
      obtain ⟨j, u, hj, rfl, rfl, hso, hu, hb⟩ := hrel
      have hB := HB1.out.below hb
      have b0 : wr.cell? ⟨w.heap.size, 0, none⟩ = some (.int .i64 W) := by simpa using hB.cell 0
      have b1 : wr.cell? ⟨w.heap.size, 1, none⟩ = some (.slice A n c) := by simpa using hB.cell 1
      have hgw := hB.lt
      clear hB
      by_cases hlt : j < k
      · have hjl : j < l.length := by rw [HLL.out]; exact hlt
        have hj0 : (0 : Int) ≤ (j : Int) := by omega
        have hj1 : (j : Int) < (k : Int) := by omega
        have HRW := Lib.hid (HRD1.out.below hb)
        obtain ⟨gD, oD, hDe, hgD, d1⟩ := RdI.at_ HRW.out hjl
        have hgl : l.getD j 0 = l[j] := by rw [List.getD_eq_getElem?_getD, List.getElem?_eq_getElem hjl]; rfl
        obtain ⟨mm, hmm⟩ : ∃ mm, l[j] = mm := ⟨_, rfl⟩
        rw [hmm] at d1 hgl
        have hok : covOk L l j u = (L.any (· == mm) && (j == 0 || decide (l.getD (j - 1) 0 < mm))) := by unfold covOk; rw [hgl]
        have hnx := optTo_succ hso
        have HNO2 := Lib.hid (fun h => HNO.out j u hlt hso h)
        have hnx2 : covOk L l j u = true → covTo L l (j + 1) = some (u ||| mm.toNat) := fun h => by
          have h2 : covTo L l (j + 1) = if covOk L l j u then some (u ||| (l.getD j 0).toNat) else none := hnx
          rw [h2, h, hgl]; rfl
        have HNX := Lib.hid hnx2
        have HOK := Lib.hid hok
        clear hgl hok hnx hnx2 hmm hso
        cases hh : L.any (· == mm) with
        | false =>
          have HN := Lib.hid (HNO2.out (by rw [HOK.out, hh]; rfl))
          have HH := Lib.hid hh
          subst hDe
          clear hh
          go_wp2_with fail
          refine (hasInt_i E q2 c2 L mm _ (HRE.out.below hb) HQ2.out (by omega)).mono ?_
          rw [HH.out]
          rintro e w2 ⟨rfl, hb2⟩
          go_wp2_with fail
          go_ret
          exact ⟨by rw [HN.out]; rfl, bel_trans hbw1 (bel_trans hb hb2)⟩
        | true =>
          obtain ⟨t, rfl, ht⟩ := has_msk HLM.out hh
          have HH := Lib.hid hh
          have hor : bits .or .i64 (u : Int) (t : Int) = ((u ||| t : Nat) : Int) := i64_or u t (by omega) (by omega)
          have HOR := Lib.hid hor
          have HUT : Hid (u ||| t < 2 ^ 36) := Nat.or_lt_two_pow hu ht
          by_cases hz : j = 0
          · have HN := Lib.hid (HNX.out (by rw [HOK.out, hh, hz]; rfl))
            have hg0 : ¬ (j : Int) > 0 := by omega
            have hgN : ¬ 0 < j := by omega
            subst hDe
            clear hh hor hz
            go_wp2_with fail
            refine (hasInt_i E q2 c2 L (t : Int) _ (HRE.out.below hb) HQ2.out (by omega)).mono ?_
            rw [HH.out]
            rintro e w2 ⟨rfl, hb2⟩
            have hor := HOR.out
            go_wp2_with fail
            exact ⟨⟨j + 1, u ||| t, by omega, by go_num, rfl, by rw [HN.out, Int.toNat_natCast], HUT.out, bel_trans hb hb2⟩, by simp [intOf]; omega⟩
          · obtain ⟨i, hi⟩ : ∃ i, j = i + 1 := ⟨j - 1, by omega⟩
            have hil : i < l.length := by omega
            obtain ⟨g', o', he, hg', d2⟩ := RdI.at_ HRW.out hil
            rw [hDe] at he
            simp only [Option.some.injEq, Addr.mk.injEq, and_true] at he
            obtain ⟨rfl, rfl⟩ := he
            have hgi : l.getD (j - 1) 0 = l[i] := by rw [hi, Nat.add_sub_cancel, List.getD_eq_getElem?_getD, List.getElem?_eq_getElem hil]; rfl
            obtain ⟨pv, hpv⟩ : ∃ pv, l[i] = pv := ⟨_, rfl⟩
            rw [hpv] at d2 hgi
            have hji : (j : Int) - 1 = (i : Int) := by omega
            have hi0 : (0 : Int) ≤ (i : Int) := by omega
            have hi1 : (i : Int) < (k : Int) := by omega
            have hg0 : (j : Int) > 0 := by omega
            have hgN : 0 < j := by omega
            have hokv : covOk L l j u = decide (pv < (t : Int)) := by rw [HOK.out, hh, hgi, show (j == 0) = false from by simpa using hz]; simp
            have HOKV := Lib.hid hokv
            subst hDe
            clear hh hor hz hi hgi hpv hokv
            by_cases hlt2 : pv < (t : Int)
            · have HN := Lib.hid (HNX.out (by rw [HOKV.out]; simpa using hlt2))
              have hge : ¬ pv ≥ (t : Int) := by omega
              clear hlt2
              go_wp2_with fail
              refine (hasInt_i E q2 c2 L (t : Int) _ (HRE.out.below hb) HQ2.out (by omega)).mono ?_
              rw [HH.out]
              rintro e w2 ⟨rfl, hb2⟩
              have hor := HOR.out
              have d2' := keep_below hb2 d2
              have hg2 : gD < w2.heap.size := Nat.lt_of_lt_of_le hgD hb2.size
              clear d1 d2
              go_wp2_with fail
              exact ⟨⟨j + 1, u ||| t, by omega, by go_num, rfl, by rw [HN.out, Int.toNat_natCast], HUT.out, bel_trans hb hb2⟩, by simp [intOf]; omega⟩
            · have HN := Lib.hid (HNO2.out (by rw [HOKV.out]; simpa using hlt2))
              have hge : pv ≥ (t : Int) := by omega
              clear hlt2
              go_wp2_with fail
              refine (hasInt_i E q2 c2 L (t : Int) _ (HRE.out.below hb) HQ2.out (by omega)).mono ?_
              rw [HH.out]
              rintro e w2 ⟨rfl, hb2⟩
              have d2' := keep_below hb2 d2
              have hg2 : gD < w2.heap.size := Nat.lt_of_lt_of_le hgD hb2.size
              clear d1 d2
              go_wp2_with fail
              go_ret
              exact ⟨by rw [HN.out]; rfl, bel_trans hbw1 (bel_trans hb hb2)⟩
      · obtain rfl : j = k := by omega
        have HN := Lib.hid (HYES.out u hso)
        have hj1 : ¬ (j : Int) < (j : Int) := by omega
        clear hso
        go_wp2_with fail
        refine (mask_i W A n c rows _ (HR1.out.below hb) HL.out HVR.out).mono ?_
        rintro e w2 ⟨rfl, hb2⟩
        go_wp2_with fail
        go_ret
        exact ⟨by rw [HN.out]; exact ret_bool (a := ((u : Int) == ((maskV W rows : Nat) : Int))) (by rw [Bool.eq_iff_iff, beq_iff_eq, beq_iff_eq]; omega), bel_trans hbw1 (bel_trans hb hb2)⟩
set_option maxRecDepth 100000 in
set_option maxHeartbeats 6400000 in
theorem IsCovering_s (W : Int) (A B D : Option Addr) (n c q cb k cd : Nat) (rows l : List Int) (hs : List H) (P : List (List C)) (w : World) (hr : Rd w A (vI rows)) (hl : rows.length = n) (hp : RdP w B q hs P) (hq : q ≤ 1048576) (hm : totC P ≤ 1048576) (hrd : Rd w D (vI l)) (hll : l.length = k) (hk : k ≤ 1048576) :
    Calls Tryz.prog 33 #[.agg #[.int .i64 W, .slice A n c], .slice B q cb, .slice D k cd] w (Ret w (.bool (covV W rows P l))) := by
  have HL := Lib.hid hl
  have HLL := Lib.hid hll
  have HR := Lib.hid (hr.alloc (.cells #[.int .i64 W, .slice A n c] 29))
  have HP := Lib.hid (hp.alloc (.cells #[.int .i64 W, .slice A n c] 29))
  have HRD := Lib.hid (hrd.alloc (.cells #[.int .i64 W, .slice A n c] 29))
  have HB0 := Lib.hid (Blk.new w 29 #[.int .i64 W, .slice A n c])
  have HM := Lib.hid hm
  have HPF := Lib.hid hp.flen
  have hbw0 : Below w.heap.size w (w.alloc (.cells #[.int .i64 W, .slice A n c] 29)) := bel_alloc (Below.refl _ _) _
  clear hl hll hr hp hrd hm
  cases hpv : (isReg W rows && pcs P) with
  | false =>
    have HV : Hid (covV W rows P l = false) := by show covV W rows P l = false; unfold covV; rw [hpv]; rfl
    cases hv : isReg W rows with
    | false =>
      have HVR := Lib.hid hv
      clear hpv hv
      go_enter Tryz.func33, Tryz.ntmps33
      go_wp2_with fail
      refine (IsRegion_s _ _ _ _ rows _ HR.out HL.out).mono ?_
      rw [HVR.out]
      rintro e w1 ⟨rfl, hb1⟩
      go_wp2_with fail
      go_ret
      exact ⟨by rw [HV.out]; rfl, bel_trans hbw0 hb1⟩
    | true =>
      rw [hv, Bool.true_and] at hpv
      have HVR := Lib.hid hv
      have HPV := Lib.hid hpv
      clear hpv hv
      go_enter Tryz.func33, Tryz.ntmps33
      go_wp2_with fail
      refine (IsRegion_s _ _ _ _ rows _ HR.out HL.out).mono ?_
      rw [HVR.out]
      rintro e w1 ⟨rfl, hb1⟩
      go_wp2_with fail
      refine (ArePieces_s B q cb hs P _ (HP.out.below hb1) hq HM.out).mono ?_
      rw [HPV.out]
      rintro e w2 ⟨rfl, hb2⟩
      go_wp2_with fail
      go_ret
      exact ⟨by rw [HV.out]; rfl, bel_trans hbw0 (bel_trans hb1 hb2)⟩
  | true =>
    have HPV := Lib.hid hpv
    have hvr : isReg W rows = true := by simp only [Bool.and_eq_true] at hpv; exact hpv.1
    have hpc : pcs P = true := by simp only [Bool.and_eq_true] at hpv; exact hpv.2
    have HVR := Lib.hid hvr
    have HPC := Lib.hid hpc
    have hcov : covV W rows P l = optIs (covTo (allV W rows P) l k) (maskV W rows) := by unfold covV; rw [hpv, HLL.out, Bool.true_and]
    have hLm := allV_msk W rows P
    have hLl := allV_len W rows P
    have hp5 := (pcs_atS hpc).1
    obtain ⟨L, hL⟩ : ∃ L, allV W rows P = L := ⟨_, rfl⟩
    rw [hL] at hcov hLm hLl
    have HLE := Lib.hid hL
    have HLM := Lib.hid hLm
    have hL5 : L.length ≤ 1440 := by omega
    have HL5 := Lib.hid hL5
    have HNO : Hid (∀ j u, j < k → covTo L l j = some u → covOk L l j u = false → covV W rows P l = false) := fun j u hj h1 h2 => by rw [hcov, show covTo L l k = none from optTo_no h1 h2 hj]; rfl
    have HYES : Hid (∀ u, covTo L l k = some u → covV W rows P l = (u == maskV W rows)) := fun u h => by rw [hcov, h]; rfl
    clear hpv hvr hpc hcov hLm hLl hp5 hL hL5
    go_enter Tryz.func33, Tryz.ntmps33
    go_wp2_with fail
    refine (IsRegion_s _ _ _ _ rows _ HR.out HL.out).mono ?_
    rw [HVR.out]
    rintro e w4 ⟨rfl, hb4⟩
    go_wp2_with fail
    refine (ArePieces_s B q cb hs P _ (HP.out.below hb4) hq HM.out).mono ?_
    rw [HPC.out]
    rintro e w3 ⟨rfl, hb5⟩
    have hb3 := bel_trans hb4 hb5
    have HB3 := Lib.hid (HB0.out.below hb3)
    have x0 : w3.cell? ⟨w.heap.size, 0, none⟩ = some (.int .i64 W) := by simpa using HB3.out.cell 0
    have x1 : w3.cell? ⟨w.heap.size, 1, none⟩ = some (.slice A n c) := by simpa using HB3.out.cell 1
    have xl := HB3.out.lt
    go_wp2_with fail
    refine (AllPlacements_s W A B n c q cb rows hs P _ (HR.out.below hb3) HL.out HVR.out (HP.out.below hb3) HPC.out).mono ?_
    rw [HLE.out]
    rintro e w1 ⟨gE, q2, c2, rfl, hOE, hbE⟩
    have hq2 : L.length = q2 := by have := own_len hOE; rw [vI_length] at this; omega
    have HQ2 := Lib.hid hq2
    have HRE := Lib.hid (Rd.of_own hOE)
    have hb1 := bel_trans hb3 hbE
    have hbw1 := bel_trans hbw0 hb1
    have HB1 := Lib.hid (HB0.out.below hb1)
    have HR1 := Lib.hid (HR.out.below hb1)
    have HRD1 := Lib.hid (HRD.out.below hb1)
    have hq3 : q2 ≤ 1440 := by have := HL5.out; omega
    clear hb1 hOE hq2 hbE hb3 x0 x1 xl
    go_wp2_with fail
    go_loopw [9, 8] (fun e23 e8 wr => ∃ (j u : Nat), j ≤ k ∧ e23 = .int .i64 j ∧ e8 = .int .i64 (u : Int) ∧ covTo L l j = some u ∧ u < 2 ^ 36 ∧ Below w1.heap.size w1 wr) (fun e23 _ _ => k - (intOf e23).toNat)
    case atStart => exact ⟨0, 0, Nat.zero_le _, rfl, rfl, rfl, by decide, Below.refl _ _⟩
    case round =>
      obtain ⟨j, u, hj, rfl, rfl, hso, hu, hb⟩ := hrel
      have hB := HB1.out.below hb
      have b0 : wr.cell? ⟨w.heap.size, 0, none⟩ = some (.int .i64 W) := by simpa using hB.cell 0
      have b1 : wr.cell? ⟨w.heap.size, 1, none⟩ = some (.slice A n c) := by simpa using hB.cell 1
      have hgw := hB.lt
      clear hB
      by_cases hlt : j < k
      · have hjl : j < l.length := by rw [HLL.out]; exact hlt
        have hj0 : (0 : Int) ≤ (j : Int) := by omega
        have hj1 : (j : Int) < (k : Int) := by omega
        have HRW := Lib.hid (HRD1.out.below hb)
        obtain ⟨gD, oD, hDe, hgD, d1⟩ := RdI.at_ HRW.out hjl
        have hgl : l.getD j 0 = l[j] := by rw [List.getD_eq_getElem?_getD, List.getElem?_eq_getElem hjl]; rfl
        obtain ⟨mm, hmm⟩ : ∃ mm, l[j] = mm := ⟨_, rfl⟩
        rw [hmm] at d1 hgl
        have hok : covOk L l j u = (L.any (· == mm) && (j == 0 || decide (l.getD (j - 1) 0 < mm))) := by unfold covOk; rw [hgl]
        have hnx := optTo_succ hso
        have HNO2 := Lib.hid (fun h => HNO.out j u hlt hso h)
        have hnx2 : covOk L l j u = true → covTo L l (j + 1) = some (u ||| mm.toNat) := fun h => by
          have h2 : covTo L l (j + 1) = if covOk L l j u then some (u ||| (l.getD j 0).toNat) else none := hnx
          rw [h2, h, hgl]; rfl
        have HNX := Lib.hid hnx2
        have HOK := Lib.hid hok
        clear hgl hok hnx hnx2 hmm hso
        have HCA : Hid (∀ w', Below wr.heap.size wr w' → Calls Tryz.prog 66 #[.slice (some ⟨gE, 0, none⟩) q2 c2, .int .i64 mm] w' (Ret w' (.bool (L.any (· == mm))))) := fun w' h => l7Has_s _ q2 c2 L mm w' ((HRE.out.below hb).below h) HQ2.out (by omega)
        cases hh : L.any (· == mm) with
        | false =>
          have HN := Lib.hid (HNO2.out (by rw [HOK.out, hh]; rfl))
          rw [hh] at HCA
          subst hDe
          clear hh
          go_wp2_with fail
          (refine wp_region_below (by kernel_rfl) (by kernel_rfl) ?_; (repeat (first | go_big_quiet_skip | (refine quietV (v := ?_) (by rfl) rfl (fun w' hbw => ?_) ?_; rotate_left; ((try dsimp only at hbw); have hbc := (bcell hbw).1; have hbf := (bcell hbw).2; go_simp; first | done | with_reducible rfl | (with_reducible exact callsB (v := .bool false) (HCA.out _ hbw) hbw)); simp only [List.setIfInBounds_toArray, List.set_cons_zero, List.set_cons_succ]))); refine wpQuiet_nil ?_; intro wq hbq)
          go_wp2_with fail
          go_ret
          exact ⟨by rw [HN.out]; rfl, bel_trans hbw1 (bel_trans hb hbq)⟩
        | true =>
          rw [hh] at HCA
          obtain ⟨t, rfl, ht⟩ := has_msk HLM.out hh
          have hor : bits .or .i64 (u : Int) (t : Int) = ((u ||| t : Nat) : Int) := i64_or u t (by omega) (by omega)
          have HOR := Lib.hid hor
          have HUT : Hid (u ||| t < 2 ^ 36) := Nat.or_lt_two_pow hu ht
          by_cases hz : j = 0
          · have HN := Lib.hid (HNX.out (by rw [HOK.out, hh, hz]; rfl))
            have hg0 : ¬ (j : Int) > 0 := by omega
            have hgN : ¬ 0 < j := by omega
            subst hDe
            clear hh hor hz
            go_wp2_with fail
            (refine wp_region_below (by kernel_rfl) (by kernel_rfl) ?_; (repeat (first | go_big_quiet_skip | (refine quietV (v := ?_) (by rfl) rfl (fun w' hbw => ?_) ?_; rotate_left; ((try dsimp only at hbw); have hbc := (bcell hbw).1; have hbf := (bcell hbw).2; go_simp; first | done | with_reducible rfl | (with_reducible exact callsB (v := .bool true) (HCA.out _ hbw) hbw)); simp only [List.setIfInBounds_toArray, List.set_cons_zero, List.set_cons_succ]))); refine wpQuiet_nil ?_; intro wq hbq)
            have hor := HOR.out
            have d1' := keep_below hbq d1
            have hg2 : gD < wq.heap.size := Nat.lt_of_lt_of_le hgD hbq.size
            clear d1 HCA
            go_wp2_with fail
            exact ⟨⟨j + 1, u ||| t, by omega, by go_num, rfl, by rw [HN.out, Int.toNat_natCast], HUT.out, bel_trans hb hbq⟩, by simp [intOf]; omega⟩
          · obtain ⟨i, hi⟩ : ∃ i, j = i + 1 := ⟨j - 1, by omega⟩
            have hil : i < l.length := by omega
            obtain ⟨g', o', he, hg', d2⟩ := RdI.at_ HRW.out hil
            rw [hDe] at he
            simp only [Option.some.injEq, Addr.mk.injEq, and_true] at he
            obtain ⟨rfl, rfl⟩ := he
            have hgi : l.getD (j - 1) 0 = l[i] := by rw [hi, Nat.add_sub_cancel, List.getD_eq_getElem?_getD, List.getElem?_eq_getElem hil]; rfl
            obtain ⟨pv, hpv⟩ : ∃ pv, l[i] = pv := ⟨_, rfl⟩
            rw [hpv] at d2 hgi
            have hji : (j : Int) - 1 = (i : Int) := by omega
            have hi0 : (0 : Int) ≤ (i : Int) := by omega
            have hi1 : (i : Int) < (k : Int) := by omega
            have hiw : IntKind.i64.wrap (i : Int) = (i : Int) := Go.IntWalk.i64_in _ (by omega)
            have hg0 : (j : Int) > 0 := by omega
            have hgN : 0 < j := by omega
            have hokv : covOk L l j u = decide (pv < (t : Int)) := by rw [HOK.out, hh, hgi, show (j == 0) = false from by simpa using hz]; simp
            have HOKV := Lib.hid hokv
            subst hDe
            clear hh hor hz hi hgi hpv hokv
            by_cases hlt2 : pv < (t : Int)
            · have HN := Lib.hid (HNX.out (by rw [HOKV.out]; simpa using hlt2))
              have hge : ¬ (t : Int) ≤ pv := by omega
              clear hlt2
              go_wp2_with fail
              (refine wp_region_below (by kernel_rfl) (by kernel_rfl) ?_; (repeat (first | go_big_quiet_skip | (refine quietV (v := ?_) (by rfl) rfl (fun w' hbw => ?_) ?_; rotate_left; ((try dsimp only at hbw); have hbc := (bcell hbw).1; have hbf := (bcell hbw).2; go_simp; first | done | with_reducible rfl | (with_reducible exact callsB (v := .bool true) (HCA.out _ hbw) hbw)); simp only [List.setIfInBounds_toArray, List.set_cons_zero, List.set_cons_succ]))); refine wpQuiet_nil ?_; intro wq hbq)
              have hor := HOR.out
              have d1' := keep_below hbq d1
              have hg2 : gD < wq.heap.size := Nat.lt_of_lt_of_le hgD hbq.size
              clear d1 d2 HCA
              go_wp2_with fail
              exact ⟨⟨j + 1, u ||| t, by omega, by go_num, rfl, by rw [HN.out, Int.toNat_natCast], HUT.out, bel_trans hb hbq⟩, by simp [intOf]; omega⟩
            · have HN := Lib.hid (HNO2.out (by rw [HOKV.out]; simpa using hlt2))
              have hge : (t : Int) ≤ pv := by omega
              clear hlt2
              go_wp2_with fail
              (refine wp_region_below (by kernel_rfl) (by kernel_rfl) ?_; (repeat (first | go_big_quiet_skip | (refine quietV (v := ?_) (by rfl) rfl (fun w' hbw => ?_) ?_; rotate_left; ((try dsimp only at hbw); have hbc := (bcell hbw).1; have hbf := (bcell hbw).2; go_simp; first | done | with_reducible rfl | (with_reducible exact callsB (v := .bool true) (HCA.out _ hbw) hbw)); simp only [List.setIfInBounds_toArray, List.set_cons_zero, List.set_cons_succ]))); refine wpQuiet_nil ?_; intro wq hbq)
              go_wp2_with fail
              go_ret
              exact ⟨by rw [HN.out]; rfl, bel_trans hbw1 (bel_trans hb hbq)⟩
      · obtain rfl : j = k := by omega
        have HN := Lib.hid (HYES.out u hso)
        have hj1 : ¬ (j : Int) < (j : Int) := by omega
        clear hso
        go_wp2_with fail
        refine (MaskOf_s W A n c rows _ (HR1.out.below hb) HL.out).mono ?_
        rintro e w2 ⟨rfl, hb2⟩
        go_wp2_with fail
        go_ret
        exact ⟨by rw [HN.out]; exact ret_bool (a := ((u : Int) == ((maskV W rows : Nat) : Int))) (by rw [Bool.eq_iff_iff, beq_iff_eq, beq_iff_eq]; omega), bel_trans hbw1 (bel_trans hb hb2)⟩
end Go.Proofs.YtcgjnonlndaoeaaGreatDoor

/- Most scattered cells: the program's walk. -/
namespace Go.Proofs.YtcgjnonlndaoeaaGreatDoor
open Go.RowKit
set_option linter.unusedVariables false
attribute [local go_sem ↓] Go.wp_at_zero Go.wp_at_succ

set_option maxHeartbeats 1600000 in
theorem LargestScattered_i (W : Int) (A B : Option Addr) (n c q cb : Nat) (rows : List Int) (hs : List H) (P : List (List C)) (w : World) (hr : Rd w A (vI rows)) (hl : rows.length = n) (hp : RdP w B q hs P) (hq : q ≤ 1048576) (hm : totC P ≤ 1048576) :
    Calls Tryz.prog 23 #[.agg #[.int .i64 W, .slice A n c], .slice B q cb] w (Ret w (.tuple #[.int .i64 (lsV W rows P : Nat), .bool (smallV W rows P)])) := by
  have HL := Lib.hid hl
  have HR := Lib.hid (hr.alloc (.cells #[.int .i64 W, .slice A n c] 29))
  have HP := Lib.hid (hp.alloc (.cells #[.int .i64 W, .slice A n c] 29))
  have HB0 := Lib.hid (Blk.new w 29 #[.int .i64 W, .slice A n c])
  have HM := Lib.hid hm
  have hbw0 : Below w.heap.size w (w.alloc (.cells #[.int .i64 W, .slice A n c] 29)) := bel_alloc (Below.refl _ _) _
  clear hl hr hp hm
  have HB1 : Hid (∀ {w1 : World}, Below (w.alloc (.cells #[.int .i64 W, .slice A n c] 29)).heap.size (w.alloc (.cells #[.int .i64 W, .slice A n c] 29)) w1 → w1.cell? ⟨w.heap.size, 0, none⟩ = some (.int .i64 W) ∧ w1.cell? ⟨w.heap.size, 1, none⟩ = some (.slice A n c) ∧ w.heap.size < w1.heap.size) := fun h => by
    have hB := HB0.out.below h
    exact ⟨by simpa using hB.cell 0, by simpa using hB.cell 1, hB.lt⟩
  cases hsm : smallV W rows P with
  | false =>
    have HV : Hid (lsV W rows P = 0) := by show _ = _; unfold lsV; rw [hsm]; rfl
    have HS := Lib.hid hsm
    clear hsm
    go_enter Tryz.func23, Tryz.ntmps23
    go_wp2_with fail
    refine (isSmall_i W A B n c q cb rows hs P _ HR.out HL.out HP.out hq HM.out).mono ?_
    rw [HS.out]
    rintro e w1 ⟨rfl, hb1⟩
    go_wp2_with fail
    go_ret2
    exact ⟨by rw [HV.out]; rfl, bel_trans hbw0 hb1⟩
  | true =>
    have hvp : isReg W rows = true ∧ pcs P = true := by unfold smallV at hsm; simp only [Bool.and_eq_true] at hsm; exact hsm.1
    have hvr := hvp.1
    have hpc := hvp.2
    have hV : lsV W rows P = lsTo (allV W rows P) (subTo (maskV W rows) 36) (subTo (maskV W rows) 36).length := by unfold lsV; rw [if_pos hsm]
    have hLm := allV_msk W rows P
    have hLl := allV_len W rows P
    have hp5 := (pcs_at hpc).1
    have hm36 := maskV_62b hvr
    obtain ⟨L, hL⟩ : ∃ L, allV W rows P = L := ⟨_, rfl⟩
    obtain ⟨mk, hmk⟩ : ∃ mk, maskV W rows = mk := ⟨_, rfl⟩
    obtain ⟨M, hM⟩ : ∃ M, subTo mk 36 = M := ⟨_, rfl⟩
    rw [hL, hmk, hM] at hV
    rw [hL] at hLm hLl
    rw [hmk] at hm36
    have hMlt : ∀ x ∈ M, x < 2 ^ 36 := by rw [← hM]; exact subTo_lt mk 36
    have hMl : M.length ≤ 2 ^ 36 := by rw [← hM]; exact sub_len_le mk (Nat.le_refl _)
    have hL5 : L.length ≤ 1440 := by omega
    have HV := Lib.hid hV
    have HS := Lib.hid hsm
    have HVR := Lib.hid hvr
    have HPC := Lib.hid hpc
    have HLE := Lib.hid hL
    have HMK := Lib.hid hmk
    have HME := Lib.hid hM
    have HLM := Lib.hid hLm
    have HL5 := Lib.hid hL5
    have HMLT := Lib.hid hMlt
    have HML := Lib.hid hMl
    have HMK36 := Lib.hid hm36
    clear hsm hvp hvr hpc hV hLm hLl hp5 hm36 hL hmk hM hMlt hMl hL5
    go_enter Tryz.func23, Tryz.ntmps23
    go_wp2_with fail
    refine (isSmall_i W A B n c q cb rows hs P _ HR.out HL.out HP.out hq HM.out).mono ?_
    rw [HS.out]
    rintro e w1 ⟨rfl, hb1⟩
    obtain ⟨b0, b1, bl⟩ := HB1.out hb1
    go_wp2_with fail
    refine (all_i W A B n c q cb rows hs P _ (HR.out.below hb1) HL.out HVR.out (HP.out.below hb1) HPC.out).mono ?_
    rw [HLE.out]
    rintro e w2 ⟨E, q3, c3, rfl, hO, hb2⟩
    have hq3 : L.length = q3 := by have := own_len hO; rw [vI_length] at this; omega
    have HQ3 := Lib.hid hq3
    have HRE := Lib.hid (Rd.of_own hO)
    have hq4 : q3 ≤ 1048576 := by have := HL5.out; omega
    have hb12 := bel_trans hb1 hb2
    clear hO hq3 b0 b1 bl
    obtain ⟨b0, b1, bl⟩ := HB1.out hb12
    go_wp2_with fail
    refine (mask_i W A n c rows _ (HR.out.below hb12) HL.out HVR.out).mono ?_
    rw [HMK.out]
    rintro e w3 ⟨rfl, hb3⟩
    clear b0 b1 bl
    go_wp2_with fail
    refine (subsets_i mk _ HMK36.out).mono ?_
    rw [HME.out]
    rintro e w4 ⟨D, u, cd, rfl, hRD, hlD, hb4⟩
    have hMu : M.length = u := by rw [sI_len] at hlD; exact hlD
    have HMU := Lib.hid hMu
    have HRD := Lib.hid hRD
    have HRE4 := Lib.hid ((HRE.out.below hb3).below hb4)
    have hbw := bel_trans hbw0 (bel_trans hb12 (bel_trans hb3 hb4))
    have hu36 : u ≤ 2 ^ 36 := by rw [← hMu]; exact HML.out
    clear hRD hlD hMu hb3 hb4 hb12 hb1 hb2
    go_wp2_with fail
    go_loopw [21, 7] (fun e21 e7 wr => ∃ i b : Nat, i ≤ u ∧ e21 = .int .i64 i ∧ e7 = .int .i64 (b : Int) ∧ b = lsTo L M i ∧ Below w4.heap.size w4 wr) (fun e21 _ _ => u - (intOf e21).toNat)
    case atStart => exact ⟨0, 0, Nat.zero_le _, rfl, rfl, rfl, Below.refl _ _⟩
    case round =>
      obtain ⟨i, b, hi, rfl, rfl, hbe, hb⟩ := hrel
      by_cases hlt : i < u
      · have hiM : i < M.length := by rw [HMU.out]; exact hlt
        have hkl : i < (sI M).length := by rw [sI_len]; exact hiM
        have hi0 : (0 : Int) ≤ (i : Int) := by omega
        have hi1 : (i : Int) < (u : Int) := by omega
        obtain ⟨g, off, hA, hg, d1⟩ := RdI.at_ (HRD.out.below hb) hkl
        obtain ⟨x, hx⟩ : ∃ x, M[i] = x := ⟨_, rfl⟩
        have hxI : (sI M)[i] = (x : Int) := by rw [← hx]; simp [sI]
        rw [hxI] at d1
        have hx36 : x < 2 ^ 36 := by rw [← hx]; exact HMLT.out _ (List.getElem_mem hiM)
        have hb36 : b < 2 ^ 36 := by rw [hbe]; exact lsTo_in L M 36 HMLT.out i (by omega)
        have hst := lsTo_succ L M hiM
        rw [hx, ← hbe] at hst
        have hx62 : x < 2 ^ 62 := by omega
        have hb62 : b < 2 ^ 62 := by omega
        have hcx : IntKind.u64.wrap (x : Int) = (x : Int) := wraps_u64 _ (by omega) (by omega)
        have hcb : IntKind.u64.wrap (b : Int) = (b : Int) := wraps_u64 _ (by omega) (by omega)
        obtain ⟨px, hpx⟩ : ∃ px, pop x = px := ⟨_, rfl⟩
        obtain ⟨pb, hpb⟩ : ∃ pb, pop b = pb := ⟨_, rfl⟩
        unfold lsStep at hst
        rw [hpx, hpb] at hst
        have HPX := Lib.hid hpx
        have HPB := Lib.hid hpb
        have HX62 := Lib.hid hx62
        have HB62 := Lib.hid hb62
        subst hA
        clear hx hxI hpx hpb hbe hx62 hb62
        by_cases hgt : pb < px
        · have hgtI : (px : Int) > (pb : Int) := by omega
          rw [decide_eq_true hgt, Bool.true_and] at hst
          cases hsc : scatL L x with
          | true =>
            rw [hsc] at hst
            have HST := Lib.hid hst
            have HSC := Lib.hid hsc
            clear hst hsc
            go_wp2_with fail
            refine (OnesCount_l x _ HX62.out).mono ?_
            rw [HPX.out]
            rintro e w5 ⟨rfl, hb5⟩
            go_wp2_with fail
            refine (OnesCount_l b _ HB62.out).mono ?_
            rw [HPB.out]
            rintro e w6 ⟨rfl, hb6⟩
            have hb16 := bel_trans hb (bel_trans hb5 hb6)
            go_wp2_with fail
            refine (scattered_i E q3 c3 L x _ (HRE4.out.below hb16) HQ3.out hq4 HLM.out HX62.out).mono ?_
            rw [HSC.out]
            rintro e w7 ⟨rfl, hb7⟩
            go_wp2_with fail
            exact ⟨⟨i + 1, x, by omega, by go_num, rfl, HST.out.symm, bel_trans hb16 hb7⟩, by simp [intOf]; omega⟩
          | false =>
            rw [hsc] at hst
            have HST := Lib.hid hst
            have HSC := Lib.hid hsc
            clear hst hsc
            go_wp2_with fail
            refine (OnesCount_l x _ HX62.out).mono ?_
            rw [HPX.out]
            rintro e w5 ⟨rfl, hb5⟩
            go_wp2_with fail
            refine (OnesCount_l b _ HB62.out).mono ?_
            rw [HPB.out]
            rintro e w6 ⟨rfl, hb6⟩
            have hb16 := bel_trans hb (bel_trans hb5 hb6)
            go_wp2_with fail
            refine (scattered_i E q3 c3 L x _ (HRE4.out.below hb16) HQ3.out hq4 HLM.out HX62.out).mono ?_
            rw [HSC.out]
            rintro e w7 ⟨rfl, hb7⟩
            go_wp2_with fail
            exact ⟨⟨i + 1, b, by omega, by go_num, rfl, HST.out.symm, bel_trans hb16 hb7⟩, by simp [intOf]; omega⟩
        · have hgtI : ¬ (px : Int) > (pb : Int) := by omega
          rw [decide_eq_false hgt, Bool.false_and] at hst
          have HST := Lib.hid hst
          clear hst
          go_wp2_with fail
          refine (OnesCount_l x _ HX62.out).mono ?_
          rw [HPX.out]
          rintro e w5 ⟨rfl, hb5⟩
          go_wp2_with fail
          refine (OnesCount_l b _ HB62.out).mono ?_
          rw [HPB.out]
          rintro e w6 ⟨rfl, hb6⟩
          have hb16 := bel_trans hb (bel_trans hb5 hb6)
          go_wp2_with fail
          exact ⟨⟨i + 1, b, by omega, by go_num, rfl, HST.out.symm, hb16⟩, by simp [intOf]; omega⟩
      · obtain rfl : i = u := by omega
        have hi1 : ¬ (i : Int) < (i : Int) := by omega
        have hfin : lsV W rows P = b := by rw [HV.out, HMU.out, hbe]
        have HF := Lib.hid hfin
        clear hbe hfin
        go_wp2_with fail
        go_ret2
        exact ⟨by rw [HF.out]; rfl, bel_trans hbw hb⟩
end Go.Proofs.YtcgjnonlndaoeaaGreatDoor

/- The library's table, out of what the row lists. -/
namespace Go.Proofs.YtcgjnonlndaoeaaGreatDoor
open Go.RowKit
set_option linter.unusedVariables false
def zs64 : List Int := Lib.deBruijn64tab.map fun (x : Nat) => (x : Int)
theorem tb_of_tab {W : World} (h : laidMet Tryz.prog [("math/bits.deBruijn64tab", Lib.tabData .u8 zs64)] W) : Tb W := by
  have hT := Lib.tabIs_of_head (P := Tryz.prog) (g := 1) (by kernel_rfl) (t := 123) (by kernel_rfl) (n := 64) (e := 5) (by kernel_rfl) (by kernel_rfl) (by kernel_rfl) (by kernel_rfl) h
  intro j hj
  have h2 := hT.cell (g := 1) (by kernel_rfl) j (by simpa [zs64] using hj)
  rw [h2]
  congr 2
  unfold zs64
  rw [List.getD_eq_getElem?_getD, List.getElem?_map, List.getElem?_eq_getElem hj, List.getD_eq_getElem?_getD, List.getElem?_eq_getElem hj]
  rfl
theorem tb_of_laid {W : World} (h : laidMetH Tryz.prog [("math/bits.deBruijn32tab", Rows.laid_math_bits_deBruijn32tab), ("math/bits.deBruijn64tab", Rows.laid_math_bits_deBruijn64tab)] W) : Tb W := by
  rw [MakeChecks.laidMetH_plain _ _ _ (by kernel_rfl)] at h
  exact tb_of_tab h.tail
end Go.Proofs.YtcgjnonlndaoeaaGreatDoor

/- What the laws on drawn values share: bytes opened, sizes, lists compared. -/
namespace Go.Proofs.YtcgjnonlndaoeaaGreatDoor
open Go.ChangeShapes Go.WideShapes Go.ChangeAt Go.RowKit
set_option linter.unusedVariables false
attribute [local go_sem ↓] Go.wp_at_zero Go.wp_at_succ
section
variable {H : Type} {enc : TypeId × Value → H}
theorem cellsB : Tryz.prog.cellsOf 5 = 1 := by kernel_rfl
set_option maxRecDepth 100000 in
theorem openB {W : World} {r : Reach} {b0 : Nat} {t : TypeId} (ht : Tryz.prog.underlying t = some (.slice 5)) {base : Nat} {spare : Nat → Bool} {held : Bool} {v : Value} {d : DataW H} {p : List MemPlace} (hv : Value.okWide Tryz.prog W r b0 t v) (h : DataW.Trod enc Tryz.prog W base spare held t v d p) :
    ∃ A n c xs, v = .slice A n c ∧ Rd W A (vB xs) ∧ xs.length = n ∧ n ≤ maxLen := by
  obtain ⟨a0, len, cap, rfl⟩ := okWide_slice ht hv
  obtain ⟨fuel, hf⟩ := h
  rcases open_ints ht Tryz.underlying5 cellsB hf with ⟨hcs, hx⟩ | ⟨a, len', cap', zs, hcs, _, hl, hm, hz, hx, hcell, hwz⟩
  · simp [Value.cells] at hcs
    obtain ⟨rfl, rfl, rfl⟩ := hcs
    exact ⟨none, 0, 0, [], rfl, .inl rfl, rfl, Nat.zero_le _⟩
  · simp [Value.cells] at hcs
    obtain ⟨rfl, rfl, rfl⟩ := hcs
    have hzl : len ≤ zs.length := by rw [hz]; split <;> omega
    have hrng : ∀ z ∈ zs, 0 ≤ z ∧ z < 256 := fun z hz2 => by
      have := hwz z hz2
      simp [Lit.wf, IntKind.min, IntKind.max, IntKind.bits, IntKind.signed] at this
      omega
    refine ⟨_, _, _, (zs.take len).map (fun z => UInt8.ofNat z.toNat), rfl, ?_, by rw [List.length_map, List.length_take]; omega, by omega⟩
    by_cases h0 : 0 < zs.length
    · obtain ⟨ab, ao, spot⟩ := a
      have hspot : spot = none := by simpa [Addr.add] using World.cell?_spot (hcell 0 h0)
      subst hspot
      refine .inr ⟨ab, ao, rfl, fun j u hu => ?_⟩
      simp only [vB, List.getElem?_map, Option.map_eq_some_iff] at hu
      obtain ⟨x, ⟨z, hz1, rfl⟩, rfl⟩ := hu
      have hjl : j < len := by
        rcases Nat.lt_or_ge j len with h | h
        · exact h
        · rw [List.getElem?_eq_none (by rw [List.length_take]; omega)] at hz1; cases hz1
      rw [List.getElem?_take_of_lt hjl] at hz1
      have h3 := hcell j (by omega)
      have h4 := hrng z (List.mem_of_getElem? hz1)
      rw [show (⟨ab, ao + j, none⟩ : Addr) = (⟨ab, ao, none⟩ : Addr).add j from by simp [Addr.add], h3, List.getD_eq_getElem?_getD, hz1]
      have e : ((UInt8.ofNat z.toNat).toNat : Int) = z := by
        rw [UInt8.toNat_ofNat_of_lt' (by show z.toNat < 256; omega)]
        omega
      rw [e]
      rfl
    · left
      rw [List.eq_nil_of_length_eq_zero (by omega : zs.length = 0)]
      simp [vB]
end
theorem big_l (A : Option Addr) (n c : Nat) (w : World) : Calls Tryz.prog 21 #[.slice A n c] w (Ret w (.bool (decide ((n : Int) > 1048576)))) := by
  go_enter Tryz.func21, Tryz.ntmps21
  go_wp2_with fail
  go_ret
  exact ⟨rfl, Below.refl _ _⟩
set_option maxHeartbeats 800000 in
theorem sameInts_t (A A2 : Option Addr) (n c n2 c2 : Nat) (xs : List Int) (w : World) (h : Rd w A (vI xs)) (h2 : Rd w A2 (vI xs)) (hl : xs.length = n) (hl2 : xs.length = n2) (hn : n ≤ 1099511627776) :
    Calls Tryz.prog 25 #[.slice A n c, .slice A2 n2 c2] w (Ret w (.bool true)) := by
  obtain rfl : n = n2 := hl.symm.trans hl2
  have HL := Lib.hid hl
  have H1 := Lib.hid h
  have H2 := Lib.hid h2
  have hne : ((n : Int) != (n : Int)) = false := by simp
  clear hl hl2 h h2
  go_enter Tryz.func25, Tryz.ntmps25
  go_wp2_with fail
  go_loopw [5] (fun e5 wr => ∃ j : Nat, j ≤ n ∧ e5 = .int .i64 j ∧ Below w.heap.size w wr) (fun e5 _ => n - (intOf e5).toNat)
  case atStart => exact ⟨0, Nat.zero_le _, rfl, Below.refl _ _⟩
  case round =>
    obtain ⟨j, hj, rfl, hb⟩ := hrel
    by_cases hlt : j < n
    · have hj0 : (0 : Int) ≤ (j : Int) := by omega
      have hj1 : (j : Int) < (n : Int) := by omega
      have hjl : j < xs.length := by rw [HL.out]; exact hlt
      obtain ⟨g, off, hA, hg, d1⟩ := RdI.at_ (H1.out.below hb) hjl
      obtain ⟨g2, off2, hA2, hg2, d2⟩ := RdI.at_ (H2.out.below hb) hjl
      obtain ⟨v, hv⟩ : ∃ v, xs[j] = v := ⟨_, rfl⟩
      rw [hv] at d1 d2
      have hvv : (v != v) = false := by simp
      subst hA hA2
      clear hv
      go_wp2_with fail
      (refine wp_region_below (by kernel_rfl) (by kernel_rfl) ?_; (repeat (first | go_big_quiet_skip | (refine quietV (v := ?_) (by rfl) rfl (fun w' hbw => ?_) ?_; rotate_left; ((try dsimp only at hbw); have hbc := (bcell hbw).1; have hbf := (bcell hbw).2; go_simp; first | done | with_reducible rfl | fail); simp only [List.setIfInBounds_toArray, List.set_cons_zero, List.set_cons_succ]))); refine wpQuiet_nil ?_; intro wq hbq)
      go_wp2_with fail
      exact ⟨⟨j + 1, by omega, by go_num, bel_trans hb hbq⟩, by simp [intOf]; omega⟩
    · have hj1 : ¬ (j : Int) < (n : Int) := by omega
      go_wp2_with fail
      go_ret
      exact ⟨rfl, hb⟩
end Go.Proofs.YtcgjnonlndaoeaaGreatDoor
