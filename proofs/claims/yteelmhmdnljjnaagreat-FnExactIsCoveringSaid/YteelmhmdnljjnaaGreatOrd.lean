/- Numbers in order, each once: the program. -/
import Derived.Test.YteelmhmdnljjnaaGreatOrdM
import Derived.Test.YteelmhmdnljjnaaGreatShelf
import Derived.Sort.OwnSortedInts
import Derived.Outline
import Derived.WalkLawsBesides
import Derived.WalkSpells
import Derived.BigQuiet
import Derived.Deep.QuietTactic
import Derived.Deep.RegionHeld3
import Derived.Deep.RegionWith
import Derived.Deep.DeepCutAuto
import Derived.Deep.CutBlock
import Derived.Deep.DrawnRows
namespace Go.Proofs.YteelmhmdnljjnaaGreat
open Go.RowKit
set_option linter.unusedVariables false
attribute [local go_sem ↓] Go.wp_at_zero Go.wp_at_succ

theorem copyInts_i (A : Option Addr) (n c : Nat) (xs : List Int) (w : World) (hr : Rd w A (vI xs)) (hl : xs.length = n) (hn : n ≤ 1099511627776) :
    Calls Tryz.prog 99 #[.slice A n c] w (RetS w 3 1 (vI xs)) := by
  have HL := Lib.hid hl
  clear hl
  go_enter Tryz.func99, Tryz.ntmps99
  go_wp2_with (at_builtin; go_must (refine app_I _ rfl _ _ rfl w.heap.size none 0 0 [] rfl (own_nil _ _ _ _) _ _ _ xs rfl hr HL.out (by omega) (by omega) ?_); intro A' c' w' hown' hg' hat'; simp only [Nat.zero_add, List.nil_append] at hown'; have HO := Lib.hid hown'; have HB := Lib.hid (bel_app (Below.refl w.heap.size w) hg' (fun g h => by cases h)); clear hown' hg' hat')
  go_ret
  exact ⟨_, _, _, rfl, HO.out, HB.out⟩
/-- What the library's sort leaves. -/
def SortP (w : World) (base : Nat) (A : Option Addr) (n c : Nat) (l : List Int) (e : Ending) (w' : World) : Prop := e = .returned (.tuple #[]) ∧ w'.ownsRow base 3 1 (.slice A n c) n (vI (srt l)) ∧ w.grownBy w' (ob A)
theorem sortInts (A : Option Addr) (n c base : Nat) (l : List Int) (w : World) (ho : w.ownsRow base 3 1 (.slice A n c) n (vI l)) (hn : n ≤ 1099511627776) :
    Calls Tryz.prog 100 #[.slice A n c] w (SortP w base A n c l) := by
  have hl : l.length = n := by have := own_len ho; rw [vI_length] at this; omega
  rcases ho.2 with ⟨hv, h0⟩ | ⟨g, cap, cur, hv, hb, hg, hnc, hcm, hcs, ht⟩
  · injection hv with hA hn0 hc0
    subst hA hn0 hc0
    have e : l = [] := List.eq_nil_of_length_eq_zero hl
    subst e
    refine (Tryz.sort_Ints_none none 0 w).mono ?_
    rintro e w' ⟨rfl, rfl⟩
    exact ⟨rfl, by rw [show srt [] = [] from by simp [srt]]; exact ho, World.grownBy.refl _ _⟩
  · injection hv with hA _ hc
    subst hA hc
    subst hl
    rw [Nat.mul_one] at ht
    refine (Tryz.sort_Ints g 0 c l w (holds_of_blockI hg ht) (Array.getElem?_eq_some_iff.1 hg).1 (by omega)).mono ?_
    rintro e w' ⟨rfl, k, os, rfl⟩
    exact ⟨rfl, ownsRow_sortedI (srt_len l) hb hg hnc hcm hcs, grownBy_sortedI _⟩
set_option maxRecDepth 100000 in
set_option maxHeartbeats 1600000 in
theorem ordered_i (A : Option Addr) (n c : Nat) (xs : List Int) (w : World) (hr : Rd w A (vI xs)) (hl : xs.length = n) (hn : n ≤ 1099511627776) :
    Calls Tryz.prog 77 #[.slice A n c] w (RetS w 3 1 (vI (ord xs))) := by
  have HL := Lib.hid hl
  have HV : Hid (ord xs = dedTo (srt xs) n) := by show ord xs = _; unfold ord; rw [srt_len, hl]
  have HSL : Hid ((srt xs).length = n) := by show (srt xs).length = n; rw [srt_len, hl]
  clear hl
  go_enter Tryz.func77, Tryz.ntmps77
  go_wp2_with fail
  refine (copyInts_i _ _ _ xs _ hr HL.out (by omega)).mono ?_
  rintro e w1 ⟨B, m, cB, rfl, ho, hb1⟩
  have hm : n = m := by have := own_len ho; rw [vI_length] at this; have := HL.out; omega
  subst hm
  have hBlt := own_lt ho
  go_wp2_with fail
  refine (sortInts _ _ _ _ xs _ ho hn).mono ?_
  rintro e w2 ⟨rfl, ho2, hg2⟩
  have hb2 : Below w.heap.size w w2 := bel_app hb1 hg2 (fun g h => (hBlt g h).1)
  have hrd := Rd.of_own ho2
  generalize srt xs = s at HV HSL hrd ho2
  have HO2 := Lib.hid ho2
  clear ho ho2 hg2 hb1
  go_wp2_with fail
  go_loopw [4, 13] (fun e e13 wr => ∃ (k q cp : Nat) (D : Option Addr), k ≤ n ∧ q ≤ k ∧ e = .slice D q cp ∧ e13 = .int .i64 k ∧ wr.ownsRow w2.heap.size 3 1 (.slice D q cp) q (vI (dedTo s k)) ∧ Below w2.heap.size w2 wr) (fun _ e13 _ => n - (intOf e13).toNat)
  case atStart => exact ⟨0, 0, 0, none, by omega, by omega, rfl, rfl, own_nil _ _ _ _, Below.refl _ _⟩
  case round =>
    obtain ⟨k, q, cp, D, hk, hq, rfl, rfl, hown, hb⟩ := hrel
    by_cases hlt : k < n
    · have hks : k < s.length := by rw [HSL.out]; exact hlt
      have hrw := hrd.below hb
      obtain ⟨g, off, rfl, hg, c1⟩ := RdI.at_ hrw hks
      have hgd : s.getD k 0 = s[k] := by rw [List.getD_eq_getElem?_getD, List.getElem?_eq_getElem hks]; rfl
      have hst : dedTo s (k + 1) = dedTo s k ++ (if keepAt s k then [s.getD k 0] else []) := rfl
      rw [hgd] at hst
      obtain ⟨x, hx⟩ : ∃ x, s[k] = x := ⟨_, rfl⟩
      rw [hx] at c1 hst hgd
      have HO := Lib.hid hown
      have hbs := hb.size
      clear hown hx
      -- the two ways
      have KEEP : Hid (keepAt s k = true → dedTo s (k + 1) = dedTo s k ++ [x]) := fun h => by rw [hst, h]; rfl
      have SKIP : Hid (keepAt s k = false → dedTo s (k + 1) = dedTo s k) := fun h => by rw [hst, h]; simp
      have hka : keepAt s k = (k == 0 || s.getD (k - 1) 0 != x) := by unfold keepAt; rw [hgd]
      have HKA := Lib.hid hka
      clear hst hgd hka
      by_cases hk0 : k = 0
      · have e0 : ((k : Int) == 0) = true := by simp [hk0]
        have HN := Lib.hid (KEEP.out (by rw [HKA.out, hk0]; rfl))
        have hk1 : (0 : Int) ≤ (k : Int) := by omega
        have hk2 : (k : Int) < (n : Int) := by omega
        clear KEEP SKIP HKA hk0
        go_wp2_with (at_builtin; go_must (refine app_I _ rfl _ _ rfl w2.heap.size _ _ _ _ rfl (HO.out.alloc _) _ _ _ [x] rfl (rd_newI _ _ _) rfl (by omega) (by simp; omega) ?_); intro D2 cp2 w8 ho8 hg8 hat8; have HO8 := Lib.hid ho8; have HG8 := Lib.hid hg8; clear ho8 hg8 hat8)
        exact ⟨⟨k + 1, q + 1, cp2, D2, by omega, by omega, rfl, by go_num, by rw [HN.out]; exact HO8.out, bel_app (bel_alloc hb _) HG8.out (fun g' hg1 => ((own_lt HO.out) g' hg1).1)⟩, by simp [intOf]; omega⟩
      · obtain ⟨j, hjk⟩ : ∃ j, k = j + 1 := ⟨k - 1, by omega⟩
        have hjs : j < s.length := by omega
        obtain ⟨g', off', he, _, d1⟩ := RdI.at_ hrw hjs
        simp only [Option.some.injEq, Addr.mk.injEq, and_true] at he
        obtain ⟨rfl, rfl⟩ := he
        have hgj : s.getD (k - 1) 0 = s[j] := by rw [hjk, Nat.add_sub_cancel, List.getD_eq_getElem?_getD, List.getElem?_eq_getElem hjs]; rfl
        obtain ⟨y, hy⟩ : ∃ y, s[j] = y := ⟨_, rfl⟩
        rw [hy] at d1 hgj
        have e0 : ((k : Int) == 0) = false := by simp; omega
        have hj1 : (k : Int) - 1 = (j : Int) := by omega
        have hj0 : (0 : Int) ≤ (j : Int) := by omega
        have hjm : (j : Int) < (n : Int) := by omega
        have hk1 : (0 : Int) ≤ (k : Int) := by omega
        have hk2 : (k : Int) < (n : Int) := by omega
        have hkk : (k == 0) = false := by simpa using hk0
        have HKK := Lib.hid hkk
        have HGJ := Lib.hid hgj
        clear hy hgj hjk hkk hk0
        by_cases hyx : y = x
        · have HN := Lib.hid (SKIP.out (by rw [HKA.out, HKK.out, HGJ.out, hyx]; simp))
          have e1 : (y != x) = false := by simp [hyx]
          clear KEEP SKIP HKA hyx
          go_wp2_with fail
          exact ⟨⟨k + 1, q, cp, D, by omega, by omega, rfl, by go_num, by rw [HN.out]; exact HO.out, hb⟩, by simp [intOf]; omega⟩
        · have HN := Lib.hid (KEEP.out (by rw [HKA.out, HKK.out, HGJ.out]; simpa using hyx))
          have e1 : (y != x) = true := by simpa using hyx
          clear KEEP SKIP HKA hyx
          go_wp2_with (at_builtin; go_must (refine app_I _ rfl _ _ rfl w2.heap.size _ _ _ _ rfl (HO.out.alloc _) _ _ _ [x] rfl (rd_newI _ _ _) rfl (by omega) (by simp; omega) ?_); intro D2 cp2 w8 ho8 hg8 hat8; have HO8 := Lib.hid ho8; have HG8 := Lib.hid hg8; clear ho8 hg8 hat8)
          exact ⟨⟨k + 1, q + 1, cp2, D2, by omega, by omega, rfl, by go_num, by rw [HN.out]; exact HO8.out, bel_app (bel_alloc hb _) HG8.out (fun g' hg1 => ((own_lt HO.out) g' hg1).1)⟩, by simp [intOf]; omega⟩
    · have hkn : k = n := by omega
      subst hkn
      rw [← HV.out] at hown
      have HO := Lib.hid (own_base hown hb2.size)
      clear hown
      go_wp2
      go_ret
      exact ⟨_, _, _, rfl, HO.out, (by (repeat (first | with_reducible exact Below.refl _ _ | with_reducible assumption | with_reducible apply bel_alloc | with_reducible apply bel_drew | with_reducible apply bel_drewN | ((with_reducible refine bel_set ?_ ?_); rotate_left; (simp <;> omega)) | (with_reducible refine bel_trans ?_ (by with_reducible assumption)))))⟩
end Go.Proofs.YteelmhmdnljjnaaGreat
