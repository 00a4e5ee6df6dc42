/- The laws' own functions on integers and slices of integers: copying, comparing, marking. -/
import Derived.Test.YteelmhmdnljjnaaGreatMem
import Derived.Outline
import Derived.WalkLawsBesides
import Derived.WalkSpells
import Derived.BigQuiet
import Derived.Deep.QuietTactic
import Derived.Deep.RegionHeld3
import Derived.Deep.DeepCutAuto
import Derived.Deep.CutBlock
import Derived.Deep.DrawnRows
namespace Go.Proofs.YteelmhmdnljjnaaGreat
open Go.RowKit
set_option linter.unusedVariables false
attribute [local go_sem ↓] Go.wp_at_zero Go.wp_at_succ

theorem toIntS_l (A : Option Addr) (n c : Nat) (xs : List Int) (w : World) (hr : Rd w A (vI xs)) (hl : xs.length = n) (hn : n ≤ 1048576) :
    Calls Tryz.prog 15 #[.slice A n c] w (RetS w 3 1 (vI xs)) := by
  have hmk := mk_I w n hn
  go_enter Tryz.func15, Tryz.ntmps15
  go_wp2
  go_loopw [4] (fun i wr => ∃ k : Nat, k ≤ n ∧ i = .int .i64 k ∧ Blk wr w.heap.size 3 (vI (xs.take k ++ List.replicate (xs.length - k) 0)).toArray ∧ Below w.heap.size w wr) (fun i _ => n - (intOf i).toNat)
  case atStart => exact ⟨0, Nat.zero_le _, rfl, by rw [hl]; exact Blk.new _ _ _, (by (repeat (first | with_reducible exact Below.refl _ _ | with_reducible assumption | with_reducible apply bel_alloc | with_reducible apply bel_drew | with_reducible apply bel_drewN | ((with_reducible refine bel_set ?_ ?_); rotate_left; (simp <;> omega)) | (with_reducible refine bel_trans ?_ (by with_reducible assumption)))))⟩
  case round =>
    obtain ⟨k, hk, rfl, hB, hb⟩ := hrel
    clear hmk
    by_cases hlt : k < n
    · have hkx : k < xs.length := by omega
      obtain ⟨g, off, rfl, hgn, c0⟩ := RdI.at_ hr hkx
      have c1 := keep_below hb c0
      have hgw := Nat.lt_of_lt_of_le hgn hb.size
      clear c0
      obtain ⟨x, hx⟩ : ∃ x, xs[k] = x := ⟨_, rfl⟩
      have hs := blkI_set hB k x
      rw [← hx, fill_step xs 0 k hkx, hx] at hs
      have d1 := blkI_cell hB (k := k) (by rw [fill_len _ _ _ (by omega)]; omega)
      generalize (xs.take k ++ List.replicate (xs.length - k) 0)[k]'(by rw [fill_len _ _ _ (by omega)]; omega) = z at d1
      have f1 := hB.frozen k
      rw [hx] at c1
      have HS := Lib.hid hs
      have hgl := hB.lt
      clear hs hx hB hl
      go_wp2
      exact ⟨⟨k + 1, by omega, by go_num, HS.out, (by (repeat (first | with_reducible exact Below.refl _ _ | with_reducible assumption | with_reducible apply bel_alloc | with_reducible apply bel_drew | with_reducible apply bel_drewN | ((with_reducible refine bel_set ?_ ?_); rotate_left; (simp <;> omega)) | (with_reducible refine bel_trans ?_ (by with_reducible assumption)))))⟩, by simp [intOf]; omega⟩
    · have hkk : k = n := by omega
      subst hkk
      have ho := own_blk hB (size := 1) (n := k) (by simp [vI_length, ← hl]) (Nat.le_refl _) (by unfold maxLen; omega)
      rw [← hl, fill_end] at ho
      have HO := Lib.hid ho
      have HL := Lib.hid hl
      clear ho hB hl
      go_wp2
      go_ret
      exact ⟨_, _, _, rfl, by have h := HO.out; rw [HL.out] at h; simpa using h, hb⟩

theorem eqIntS_l (A A2 : Option Addr) (n c n2 c2 : Nat) (xs ys : List Int) (w : World) (hr : Rd w A (vI xs)) (hr2 : Rd w A2 (vI ys)) (hl : xs.length = n) (hl2 : ys.length = n2) (hn : n ≤ 1099511627776) (hn2 : n2 ≤ 1099511627776) :
    Calls Tryz.prog 19 #[.slice A n c, .slice A2 n2 c2] w (Ret w (.bool (decide (xs = ys)))) := by
  by_cases hne : n = n2
  · subst hne
    have HL := Lib.hid hl
    have HL2 := Lib.hid hl2
    go_enter Tryz.func19, Tryz.ntmps19
    go_wp2
    clear hl hl2
    go_loopw [5] (fun i wr => ∃ k : Nat, k ≤ n ∧ i = .int .i64 k ∧ xs.take k = ys.take k ∧ Below w.heap.size w wr) (fun i _ => n - (intOf i).toNat)
    case atStart => exact ⟨0, Nat.zero_le _, rfl, rfl, Below.refl _ _⟩
    case round =>
      obtain ⟨k, hk, rfl, he, hb⟩ := hrel
      by_cases hlt : k < n
      · have hkx : k < xs.length := by rw [HL.out]; omega
        have hky : k < ys.length := by rw [HL2.out]; omega
        obtain ⟨g, off, rfl, hgw, c1⟩ := RdI.at_ (hr.below hb) hkx
        obtain ⟨g2, off2, rfl, hgw2, c2⟩ := RdI.at_ (hr2.below hb) hky
        have e1 := List.take_succ_eq_append_getElem hkx
        have e2 := List.take_succ_eq_append_getElem hky
        obtain ⟨x, hx⟩ : ∃ x, xs[k] = x := ⟨_, rfl⟩
        obtain ⟨y, hy⟩ : ∃ y, ys[k] = y := ⟨_, rfl⟩
        rw [hx] at c1 e1
        rw [hy] at c2 e2
        have HX := Lib.hid hx
        have HY := Lib.hid hy
        have HE := Lib.hid he
        have E1 := Lib.hid e1
        have E2 := Lib.hid e2
        have hi0 : (0 : Int) ≤ (k : Int) := by omega
        have hi1 : (k : Int) < (n : Int) := by omega
        clear e1 e2 hx hy he
        by_cases hxy : x = y
        · subst hxy
          go_wp2_with fail
          go_quiet (fail)
          go_wp2
          exact ⟨⟨k + 1, by omega, by go_num, by rw [E1.out, E2.out, HE.out], (by (repeat (first | with_reducible exact Below.refl _ _ | with_reducible assumption | with_reducible apply bel_alloc | with_reducible apply bel_drew | with_reducible apply bel_drewN | ((with_reducible refine bel_set ?_ ?_); rotate_left; (simp <;> omega)) | (with_reducible refine bel_trans ?_ (by with_reducible assumption)))))⟩, by simp [intOf]; omega⟩
        · have hd : (x == y) = false := by simpa using hxy
          have hv : decide (xs = ys) = false := by
            simp only [decide_eq_false_iff_not]
            rintro rfl
            exact hxy (HX.out.symm.trans HY.out)
          have HV := Lib.hid hv
          clear hxy hv
          go_wp2_with fail
          go_quiet (fail)
          go_wp2
          go_ret
          exact ⟨by rw [HV.out]; rfl, (by (repeat (first | with_reducible exact Below.refl _ _ | with_reducible assumption | with_reducible apply bel_alloc | with_reducible apply bel_drew | with_reducible apply bel_drewN | ((with_reducible refine bel_set ?_ ?_); rotate_left; (simp <;> omega)) | (with_reducible refine bel_trans ?_ (by with_reducible assumption)))))⟩
      · have hkk : k = n := by omega
        subst hkk
        rw [List.take_of_length_le (by rw [HL.out]; omega), List.take_of_length_le (by rw [HL2.out]; omega)] at he
        have HV : Hid (decide (xs = ys) = true) := by simpa [Hid] using he
        clear he
        go_wp2
        go_ret
        exact ⟨by rw [HV.out]; rfl, (by (repeat (first | with_reducible exact Below.refl _ _ | with_reducible assumption | with_reducible apply bel_alloc | with_reducible apply bel_drew | with_reducible apply bel_drewN | ((with_reducible refine bel_set ?_ ?_); rotate_left; (simp <;> omega)) | (with_reducible refine bel_trans ?_ (by with_reducible assumption)))))⟩
  · have hv : decide (xs = ys) = false := by
      simp only [decide_eq_false_iff_not]
      rintro rfl
      omega
    have HV := Lib.hid hv
    have hd : ((n : Int) == (n2 : Int)) = false := by simp; omega
    clear hv hl hl2
    go_enter Tryz.func19, Tryz.ntmps19
    go_wp2
    go_ret
    exact ⟨by rw [HV.out]; rfl, (by (repeat (first | with_reducible exact Below.refl _ _ | with_reducible assumption | with_reducible apply bel_alloc | with_reducible apply bel_drew | with_reducible apply bel_drewN | ((with_reducible refine bel_set ?_ ?_); rotate_left; (simp <;> omega)) | (with_reducible refine bel_trans ?_ (by with_reducible assumption)))))⟩

theorem eqIntS_t (A A2 : Option Addr) (n c n2 c2 : Nat) (xs : List Int) (w : World) (hr : Rd w A (vI xs)) (hr2 : Rd w A2 (vI xs)) (hl : xs.length = n) (hl2 : xs.length = n2) (hn : n ≤ 1099511627776) :
    Calls Tryz.prog 19 #[.slice A n c, .slice A2 n2 c2] w (Ret w (.bool true)) := by
  have h := eqIntS_l A A2 n c n2 c2 xs xs w hr hr2 hl hl2 hn (by omega)
  simpa using h

/-- What marking does: the numbers from k on, in its own block alone. -/
def MarkP (w : World) (base E sz : Nat) (A : Option Addr) (n c : Nat) (vs : List Value) (r : Int) (e : Ending) (w' : World) : Prop :=
  e = .returned (.int .i64 r) ∧ w'.ownsRow base E sz (.slice A n c) n vs ∧ w.grownBy w' (ob A)

theorem markIntS_l (A : Option Addr) (n c base : Nat) (k : Int) (xs : List Int) (w : World) (ho : w.ownsRow base 3 1 (.slice A n c) n (vI xs)) (hn : n ≤ 1099511627776) (hk0 : 0 ≤ k) (hk1 : k ≤ 1099511627776) :
    Calls Tryz.prog 63 #[.slice A n c, .int .i64 k] w (MarkP w base 3 1 A n c (vI (io k n)) (k + n)) := by
  have hl : xs.length = n := by have := own_len ho; rw [vI_length] at this; omega
  have HL := Lib.hid hl
  clear hl
  go_enter Tryz.func63, Tryz.ntmps63
  go_wp2
  go_loopw [1, 5] (fun t i wr => ∃ j : Nat, j ≤ n ∧ i = .int .i64 j ∧ t = .int .i64 (k + j) ∧ wr.ownsRow base 3 1 (.slice A n c) n (vI (io k j ++ xs.drop j)) ∧ w.grownBy wr (ob A)) (fun _ i _ => n - (intOf i).toNat)
  case atStart => exact ⟨0, Nat.zero_le _, rfl, by simp, by simpa [io] using ho, World.grownBy.refl _ _⟩
  case round =>
    obtain ⟨j, hj, rfl, rfl, hO, hg⟩ := hrel
    by_cases hlt : j < n
    · obtain ⟨g, rfl, hbg, hgw⟩ := own_at hO (by omega)
      have hjl : j < (io k j ++ xs.drop j).length := by rw [List.length_append, io_length, List.length_drop, HL.out]; omega
      have d1 := hO.cellAt j (by omega)
      rw [show (vI (io k j ++ xs.drop j))[j]? = some (.int .i64 (io k j ++ xs.drop j)[j]) from by simp only [vI, List.getElem?_map, List.getElem?_eq_getElem hjl, Option.map_some]] at d1
      generalize (io k j ++ xs.drop j)[j] = z at d1
      have f1 := hO.frozenAt j
      have hst := (hO.stored j (.int .i64 (k + j))).1
      rw [show (vI (io k j ++ xs.drop j)).set j (.int .i64 (k + j)) = vI (io k (j + 1) ++ xs.drop (j + 1)) from by rw [← mark_step k xs j (by rw [HL.out]; omega)]; simp [vI, List.map_set]] at hst
      have HS := Lib.hid hst
      have HO := Lib.hid hO
      clear hst hO
      go_wp2
      exact ⟨⟨j + 1, by omega, by go_num, by rw [show k + (j : Int) + 1 = k + ((j + 1 : Nat) : Int) from by omega], HS.out, grown_set (p := ⟨g, j, none⟩) hg rfl _⟩, by simp [intOf]; omega⟩
    · have hkk : j = n := by omega
      subst hkk
      rw [List.drop_of_length_le (by rw [HL.out]; omega), List.append_nil] at hO
      have HO := Lib.hid hO
      clear hO
      go_wp2
      go_ret
      exact ⟨rfl, HO.out, hg⟩

theorem heldIntS_l (A : Option Addr) (n c : Nat) (k : Int) (w : World) (hr : Rd w A (vI (io k n))) (hn : n ≤ 1099511627776) (hk0 : 0 ≤ k) (hk1 : k ≤ 1099511627776) :
    Calls Tryz.prog 65 #[.slice A n c, .int .i64 k] w (Ret w (.int .i64 (k + n))) := by
  go_enter Tryz.func65, Tryz.ntmps65
  go_wp2
  go_loopw [1, 5] (fun t i wr => ∃ j : Nat, j ≤ n ∧ i = .int .i64 j ∧ t = .int .i64 (k + j) ∧ Below w.heap.size w wr) (fun _ i _ => n - (intOf i).toNat)
  case atStart => exact ⟨0, Nat.zero_le _, rfl, by simp, Below.refl _ _⟩
  case round =>
    obtain ⟨j, hj, rfl, rfl, hb⟩ := hrel
    by_cases hlt : j < n
    · obtain ⟨g, off, rfl, hgw, c1⟩ := RdI.at_ (hr.below hb) (k := j) (by rw [io_length]; omega)
      rw [io_get] at c1
      go_wp2
      exact ⟨⟨j + 1, by omega, by go_num, by rw [show k + (j : Int) + 1 = k + ((j + 1 : Nat) : Int) from by omega], hb⟩, by simp [intOf]; omega⟩
    · have hkk : j = n := by omega
      subst hkk
      go_wp2
      go_ret
      exact ⟨rfl, hb⟩
end Go.Proofs.YteelmhmdnljjnaaGreat
