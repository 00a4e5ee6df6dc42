/- What a motion makes of a mask: the program. -/
import Derived.Test.YtcgohceakjjlhaaPlaces
import Derived.Outline
import Derived.WalkLawsBesides
import Derived.WalkSpells
import Derived.BigQuiet
import Derived.Deep.QuietTactic
import Derived.Deep.RegionHeld3
import Derived.Deep.RegionWith
import Derived.Deep.DeepCutAuto
import Derived.Deep.CutBlock
import Derived.Deep.DrawnRows
namespace Go.Proofs.Ytcgohceakjjlhaa
open Go.RowKit
set_option linter.unusedVariables false
attribute [local go_sem ↓] Go.wp_at_zero Go.wp_at_succ
def posC (n h m : Nat) (c : C) : Nat := ((carry n h c.1 c.2 m).2.2.2 * n + (carry n h c.1 c.2 m).2.2.1).toNat
def orL (n h m : Nat) (L : List C) : Nat := L.foldl (fun a c => a ||| 2 ^ posC n h m c) 0
theorem orL_snoc (n h m : Nat) (L : List C) (c : C) : orL n h m (L ++ [c]) = orL n h m L ||| 2 ^ posC n h m c := by simp [orL]
theorem orL_take (n h m : Nat) (L : List C) (k : Nat) (hk : k < L.length) : orL n h m (L.take (k + 1)) = orL n h m (L.take k) ||| 2 ^ posC n h m L[k] := by
  rw [List.take_succ_eq_append_getElem hk, orL_snoc]
theorem orL_turn {n h m mask : Nat} (hp : ∀ i j, i < n * h → j < n * h → pos n h m i = pos n h m j → i = j) (hl : ∀ i, i < n * h → pos n h m i < n * h) (h36 : n * h ≤ 36) :
    ∀ k, k ≤ n * h → orL n h m (plTo n mask k) = turnTo n h m mask k
  | 0, _ => rfl
  | k + 1, hk => by
    have ih := orL_turn (mask := mask) hp hl h36 k (by omega)
    show orL n h m (plTo n mask k ++ _) = _
    by_cases hb : mask.testBit k = true
    · rw [if_pos hb, orL_snoc, ih, turn_or hp hl h36 (by omega) hb]
      rfl
    · rw [if_neg hb, List.append_nil, ih]
      show _ = turnTo n h m mask k + _
      rw [if_neg hb, Nat.add_zero]
theorem plTo_mem {n mask : Nat} {c : C} : ∀ {k}, c ∈ plTo n mask k → ∃ i, i < k ∧ c = (((i % n : Nat) : Int), ((i / n : Nat) : Int))
  | 0, h => by simp [plTo] at h
  | k + 1, h => by
    rcases List.mem_append.1 h with h | h
    · obtain ⟨i, hi, e⟩ := plTo_mem h
      exact ⟨i, by omega, e⟩
    · split at h
      · simp only [List.mem_singleton] at h
        exact ⟨k, by omega, h⟩
      · simp at h
theorem orL_lt_aux {n h m : Nat} (N : Nat) : ∀ (L : List C) (a : Nat), a < 2 ^ N → (∀ c ∈ L, posC n h m c < N) → L.foldl (fun a c => a ||| 2 ^ posC n h m c) a < 2 ^ N
  | [], a, ha, _ => ha
  | c :: t, a, ha, hc => orL_lt_aux N t _ (Nat.or_lt_two_pow ha (Nat.pow_lt_pow_right (by decide) (hc c (by simp)))) (fun d hd => hc d (by simp [hd]))
theorem orL_lt {n h m N : Nat} {L : List C} (hc : ∀ c ∈ L, posC n h m c < N) : orL n h m L < 2 ^ N := orL_lt_aux N L 0 (Nat.pow_pos (by decide)) hc
theorem take_mem {L : List C} {k : Nat} {c : C} (h : c ∈ L.take k) : c ∈ L := List.mem_of_mem_take h
set_option maxHeartbeats 1600000 in
theorem carryMask_i (n : Nat) (A : Option Addr) (h c : Nat) (rows : List Int) (mask m : Nat) (w : World) (hr : Rd w A (vI rows)) (hl : rows.length = h) (hn : 1 ≤ n ∧ n ≤ 6) (hh : 1 ≤ h ∧ h ≤ 6) (hm : m < 8) (hg : goesM n h m = true) (hmask : mask < 2 ^ (n * h)) :
    Calls Try.prog 46 #[.agg #[.int .i64 (n : Int), .slice A h c], .int .i64 (mask : Int), .int .i64 (m : Int)] w (Ret w (.int .i64 (turnTo n h m mask (n * h) : Nat))) := by
  obtain ⟨hp1, hp2⟩ := pos_ok hn hh hm hg
  have h36 : n * h ≤ 6 * 6 := Nat.mul_le_mul hn.2 hh.2
  have hV := orL_turn (mask := mask) hp2 hp1 (by omega) (n * h) (Nat.le_refl _)
  have HV := Lib.hid hV
  have HM := Lib.hid hmask
  have hN36 : n * h ≤ 36 := by omega
  have H36 := Lib.hid hN36
  have HP1 := Lib.hid hp1
  have hL : ∀ x ∈ plTo n mask (n * h), okQ ((n : Int), (h : Int), x.1, x.2) ∧ posC n h m x < n * h := by
    intro x hx
    obtain ⟨i, hi, rfl⟩ := plTo_mem hx
    exact ⟨grid_ok hn hh hi, hp1 i hi⟩
  have hlen := plTo_len n mask (n * h)
  have HLL := Lib.hid hL
  have HLEN := Lib.hid hlen
  clear hV hmask h36 hN36 hp1 hp2 hL hlen hl
  go_enter Try.func46, Try.ntmps46
  go_wp2_with fail
  refine (places_i n mask (n * h) _ hn H36.out HM.out).mono ?_
  rintro e w1 ⟨B, q, cq, rfl, ho, hb1⟩
  have hq : q = (plTo n mask (n * h)).length := by have := own_len ho; rw [vC_length] at this; omega
  generalize plTo n mask (n * h) = L at HV HLL HLEN ho hq
  have HQ := Lib.hid hq
  have hq36 : q ≤ 36 := by have := HLEN.out; have := H36.out; omega
  have hrd := Rd.of_own ho
  have HRD := Lib.hid hrd
  have hB1 := (Blk.new w 27 #[.int .i64 (n : Int), .slice A h c]).below hb1
  have HB1 := Lib.hid hB1
  have hr1 := (hr.alloc (.cells #[.int .i64 (n : Int), .slice A h c] 27)).below hb1
  clear ho hq hrd hB1
  go_wp2_with fail
  go_loopw [16, 7] (fun i t wr => ∃ k v : Nat, k ≤ q ∧ i = .int .i64 k ∧ t = .int .i64 v ∧ v = orL n h m (L.take k) ∧ Below w1.heap.size w1 wr) (fun i _ _ => q - (intOf i).toNat)
  case atStart => exact ⟨0, 0, Nat.zero_le _, rfl, rfl, rfl, Below.refl _ _⟩
  case round =>
    obtain ⟨k, v, hk, rfl, rfl, hv, hb⟩ := hrel
    by_cases hlt : k < q
    · have hk0 : (0 : Int) ≤ (k : Int) := by omega
      have hk1 : (k : Int) < (q : Int) := by omega
      have hkl : k < L.length := by rw [← HQ.out]; exact hlt
      have hB := HB1.out.below hb
      have d0 : wr.cell? ⟨w.heap.size, 0, none⟩ = some (.int .i64 (n : Int)) := by simpa using hB.cell 0
      have d1 : wr.cell? ⟨w.heap.size, 1, none⟩ = some (.slice A h c) := by simpa using hB.cell 1
      have hgw := hB.lt
      obtain ⟨g, off, rfl, hgl, c0, c1⟩ := RdC.at_ (HRD.out.below hb) hkl
      have hT := orL_take n h m L k hkl
      obtain ⟨hok, hpl⟩ := HLL.out L[k] (List.getElem_mem hkl)
      obtain ⟨⟨x, y⟩, hxy⟩ : ∃ p, L[k] = p := ⟨_, rfl⟩
      rw [hxy] at c0 c1 hT hok hpl
      have HT := Lib.hid hT
      have HOK := Lib.hid hok
      have HPL := Lib.hid hpl
      have HV2 := Lib.hid hv
      clear hB hT hok hpl hv hxy
      have hpos := pos_int (m := m) HOK.out
      have hcs := carry_small HOK.out m
      have hcp : ∀ W : World, Calls Try.prog 72 #[.int .i64 (n : Int), .int .i64 (h : Int), .agg #[.int .i64 x, .int .i64 y], .int .i64 (m : Int)] W (Ret W (.agg #[.int .i64 (carry n h x y m).2.2.1, .int .i64 (carry n h x y m).2.2.2])) := fun W => carryPlace_i _ _ _ _ m W HOK.out hm
      have hposc : posC n h m (x, y) = ((carry n h x y m).2.2.2 * n + (carry n h x y m).2.2.1).toNat := rfl
      obtain ⟨⟨a', b', x', y'⟩, hq4⟩ : ∃ q, carry n h x y m = q := ⟨_, rfl⟩
      rw [hq4] at hpos hcs hcp hposc
      rw [← hposc] at hpos
      dsimp only at hcp
      have HCP := Lib.hid hcp
      have hjN := HPL.out
      have hT2 := HT.out
      have hvlt : v < 2 ^ 36 := by
        have h1 := orL_lt (n := n) (h := h) (m := m) (N := n * h) (L := L.take k) (fun d hd => (HLL.out d (take_mem hd)).2)
        rw [← HV2.out] at h1
        exact Nat.lt_of_lt_of_le h1 (Nat.pow_le_pow_right (by decide) H36.out)
      rw [← HV2.out] at hT2
      have hj36 : posC n h m (x, y) < 36 := Nat.lt_of_lt_of_le hjN H36.out
      clear hjN HT HPL
      generalize posC n h m (x, y) = j at hpos hposc hj36 hT2
      obtain ⟨z, hz⟩ : ∃ z : Int, y' * (n : Int) = z := ⟨_, rfl⟩
      have hzj : z + x' = (j : Int) := by rw [← hz]; exact hpos
      have h2j : (2 : Nat) ^ j < 2 ^ 36 := Nat.pow_lt_pow_right (by decide) hj36
      obtain ⟨t, ht⟩ : ∃ t : Nat, 2 ^ j = t := ⟨_, rfl⟩
      have htI : (2 : Int) ^ j = (t : Int) := by rw [← ht]; simp
      rw [ht] at h2j hT2
      have hj64 : (j : Int) ≤ 64 := by omega
      have hj0 : (0 : Int) ≤ (j : Int) := by omega
      unfold okQ at hcs
      simp only at hcs
      obtain ⟨k1, k2, k3, k4, k5, k6, k7, k8⟩ := hcs
      have hn0 : (0 : Int) ≤ (n : Int) := by omega
      have hz0 : 0 ≤ z := by rw [← hz]; exact Int.mul_nonneg k7 hn0
      have hz36 : z ≤ 36 := by omega
      have HV63 : Hid (v < 2 ^ 63) := by show v < 2 ^ 63; omega
      have HT63 : Hid (t < 2 ^ 63) := by show t < 2 ^ 63; omega
      have hor : bits .or .i64 (v : Int) (t : Int) = ((v ||| t : Nat) : Int) := i64_or v t HV63.out HT63.out
      have HTT := Lib.hid hT2
      clear hq4 hpos hposc hcp hT2 hvlt
      go_wp2_with fail
      refine (HCP.out _).mono ?_
      rintro e w2 ⟨rfl, hb2⟩
      have y0 : w2.cell? ⟨w.heap.size, 0, none⟩ = some (.int .i64 (n : Int)) := keep_below hb2 (keep_alloc d0)
      have y1 : w2.cell? ⟨w.heap.size, 1, none⟩ = some (.slice A h c) := keep_below hb2 (keep_alloc d1)
      have hgw2 : w.heap.size < w2.heap.size := Nat.lt_of_lt_of_le hgw (by have := hb2.size; simp at this; omega)
      clear hor
      have hor : bits .or .i64 (v : Int) (t : Int) = ((v ||| t : Nat) : Int) := i64_or v t HV63.out HT63.out
      go_wp2_with fail
      exact ⟨⟨k + 1, v ||| t, by omega, by go_num, rfl, HTT.out.symm, (by (repeat (first | with_reducible exact Below.refl _ _ | with_reducible assumption | with_reducible apply bel_alloc | with_reducible apply bel_drew | with_reducible apply bel_drewN | ((with_reducible refine bel_set ?_ ?_); rotate_left; (simp <;> omega)) | (with_reducible refine bel_trans ?_ (by with_reducible assumption)))))⟩, by simp [intOf]; omega⟩
    · have hkq : k = q := by omega
      have hkq2 : L.take k = L := List.take_of_length_le (by rw [← HQ.out]; omega)
      rw [hkq2] at hv
      have HV2 := Lib.hid (hv.trans HV.out)
      have hk1 : ¬ (k : Int) < (q : Int) := by omega
      clear hv hkq2
      go_wp2
      go_ret
      exact ⟨by rw [← HV2.out]; rfl, (by (repeat (first | with_reducible exact Below.refl _ _ | with_reducible assumption | with_reducible apply bel_alloc | with_reducible apply bel_drew | with_reducible apply bel_drewN | ((with_reducible refine bel_set ?_ ?_); rotate_left; (simp <;> omega)) | (with_reducible refine bel_trans ?_ (by with_reducible assumption)))))⟩
end Go.Proofs.Ytcgohceakjjlhaa
