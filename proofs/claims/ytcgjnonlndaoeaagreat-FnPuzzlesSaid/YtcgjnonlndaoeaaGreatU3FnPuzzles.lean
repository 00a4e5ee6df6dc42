/- Texts of this claim, one behind the other: part 3. -/
import Derived.Test.YtcgjnonlndaoeaaGreatU2FnPuzzles
import Derived.Lib.TrailingZeros
import Derived.Outline
import Derived.WalkLawsBesides
import Derived.WalkSpells
import Derived.BigQuiet
import Derived.Deep.QuietTactic
import Derived.Deep.RegionHeld3
import Derived.Deep.RegionWith
import Derived.Deep.DeepCutAuto
import Derived.Deep.CutBlock
import Derived.Deep.DrawnRows
import Derived.Shelf.Small.Bits
import Derived.Shelf.Strconv.Itoa0
import Derived.Shelf.Sort.Plain
import Derived.Ground.GgsProg
import Derived.Shelf.GgSortFunc.Insertion
import Derived.Shelf.GgSortFunc.Small
import Derived.Shelf.GgSortFunc.InsertionK
import Derived.Shelf.GgSortFunc.SmallK
import Derived.Shelf.GgSortFunc.Tiny
import Derived.Shelf.GgSortFunc.Compose
import Derived.Shelf.GgSortFunc.LotD
import Derived.Shelf.GgSortFunc.Pivot
import Derived.Shelf.GgSortFunc.Partition
import Derived.Shelf.GgSortFunc.Pdq
import Derived.Shelf.GgSortFunc.Whole
import Derived.Shelf.Slices.In.SortNone
import Derived.Shelf.Slices.In.SortNone2
import Derived.Shelf.SlSortFunc.Xorshift
import Derived.Shelf.SlSortFuncK.ComposeK
import Derived.Shelf.SlSortFuncK.SiftDownK
import Derived.Shelf.SlSortFuncK.HeapSortK
import Derived.Shelf.SlSortFuncK.PartialInsertionK
import Derived.Shelf.SlSortFuncK.LotDK
import Derived.Shelf.SlSortFuncK.PivotK
import Derived.Shelf.SlSortFuncK.PartitionK
import Derived.Shelf.SlSortFunc.SiftDown
import Derived.Shelf.SlSortFunc.HeapSort
import Derived.Shelf.SlSortFunc.PartialInsertion
import Derived.Shelf.SlSortFuncK.PdqK
import Derived.Shelf.SlSortFuncK.WholeK
import Derived.Test.YtcgjnonlndaoeaaGreatProg
import Derived.Lib.ReflectliteSwap
/- The cells of a region, its area, all parts of a mask: plain functions. No program is in sight. -/
namespace Go.Proofs.YtcgjnonlndaoeaaGreat
open Go.RowKit
set_option linter.unusedVariables false
/-- The cells of a region, row by row. -/
def cxTo (W : Int) (rows : List Int) (y : Nat) : Nat → List C
  | 0 => []
  | x + 1 => cxTo W rows y x ++ (if hasR W rows ((x : Int), (y : Int)) then [((x : Int), (y : Int))] else [])
def cyTo (W : Int) (rows : List Int) : Nat → List C
  | 0 => []
  | y + 1 => cyTo W rows y ++ cxTo W rows y W.toNat
def cellsC (W : Int) (rows : List Int) : List C := if isReg W rows then cyTo W rows rows.length else []
/-- The bits of a mask, from the lowest on. -/
def bitsL (mask : Nat) : Nat → List Nat
  | 0 => []
  | k + 1 => bitsL mask k ++ (if mask.testBit k then [k] else [])
theorem bitsL_lt (mask : Nat) : ∀ k, ∀ p ∈ bitsL mask k, p < k
  | 0, p, h => by simp [bitsL] at h
  | k + 1, p, h => by
    rcases List.mem_append.1 h with h1 | h1
    · have := bitsL_lt mask k p h1; omega
    · split at h1
      · simp only [List.mem_singleton] at h1; omega
      · simp at h1
theorem bitsL_len (mask : Nat) : ∀ k, (bitsL mask k).length = popN k mask
  | 0 => by simp [bitsL, popN]
  | k + 1 => by
    show (bitsL mask k ++ _).length = _
    rw [List.length_append, bitsL_len mask k]
    unfold popN
    rw [List.range_succ, List.countP_append, List.countP_singleton]
    cases mask.testBit k <;> simp
theorem bitsL_end {mask k : Nat} (h : mask < 2 ^ k) : ∀ j, bitsL mask (k + j) = bitsL mask k
  | 0 => rfl
  | j + 1 => by
    show bitsL mask (k + j) ++ (if mask.testBit (k + j) = true then [k + j] else []) = _
    have hb : mask.testBit (k + j) = false := Nat.testBit_lt_two_pow (Nat.lt_of_lt_of_le h (Nat.pow_le_pow_right (by decide) (by omega)))
    rw [hb, bitsL_end h j]
    simp
theorem popN_end {x k : Nat} (h : x < 2 ^ k) (j : Nat) : popN (k + j) x = popN k x := by rw [← bitsL_len, ← bitsL_len, bitsL_end h j]
theorem pop_at {x k : Nat} (h : x < 2 ^ k) (hk : k ≤ 64) : pop x = popN k x := by
  have := popN_end h (64 - k)
  rw [show k + (64 - k) = 64 by omega] at this
  exact this
/-- The mask's bit at a place. -/
theorem mkTo_bit {m : Nat} {rows : List Int} (h : ∀ k (hk : k < rows.length), ∃ q : Nat, rows[k] = (q : Int) ∧ q < 2 ^ m) : ∀ k, k ≤ rows.length → ∀ y x, x < m → (mkTo m rows k).testBit (y * m + x) = (decide (y < k) && (rows.getD y 0).toNat.testBit x)
  | 0, _, y, x, _ => by simp [mkTo]
  | k + 1, hk, y, x, hx => by
    obtain ⟨q, hq, hlt⟩ := h k (by omega)
    have e : (rows.getD k 0).toNat = q := by rw [List.getD_eq_getElem?_getD, List.getElem?_eq_getElem (by omega), Option.getD_some, hq]; rfl
    have hl := mkTo_lt h k (by omega)
    have e2 : mkTo m rows (k + 1) = 2 ^ (k * m) * q + mkTo m rows k := by
      show mkTo m rows k + (rows.getD k 0).toNat * 2 ^ (k * m) = _
      rw [e, Nat.mul_comm q, Nat.add_comm]
    rw [e2, Nat.testBit_two_pow_mul_add q hl]
    have ih := mkTo_bit h k (by omega) y x hx
    by_cases hy : y < k
    · have h1 : (y + 1) * m ≤ k * m := Nat.mul_le_mul_right m hy
      rw [Nat.succ_mul] at h1
      rw [if_pos (by omega), ih]
      simp [hy, show y < k + 1 by omega]
    · by_cases hyk : y = k
      · subst hyk
        rw [if_neg (by omega), show y * m + x - y * m = x by omega, e]
        simp
      · have h1 : (k + 1) * m ≤ y * m := Nat.mul_le_mul_right m (by omega)
        rw [Nat.succ_mul] at h1
        have h2 : q.testBit (y * m + x - k * m) = false := Nat.testBit_lt_two_pow (Nat.lt_of_lt_of_le hlt (Nat.pow_le_pow_right (by decide) (by omega)))
        rw [if_neg (by omega), h2]
        simp [show ¬ y < k + 1 by omega]
theorem hasR_bit {m : Nat} {rows : List Int} (h : ∀ k (hk : k < rows.length), ∃ q : Nat, rows[k] = (q : Int) ∧ q < 2 ^ m) {x y : Nat} (hx : x < m) (hy : y < rows.length) : hasR (m : Int) rows ((x : Int), (y : Int)) = (mkTo m rows rows.length).testBit (y * m + x) := by
  rw [mkTo_bit h rows.length (Nat.le_refl _) y x hx]
  unfold hasR
  simp only [Int.toNat_natCast, show (0 : Int) ≤ (x : Int) from by omega, show (0 : Int) ≤ (y : Int) from by omega, show (x : Int) < (m : Int) from by omega, show (y : Int) < ((rows.length : Nat) : Int) from by omega, decide_true, Bool.true_and, hy]
/-- The places of the cells are the mask's bits. -/
theorem cx_bits {m : Nat} {rows : List Int} (h : ∀ k (hk : k < rows.length), ∃ q : Nat, rows[k] = (q : Int) ∧ q < 2 ^ m) {y : Nat} (hy : y < rows.length) : ∀ x, x ≤ m → bitsL (mkTo m rows rows.length) (y * m) ++ (cxTo (m : Int) rows y x).map (posM m) = bitsL (mkTo m rows rows.length) (y * m + x)
  | 0, _ => by simp [cxTo]
  | x + 1, hx => by
    have ih := cx_bits h hy x (by omega)
    show _ ++ (cxTo (m : Int) rows y x ++ _).map (posM m) = bitsL _ (y * m + x) ++ _
    rw [List.map_append, ← List.append_assoc, ih, hasR_bit h (by omega) hy]
    congr 1
    cases (mkTo m rows rows.length).testBit (y * m + x) with
    | false => simp
    | true =>
      have e : posM m ((x : Int), (y : Int)) = y * m + x := by
        show ((y : Int) * (m : Int) + (x : Int)).toNat = _
        rw [show (y : Int) * (m : Int) + (x : Int) = ((y * m + x : Nat) : Int) from by simp]
        exact Int.toNat_natCast _
      simp [e]
theorem cy_bits {m : Nat} {rows : List Int} (h : ∀ k (hk : k < rows.length), ∃ q : Nat, rows[k] = (q : Int) ∧ q < 2 ^ m) : ∀ y, y ≤ rows.length → (cyTo (m : Int) rows y).map (posM m) = bitsL (mkTo m rows rows.length) (y * m)
  | 0, _ => by simp [cyTo, bitsL]
  | y + 1, hy => by
    show (cyTo (m : Int) rows y ++ cxTo (m : Int) rows y ((m : Int)).toNat).map (posM m) = _
    rw [List.map_append, cy_bits h y (by omega), Int.toNat_natCast, cx_bits h (by omega) m (Nat.le_refl _), Nat.succ_mul]
theorem cells_bits {W : Int} {rows : List Int} (h : isReg W rows = true) : (cellsC W rows).map (posM W.toNat) = bitsL (maskV W rows) 36 ∧ (cellsC W rows).length = pop (maskV W rows) := by
  obtain ⟨m, rfl, hm1, hm6, hn1, hn6, hrow⟩ := isReg_yes h
  have h36 : rows.length * m ≤ 6 * 6 := Nat.mul_le_mul hn6 hm6
  have hl := mkTo_lt hrow rows.length (Nat.le_refl _)
  have e : maskV (m : Int) rows = mkTo m rows rows.length := by unfold maskV; rw [if_pos h, Int.toNat_natCast]
  have hb := cy_bits hrow rows.length (Nat.le_refl _)
  have hend := bitsL_end hl (36 - rows.length * m)
  rw [show rows.length * m + (36 - rows.length * m) = 36 by omega] at hend
  have hc : cellsC (m : Int) rows = cyTo (m : Int) rows rows.length := by unfold cellsC; rw [if_pos h]
  rw [Int.toNat_natCast, hc, e, hb, hend]
  refine ⟨rfl, ?_⟩
  have := congrArg List.length hb
  rw [List.length_map, bitsL_len] at this
  rw [this, pop_at hl (by omega)]
theorem cells_in {W : Int} {rows : List Int} : ∀ c ∈ cellsC W rows, hasR W rows c = true := by
  intro c hc
  unfold cellsC at hc
  split at hc
  · have key : ∀ y x, c ∈ cxTo W rows y x → hasR W rows c = true := by
      intro y x
      induction x with
      | zero => intro h; simp [cxTo] at h
      | succ x ih =>
        intro h
        rcases List.mem_append.1 h with h1 | h1
        · exact ih h1
        · split at h1
          · next hh => simp only [List.mem_singleton] at h1; rw [h1]; exact hh
          · simp at h1
    have key2 : ∀ y, c ∈ cyTo W rows y → hasR W rows c = true := by
      intro y
      induction y with
      | zero => intro h; simp [cyTo] at h
      | succ y ih =>
        intro h
        rcases List.mem_append.1 h with h1 | h1
        · exact ih h1
        · exact key y _ h1
    exact key2 _ hc
  · simp at hc
/-- The sum of the rows' bits. -/
def areaTo (rows : List Int) : Nat → Nat
  | 0 => 0
  | k + 1 => areaTo rows k + pop (rows.getD k 0).toNat
theorem cx_len {m : Nat} {rows : List Int} (h : ∀ k (hk : k < rows.length), ∃ q : Nat, rows[k] = (q : Int) ∧ q < 2 ^ m) {y : Nat} (hy : y < rows.length) : ∀ x, x ≤ m → (cxTo (m : Int) rows y x).length = popN x (rows.getD y 0).toNat
  | 0, _ => by simp [cxTo, popN]
  | x + 1, hx => by
    have hb : hasR (m : Int) rows ((x : Int), (y : Int)) = (rows.getD y 0).toNat.testBit x := by
      rw [hasR_bit h (by omega) hy, mkTo_bit h _ (Nat.le_refl _) y x (by omega)]
      simp [hy]
    show (cxTo (m : Int) rows y x ++ _).length = _
    rw [List.length_append, cx_len h hy x (by omega), hb]
    unfold popN
    rw [List.range_succ, List.countP_append, List.countP_singleton]
    cases (rows.getD y 0).toNat.testBit x <;> simp
theorem area_len {m : Nat} {rows : List Int} (hm : m ≤ 6) (h : ∀ k (hk : k < rows.length), ∃ q : Nat, rows[k] = (q : Int) ∧ q < 2 ^ m) : ∀ y, y ≤ rows.length → areaTo rows y = (cyTo (m : Int) rows y).length
  | 0, _ => rfl
  | y + 1, hy => by
    show areaTo rows y + _ = (cyTo (m : Int) rows y ++ cxTo (m : Int) rows y ((m : Int)).toNat).length
    rw [List.length_append, ← area_len hm h y (by omega), Int.toNat_natCast, cx_len h (by omega) m (Nat.le_refl _)]
    obtain ⟨q, hq, hlt⟩ := h y (by omega)
    have e : (rows.getD y 0).toNat = q := by rw [List.getD_eq_getElem?_getD, List.getElem?_eq_getElem (by omega), Option.getD_some, hq]; rfl
    rw [e, pop_at hlt (by omega)]
def areaV (W : Int) (rows : List Int) : Int := if isReg W rows then ((cellsC W rows).length : Nat) else -1
/-- All parts of a mask. -/
def subL : List Nat → List Nat → List Nat
  | [], acc => acc
  | p :: t, acc => subL t (acc ++ acc.map (· ||| 2 ^ p))
def subTo (mask k : Nat) : List Nat := subL (bitsL mask k) [0]
theorem subL_snoc (p : Nat) : ∀ (l acc : List Nat), subL (l ++ [p]) acc = subL l acc ++ (subL l acc).map (· ||| 2 ^ p)
  | [], acc => rfl
  | q :: t, acc => subL_snoc p t _
theorem subTo_succ (mask k : Nat) : subTo mask (k + 1) = if mask.testBit k then subTo mask k ++ (subTo mask k).map (· ||| 2 ^ k) else subTo mask k := by
  unfold subTo
  show subL (bitsL mask k ++ _) [0] = _
  cases mask.testBit k with
  | true => rw [if_pos rfl, if_pos rfl, subL_snoc]
  | false => simp
theorem subTo_len (mask : Nat) : ∀ k, (subTo mask k).length = 2 ^ (bitsL mask k).length
  | 0 => rfl
  | k + 1 => by
    rw [subTo_succ]
    show _ = 2 ^ (bitsL mask k ++ _).length
    cases mask.testBit k with
    | true =>
      rw [if_pos rfl, if_pos rfl, List.length_append, List.length_map, subTo_len mask k, List.length_append, List.length_singleton, Nat.pow_succ]
      omega
    | false => simp [subTo_len mask k]
theorem subTo_lt (mask : Nat) : ∀ k, ∀ x ∈ subTo mask k, x < 2 ^ k
  | 0, x, h => by simp [subTo, bitsL, subL] at h; subst h; simp
  | k + 1, x, h => by
    rw [subTo_succ] at h
    have h2 : (2 : Nat) ^ k < 2 ^ (k + 1) := Nat.pow_lt_pow_right (by decide) (by omega)
    split at h
    · rcases List.mem_append.1 h with h1 | h1
      · have := subTo_lt mask k x h1; omega
      · obtain ⟨y, hy, rfl⟩ := List.mem_map.1 h1
        have := subTo_lt mask k y hy
        exact Nat.or_lt_two_pow (by omega) h2
    · have := subTo_lt mask k x h; omega
theorem subTo_end {mask k : Nat} (h : mask < 2 ^ k) (j : Nat) : subTo mask (k + j) = subTo mask k := by unfold subTo; rw [bitsL_end h j]
/-- The part that a code names, how many bits it has. -/
def mTo (ps : List Nat) (code : Nat) : Nat → Nat
  | 0 => 0
  | j + 1 => mTo ps code j + (if code.testBit j then 2 ^ ps.getD j 0 else 0)
theorem mTo_app (ps : List Nat) (p code : Nat) : ∀ j, j ≤ ps.length → mTo (ps ++ [p]) code j = mTo ps code j
  | 0, _ => rfl
  | j + 1, h => by
    show mTo (ps ++ [p]) code j + _ = mTo ps code j + _
    rw [mTo_app ps p code j (by omega), List.getD_eq_getElem?_getD, List.getElem?_append_left (by omega), ← List.getD_eq_getElem?_getD]
theorem mTo_low (ps : List Nat) (n c : Nat) : ∀ j, j ≤ n → mTo ps (2 ^ n + c) j = mTo ps c j
  | 0, _ => rfl
  | j + 1, h => by
    show mTo ps (2 ^ n + c) j + _ = mTo ps c j + _
    rw [mTo_low ps n c j (by omega)]
    have e : (2 ^ n + c).testBit j = c.testBit j := by rw [Nat.testBit_two_pow_add_gt (by omega)]
    rw [e]
theorem popN_add_bit {a p : Nat} (hb : a.testBit p = false) : ∀ n, popN n (a ||| 2 ^ p) = popN n a + (if p < n then 1 else 0)
  | 0 => by simp [popN]
  | n + 1 => by
    have ih := popN_add_bit hb n
    unfold popN at ih ⊢
    rw [List.range_succ, List.countP_append, List.countP_append, ih, List.countP_singleton, List.countP_singleton, Nat.testBit_or, Nat.testBit_two_pow]
    by_cases e : p = n
    · subst e
      simp [hb]
    · by_cases h : p < n
      · simp [e, h, show p < n + 1 by omega]; omega
      · simp [e, h, show ¬ p < n + 1 by omega]
/-- The list of all parts, read by codes. -/
theorem sub_code (mask : Nat) : ∀ k, k ≤ 36 → ∀ code, code < 2 ^ (bitsL mask k).length → (subTo mask k)[code]? = some (mTo (bitsL mask k) code (bitsL mask k).length) ∧ pop (mTo (bitsL mask k) code (bitsL mask k).length) = popN (bitsL mask k).length code
  | 0, _, code, h => by
    have : code = 0 := by simpa [bitsL] using h
    subst this
    simp [subTo, bitsL, subL, mTo, popN, pop]
  | k + 1, hk, code, h => by
    have ih := sub_code mask k (by omega)
    have hlen := subTo_len mask k
    rw [subTo_succ]
    have hbl : bitsL mask (k + 1) = bitsL mask k ++ (if mask.testBit k then [k] else []) := rfl
    rw [hbl] at h ⊢
    cases hb : mask.testBit k with
    | false =>
      rw [hb] at h
      simp only [Bool.false_eq_true, if_false, List.append_nil] at h ⊢
      exact ih code h
    | true =>
      rw [hb] at h
      simp only [if_true] at h ⊢
      generalize hps : bitsL mask k = ps at *
      rw [List.length_append, List.length_singleton] at h ⊢
      have hm1 : mTo (ps ++ [k]) code (ps.length + 1) = mTo ps code ps.length + (if code.testBit ps.length then 2 ^ k else 0) := by
        show mTo (ps ++ [k]) code ps.length + _ = _
        rw [mTo_app ps k code ps.length (Nat.le_refl _), List.getD_eq_getElem?_getD, List.getElem?_append_right (Nat.le_refl _), Nat.sub_self]
        rfl
      rw [hm1]
      have hp1 : popN (ps.length + 1) code = popN ps.length code + (if code.testBit ps.length then 1 else 0) := by
        unfold popN
        rw [List.range_succ, List.countP_append, List.countP_singleton]
      rw [hp1]
      rcases Nat.lt_or_ge code (2 ^ ps.length) with hlt | hge
      · have hbit : code.testBit ps.length = false := Nat.testBit_lt_two_pow hlt
        obtain ⟨h1, h2⟩ := ih code hlt
        rw [hbit, List.getElem?_append_left (by rw [hlen]; exact hlt), h1]
        simp only [Bool.false_eq_true, if_false, Nat.add_zero]
        exact ⟨by first | rfl | trivial, h2⟩
      · obtain ⟨c, rfl⟩ : ∃ c, code = 2 ^ ps.length + c := ⟨code - 2 ^ ps.length, by omega⟩
        have hc : c < 2 ^ ps.length := by rw [Nat.pow_succ] at h; omega
        obtain ⟨h1, h2⟩ := ih c hc
        have hbit : (2 ^ ps.length + c).testBit ps.length = true := by rw [Nat.testBit_two_pow_add_eq, Nat.testBit_lt_two_pow hc]; rfl
        have hlow := mTo_low ps ps.length c ps.length (Nat.le_refl _)
        have hpl : popN ps.length (2 ^ ps.length + c) = popN ps.length c := by
          unfold popN
          apply List.countP_congr
          intro i hi
          have : i < ps.length := by simpa using hi
          rw [Nat.testBit_two_pow_add_gt (by omega)]
        rw [hbit, hlow, hpl]
        simp only [if_true]
        have hx := subTo_lt mask k (mTo ps c ps.length) (List.mem_of_getElem? h1)
        have hxb : (mTo ps c ps.length).testBit k = false := Nat.testBit_lt_two_pow hx
        have hx62 : mTo ps c ps.length < 2 ^ 62 := Nat.lt_of_lt_of_le hx (Nat.pow_le_pow_right (by decide) (by omega))
        have hor := or_bit hx62 (show k < 62 by omega) hxb
        refine ⟨?_, ?_⟩
        · rw [List.getElem?_append_right (by rw [hlen]; omega), hlen, show 2 ^ ps.length + c - 2 ^ ps.length = c by omega, List.getElem?_map, h1, Option.map_some, hor]
        · rw [← hor]
          show popN 64 _ = _
          rw [popN_add_bit hxb 64, if_pos (by omega)]
          have h2' : popN 64 (mTo ps c ps.length) = popN ps.length c := h2
          rw [h2']
/-- The best of some masks. -/
def lsStep (L : List Int) (best m : Nat) : Nat := if pop m > pop best && scatL L m then m else best
def lsTo (L : List Int) (M : List Nat) (i : Nat) : Nat := (M.take i).foldl (lsStep L) 0
theorem lsTo_succ (L : List Int) (M : List Nat) {i : Nat} (h : i < M.length) : lsTo L M (i + 1) = lsStep L (lsTo L M i) M[i] := by
  unfold lsTo
  rw [List.take_succ_eq_append_getElem h, List.foldl_append]; rfl
theorem lsTo_in (L : List Int) (M : List Nat) (N : Nat) (hM : ∀ x ∈ M, x < 2 ^ N) : ∀ i, i ≤ M.length → lsTo L M i < 2 ^ N
  | 0, _ => Nat.pow_pos (by decide)
  | i + 1, h => by
    rw [lsTo_succ L M (by omega)]
    unfold lsStep
    split
    · exact hM _ (List.getElem_mem _)
    · exact lsTo_in L M N hM i (by omega)
def smallV (W : Int) (rows : List Int) (P : List (List C)) : Bool := (isReg W rows && pcs P) && decide (areaV W rows ≤ 12)
def lsV (W : Int) (rows : List Int) (P : List (List C)) : Nat := if smallV W rows P then lsTo (allV W rows P) (subTo (maskV W rows) 36) (subTo (maskV W rows) 36).length else 0
end Go.Proofs.YtcgjnonlndaoeaaGreat

/- Masks within masks: bits of natural numbers. No program is in sight. -/
namespace Go.Proofs.YtcgjnonlndaoeaaGreat
open Go.RowKit
set_option linter.unusedVariables false
/-- All bits of a are bits of b. -/
def inM (a b : Nat) : Bool := a &&& b == a
theorem and_sub (a b : Nat) (hb : b < 2 ^ 64) (ha : a < 2 ^ 64) : a &&& (2 ^ 64 - 1 - b) = a - (a &&& b) := by
  have h1 : (BitVec.ofNat 64 a &&& BitVec.ofNat 64 b) &&& (BitVec.ofNat 64 a &&& ~~~BitVec.ofNat 64 b) = 0#64 := by
    ext i hi
    simp only [BitVec.getElem_and, BitVec.getElem_not, BitVec.getElem_zero]
    cases (BitVec.ofNat 64 a)[i] <;> cases (BitVec.ofNat 64 b)[i] <;> rfl
  have h2 := BitVec.add_eq_or_of_and_eq_zero _ _ h1
  have h3 : (BitVec.ofNat 64 a &&& BitVec.ofNat 64 b) ||| (BitVec.ofNat 64 a &&& ~~~BitVec.ofNat 64 b) = BitVec.ofNat 64 a := by
    ext i hi
    simp only [BitVec.getElem_or, BitVec.getElem_and, BitVec.getElem_not]
    cases (BitVec.ofNat 64 a)[i] <;> cases (BitVec.ofNat 64 b)[i] <;> rfl
  rw [h3] at h2
  have h4 := congrArg BitVec.toNat h2
  have ea : (BitVec.ofNat 64 a).toNat = a := by rw [BitVec.toNat_ofNat]; exact Nat.mod_eq_of_lt ha
  have eb : (BitVec.ofNat 64 b).toNat = b := by rw [BitVec.toNat_ofNat]; exact Nat.mod_eq_of_lt hb
  rw [BitVec.toNat_add, BitVec.toNat_and, BitVec.toNat_and, BitVec.toNat_not, ea, eb] at h4
  have hl : a &&& b ≤ a := Nat.and_le_left
  have hl2 : a &&& (2 ^ 64 - 1 - b) ≤ a := Nat.and_le_left
  -- no carry: both are below 2 ^ 64, and the sum is a
  have h5 : (a &&& b) + (a &&& (2 ^ 64 - 1 - b)) < 2 ^ 64 ∨ (a &&& b) + (a &&& (2 ^ 64 - 1 - b)) = a + 2 ^ 64 := by
    by_cases hlt : (a &&& b) + (a &&& (2 ^ 64 - 1 - b)) < 2 ^ 64
    · exact .inl hlt
    · right; omega
  rcases h5 with h5 | h5
  · rw [Nat.mod_eq_of_lt h5] at h4; omega
  · omega
theorem i64_andNot (a b : Nat) (ha : a < 2 ^ 63) (hb : b < 2 ^ 63) : bits .andNot .i64 (a : Int) (b : Int) = ((a - (a &&& b) : Nat) : Int) := by
  have ea : (BitVec.ofInt 64 (a : Int)).toNat = a := by rw [BitVec.ofInt_natCast, BitVec.toNat_ofNat]; exact Nat.mod_eq_of_lt (by omega)
  have eb : (BitVec.ofInt 64 (b : Int)).toNat = b := by rw [BitVec.ofInt_natCast, BitVec.toNat_ofNat]; exact Nat.mod_eq_of_lt (by omega)
  show IntKind.i64.wrap ((BitVec.ofInt 64 (a : Int) &&& ~~~BitVec.ofInt 64 (b : Int)).toNat : Int) = _
  rw [BitVec.toNat_and, BitVec.toNat_not, ea, eb, and_sub a b (by omega) (by omega)]
  exact wraps_i64 _ (by omega) (by have : a - (a &&& b) ≤ a := Nat.sub_le _ _; omega)
theorem sub_zero_iff (a b : Nat) : (a - (a &&& b) = 0) ↔ inM a b = true := by
  have hl : a &&& b ≤ a := Nat.and_le_left
  unfold inM
  rw [beq_iff_eq]
  omega
theorem inM_lt {a b : Nat} {k : Nat} (h : inM a b = true) (hb : b < 2 ^ k) : a < 2 ^ k := by
  unfold inM at h
  rw [beq_iff_eq] at h
  rw [← h]
  exact Nat.and_lt_two_pow _ hb
end Go.Proofs.YtcgjnonlndaoeaaGreat

/- Solutions of a puzzle: plain functions. No program is in sight. -/
namespace Go.Proofs.YtcgjnonlndaoeaaGreat
open Go.RowKit
set_option linter.unusedVariables false
/-- All ways to fill the free cells with one mask of each list, in order. -/
def solA : List (List Int) → Nat → List (List Int)
  | [], free => if free = 0 then [[]] else []
  | p :: ps, free => p.flatMap fun m => if inM m.toNat free then (solA ps (free - m.toNat)).map (m :: ·) else []
/-- What one mask of the first list adds. -/
def solG (ps : List (List Int)) (free : Nat) (m : Int) : List (List Int) := if inM m.toNat free then (solA ps (free - m.toNat)).map (m :: ·) else []
theorem solA_cons (p : List Int) (ps : List (List Int)) (free : Nat) : solA (p :: ps) free = p.flatMap (solG ps free) := rfl
theorem flat_take {β : Type} (g : Int → List β) (p : List Int) (i : Nat) (h : i < p.length) : (p.take (i + 1)).flatMap g = (p.take i).flatMap g ++ g p[i] := by
  rw [List.take_succ_eq_append_getElem h, List.flatMap_append]
  simp
theorem flat_split {β : Type} (g : Int → List β) (p : List Int) (i : Nat) : p.flatMap g = (p.take i).flatMap g ++ (p.drop i).flatMap g := by rw [← List.flatMap_append, List.take_append_drop]
/-- The reference's loop: not full yet, one mask more. -/
theorem full_step {β : Type} (most : Nat) (F G : List β) (h : (F.take most).length < most) : F.take most = F ∧ F ++ G.take (most - F.length) = (F ++ G).take most := by
  have hl : F.length < most := by rw [List.length_take] at h; omega
  refine ⟨List.take_of_length_le (by omega), ?_⟩
  rw [List.take_append, List.take_of_length_le (l := F) (by omega)]
/-- Full: the rest adds nothing. -/
theorem full_end {β : Type} (most : Nat) (F G : List β) (h : ¬ (F.take most).length < most) : (F ++ G).take most = F.take most := by
  have hl : most ≤ F.length := by rw [List.length_take] at h; omega
  rw [List.take_append_of_le_length hl]
theorem sub_bit {m free : Nat} (h : inM m free = true) (hf : free < 2 ^ 62) (b : Nat) (hb : b < 62) : (free - m).testBit b = (free.testBit b && !m.testBit b) := by
  have hm : m < 2 ^ 62 := inM_lt h hf
  have h1 := and_sub free m (by omega) (by omega)
  have h2 : free &&& m = m := by unfold inM at h; rw [beq_iff_eq] at h; rw [Nat.and_comm]; exact h
  rw [h2] at h1
  rw [← h1, Nat.testBit_and, show 2 ^ 64 - 1 - m = 2 ^ 64 - (m + 1) by omega, Nat.testBit_two_pow_sub_succ (by omega), decide_eq_true (by omega), Bool.true_and]
theorem sub_in {m m' free : Nat} (h : inM m free = true) (hf : free < 2 ^ 62) (h' : inM m' (free - m) = true) : inM m' free = true := by
  unfold inM at h' ⊢
  rw [beq_iff_eq] at h' ⊢
  have hlt : free - m < 2 ^ 62 := by omega
  apply Nat.eq_of_testBit_eq
  intro b
  rw [Nat.testBit_and]
  have e := congrArg (fun z => z.testBit b) h'
  simp only [Nat.testBit_and] at e
  by_cases hb : b < 62
  · rw [sub_bit h hf b hb] at e
    revert e
    cases m'.testBit b <;> cases free.testBit b <;> simp
  · have hz : (free - m).testBit b = false := Nat.testBit_lt_two_pow (Nat.lt_of_lt_of_le hlt (Nat.pow_le_pow_right (by decide) (by omega)))
    rw [hz, Bool.and_false] at e
    rw [← e, Bool.false_and]
/-- The cells that the masks of some lists reach. -/
def reachL (free : Nat) (l : List Int) : Nat := l.foldl (fun r m => if inM m.toNat free then r ||| m.toNat else r) 0
theorem reach_bit (free : Nat) (b : Nat) : ∀ (l : List Int) (r : Nat), ((l.foldl (fun r m => if inM m.toNat free then r ||| m.toNat else r) r).testBit b = true ↔ (r.testBit b = true ∨ ∃ m ∈ l, inM m.toNat free = true ∧ m.toNat.testBit b = true))
  | [], r => by simp
  | m :: t, r => by
    rw [List.foldl_cons, reach_bit free b t]
    by_cases h : inM m.toNat free = true
    · rw [if_pos h, Nat.testBit_or, Bool.or_eq_true]
      constructor
      · rintro ((h1 | h1) | ⟨x, hx, h2⟩)
        · exact .inl h1
        · exact .inr ⟨m, by simp, h, h1⟩
        · exact .inr ⟨x, by simp [hx], h2⟩
      · rintro (h1 | ⟨x, hx, h2, h3⟩)
        · exact .inl (.inl h1)
        · rcases List.mem_cons.1 hx with rfl | hx
          · exact .inl (.inr h3)
          · exact .inr ⟨x, hx, h2, h3⟩
    · rw [if_neg h]
      constructor
      · rintro (h1 | ⟨x, hx, h2⟩)
        · exact .inl h1
        · exact .inr ⟨x, by simp [hx], h2⟩
      · rintro (h1 | ⟨x, hx, h2, h3⟩)
        · exact .inl h1
        · rcases List.mem_cons.1 hx with rfl | hx
          · exact absurd h2 h
          · exact .inr ⟨x, hx, h2, h3⟩
/-- Each free cell of a solution is in a mask that fits. -/
theorem sol_cover : ∀ (ps : List (List Int)) (free : Nat), free < 2 ^ 62 → solA ps free ≠ [] → ∀ b, free.testBit b = true → ∃ m ∈ ps.flatten, inM m.toNat free = true ∧ m.toNat.testBit b = true
  | [], free, hf, h, b, hb => by
    unfold solA at h
    split at h
    · next h0 => rw [h0] at hb; simp at hb
    · exact absurd rfl h
  | p :: ps, free, hf, h, b, hb => by
    rw [solA_cons] at h
    have h2 : ∃ m ∈ p, solG ps free m ≠ [] := by
      apply Classical.byContradiction
      intro hn
      apply h
      rw [List.flatMap_eq_nil_iff]
      intro m hm
      apply Classical.byContradiction
      intro h3
      exact hn ⟨m, hm, h3⟩
    obtain ⟨m, hm, hg⟩ := h2
    unfold solG at hg
    split at hg
    · next hi =>
      by_cases hmb : m.toNat.testBit b = true
      · exact ⟨m, by simp [hm], hi, hmb⟩
      · have hb62 : b < 62 := by
          apply Classical.byContradiction
          intro hn
          have := Nat.testBit_lt_two_pow (Nat.lt_of_lt_of_le hf (Nat.pow_le_pow_right (show 0 < 2 by decide) (show 62 ≤ b by omega)))
          rw [this] at hb
          cases hb
        have hs : solA ps (free - m.toNat) ≠ [] := fun e => hg (by rw [e]; rfl)
        have hfb : (free - m.toNat).testBit b = true := by rw [sub_bit hi hf b hb62, hb]; simpa using hmb
        obtain ⟨x, hx, h4, h5⟩ := sol_cover ps (free - m.toNat) (by omega) hs b hfb
        exact ⟨x, by rw [List.flatten_cons]; exact List.mem_append_right _ hx, sub_in hi hf h4, h5⟩
    · exact absurd rfl hg
/-- Where the masks that fit do not reach all free cells, there is no solution. -/
theorem prune {ps : List (List Int)} {free : Nat} (hf : free < 2 ^ 62) (h : reachL free ps.flatten ≠ free) : solA ps free = [] := by
  apply Classical.byContradiction
  intro hs
  apply h
  apply Nat.eq_of_testBit_eq
  intro b
  have h1 := reach_bit free b ps.flatten 0
  have h2 : (reachL free ps.flatten).testBit b = true ↔ ∃ m ∈ ps.flatten, inM m.toNat free = true ∧ m.toNat.testBit b = true := by
    unfold reachL
    rw [h1]
    simp
  cases hb : free.testBit b with
  | true => exact h2.2 (sol_cover ps free hf hs b hb)
  | false =>
    cases hr : (reachL free ps.flatten).testBit b with
    | false => rfl
    | true =>
      obtain ⟨m, _, h4, h5⟩ := h2.1 hr
      unfold inM at h4
      rw [beq_iff_eq] at h4
      have := congrArg (fun z => z.testBit b) h4
      simp only [Nat.testBit_and] at this
      rw [hb, h5] at this
      simp at this
/-- A hint picks one placement. -/
def hintP (h : Int) (p : List Int) : List Int := if 0 ≤ h then p.filter (· == h) else p
end Go.Proofs.YtcgjnonlndaoeaaGreat

/- Coverings with fewest masks: the program's search and the reference's come to one list. No program is in sight. -/
namespace Go.Proofs.YtcgjnonlndaoeaaGreat
open Go.RowKit
set_option linter.unusedVariables false
/-- The masks that have a bit. -/
def bitL (k : Nat) (L : List Int) : List Int := L.filter fun m => m.toNat.testBit k
theorem bitL_snoc (k : Nat) (L : List Int) (m : Int) : bitL k (L ++ [m]) = if m.toNat.testBit k then bitL k L ++ [m] else bitL k L := by
  unfold bitL
  rw [List.filter_append]
  cases h : m.toNat.testBit k <;> simp [h]
theorem bitL_msk {N k : Nat} {L : List Int} (h : Msk N L) : Msk N (bitL k L) := fun x hx => h x (List.mem_filter.1 hx).1
theorem bitL_len (k : Nat) (L : List Int) : (bitL k L).length ≤ L.length := List.length_filter_le _ _
/-- The place of the least bit. -/
def lowN (m : Nat) : Nat := Lib.ctz 64 m
theorem lowN_bit {m : Nat} (h0 : m ≠ 0) (h : m < 2 ^ 64) : m.testBit (lowN m) = true ∧ lowN m < 64 := by
  obtain ⟨h1, h2⟩ := Lib.lowest_bit 64 m h0 h
  refine ⟨?_, h2⟩
  have h3 : (m &&& (2 ^ 64 - m)).testBit (lowN m) = true := by rw [h1]; exact Nat.testBit_two_pow_self
  rw [Nat.testBit_and] at h3
  simp only [Bool.and_eq_true] at h3
  exact h3.1
theorem lowN_below {m : Nat} (h0 : m ≠ 0) (h : m < 2 ^ 64) {j : Nat} (hj : j < lowN m) : m.testBit j = false := by
  have key : ∀ (f x : Nat), 0 < x → ∀ j, j < Lib.ctzFrom f x → x.testBit j = false := by
    intro f
    induction f with
    | zero => intro x _ j hj; simp [Lib.ctzFrom] at hj
    | succ f ih =>
      intro x hx j hj
      unfold Lib.ctzFrom at hj
      split at hj
      · omega
      · cases j with
        | zero => rw [Nat.testBit_zero]; simp; omega
        | succ j => rw [Nat.testBit_succ]; exact ih _ (by omega) j (by omega)
  refine key 64 m (by omega) j ?_
  have : lowN m = Lib.ctzFrom 64 m := by unfold lowN Lib.ctz; rw [if_neg h0]
  omega
/-- The first path of masks that covers what is left, at most n of them. -/
def covP (L : List Int) : Nat → Nat → Option (List Int)
  | 0, free => if free = 0 then some [] else none
  | n + 1, free => if free = 0 then some [] else (bitL (lowN free) L).findSome? fun m => (covP L n (free - (free &&& m.toNat))).map (m :: ·)
theorem covP_zero (L : List Int) (n : Nat) : covP L n 0 = some [] := by cases n <;> simp [covP]
theorem covP_none (L : List Int) {free : Nat} (h : free ≠ 0) : covP L 0 free = none := by simp [covP, h]
theorem covP_succ (L : List Int) (n : Nat) {free : Nat} (h : free ≠ 0) : covP L (n + 1) free = (bitL (lowN free) L).findSome? fun m => (covP L n (free - (free &&& m.toNat))).map (m :: ·) := by simp [covP, h]
theorem sub_and_bit {a b : Nat} (ha : a < 2 ^ 62) (k : Nat) : (a - (a &&& b)).testBit k = (a.testBit k && !b.testBit k) := by
  have hl : a &&& b < 2 ^ 62 := Nat.lt_of_le_of_lt Nat.and_le_left ha
  have hi : inM (a &&& b) a = true := by
    unfold inM
    rw [beq_iff_eq, Nat.and_assoc, Nat.and_comm b a, ← Nat.and_assoc, Nat.and_self]
  by_cases hk : k < 62
  · rw [sub_bit hi ha k hk, Nat.testBit_and]
    cases a.testBit k <;> cases b.testBit k <;> rfl
  · have h1 : a.testBit k = false := Nat.testBit_lt_two_pow (Nat.lt_of_lt_of_le ha (Nat.pow_le_pow_right (by decide) (by omega)))
    rw [h1, Nat.testBit_lt_two_pow (Nat.lt_of_lt_of_le (by omega : a - (a &&& b) < 2 ^ 62) (Nat.pow_le_pow_right (by decide) (by omega)))]
    rfl
theorem covP_spec {L : List Int} : ∀ {n free : Nat} {p : List Int}, free < 2 ^ 62 → covP L n free = some p → p.length ≤ n ∧ (∀ m ∈ p, m ∈ L) ∧ ∀ b, free.testBit b = true → ∃ m ∈ p, m.toNat.testBit b = true
  | 0, free, p, hf, h => by
    by_cases h0 : free = 0
    · subst h0
      simp [covP] at h
      subst h
      exact ⟨Nat.le_refl _, by simp, fun b hb => by simp at hb⟩
    · rw [covP_none L h0] at h; cases h
  | n + 1, free, p, hf, h => by
    by_cases h0 : free = 0
    · subst h0
      rw [covP_zero] at h
      injection h with h
      subst h
      exact ⟨Nat.zero_le _, by simp, fun b hb => by simp at hb⟩
    · rw [covP_succ L n h0] at h
      obtain ⟨m, hm, h2⟩ := List.exists_of_findSome?_eq_some h
      rw [Option.map_eq_some_iff] at h2
      obtain ⟨q, hq, rfl⟩ := h2
      have h3 : free - (free &&& m.toNat) < 2 ^ 62 := by omega
      obtain ⟨k1, k2, k3⟩ := covP_spec h3 hq
      refine ⟨by simp; exact k1, fun x hx => ?_, fun b hb => ?_⟩
      · rcases List.mem_cons.1 hx with rfl | hx
        · exact (List.mem_filter.1 hm).1
        · exact k2 x hx
      · by_cases hmb : m.toNat.testBit b = true
        · exact ⟨m, List.mem_cons_self .., hmb⟩
        · obtain ⟨y, hy, hyb⟩ := k3 b (by rw [sub_and_bit hf, hb]; simp [hmb])
          exact ⟨y, List.mem_cons_of_mem _ hy, hyb⟩
/-- All bits of some masks. -/
def orL (L : List Int) (k : Nat) : Nat := (L.take k).foldl (fun r m => r ||| m.toNat) 0
theorem orL_succ (L : List Int) {k : Nat} (h : k < L.length) : orL L (k + 1) = orL L k ||| L[k].toNat := by
  unfold orL
  rw [List.take_succ_eq_append_getElem h, List.foldl_append]; rfl
theorem orL_lt {N : Nat} {L : List Int} (h : Msk N L) : ∀ k, k ≤ L.length → orL L k < 2 ^ N
  | 0, _ => Nat.pow_pos (by decide)
  | k + 1, hk => by
    rw [orL_succ L (by omega)]
    obtain ⟨q, hq, hlt⟩ := h _ (List.getElem_mem (by omega : k < L.length))
    rw [hq]
    exact Nat.or_lt_two_pow (orL_lt h k (by omega)) hlt
theorem orL_bit (L : List Int) (b : Nat) : ∀ k, k ≤ L.length → ((orL L k).testBit b = true ↔ ∃ m ∈ L.take k, m.toNat.testBit b = true)
  | 0, _ => by simp [orL]
  | k + 1, hk => by
    rw [orL_succ L (by omega), Nat.testBit_or, Bool.or_eq_true, orL_bit L b k (by omega), List.take_succ_eq_append_getElem (by omega)]
    constructor
    · rintro (⟨m, hm, h⟩ | h)
      · exact ⟨m, List.mem_append.2 (.inl hm), h⟩
      · exact ⟨_, List.mem_append.2 (.inr (List.mem_singleton.2 rfl)), h⟩
    · rintro ⟨m, hm, h⟩
      rcases List.mem_append.1 hm with hm | hm
      · exact .inl ⟨m, hm, h⟩
      · rw [List.mem_singleton] at hm
        subst hm
        exact .inr h
/-- What is reached is all, if there is a covering. -/
theorem cov_reach {L : List Int} {n M : Nat} {p : List Int} (hM : M < 2 ^ 62) (hin : ∀ m ∈ L, ∀ b, m.toNat.testBit b = true → M.testBit b = true) (h : covP L n M = some p) : orL L L.length = M := by
  obtain ⟨_, h2, h3⟩ := covP_spec hM h
  apply Nat.eq_of_testBit_eq
  intro b
  rw [Bool.eq_iff_iff, orL_bit L b _ (Nat.le_refl _), List.take_length]
  constructor
  · rintro ⟨m, hm, hb⟩
    exact hin m hm b hb
  · intro hb
    obtain ⟨m, hm, hmb⟩ := h3 b hb
    exact ⟨m, h2 m hm, hmb⟩
/-- What the reference puts together on its way back. -/
def putP (p : List Int) : List Int := p.foldr (fun m acc => putI acc m) []
theorem putP_inc : ∀ p : List Int, Inc (putP p) ∧ ∀ x, x ∈ putP p ↔ x ∈ p
  | [] => ⟨List.Pairwise.nil, fun x => by simp [putP]⟩
  | m :: t => by
    obtain ⟨h1, h2⟩ := putP_inc t
    obtain ⟨h3, h4⟩ := putI_inc h1 m
    refine ⟨h3, fun x => ?_⟩
    show x ∈ putI (putP t) m ↔ _
    rw [h4, h2, List.mem_cons]
    exact Or.comm
theorem putP_eq (p : List Int) : putP p = ord p := by
  rw [ord_eq]
  obtain ⟨h1, h2⟩ := putP_inc p
  obtain ⟨h3, h4⟩ := foldl_inc p [] List.Pairwise.nil
  exact inc_eq _ _ h1 h3 fun x => by rw [h2]; show _ ↔ x ∈ p.foldl putI []; rw [h4]; simp
theorem putP_len (p : List Int) : (putP p).length ≤ p.length := by rw [putP_eq]; exact ord_len p
/-- The first n of a row with a covering. -/
def fewTo (L : List Int) (M : Nat) : Nat → Option (List Int)
  | 0 => none
  | n + 1 => match fewTo L M n with
    | some p => some p
    | none => covP L n M
theorem fewTo_none {L : List Int} {M : Nat} : ∀ {n : Nat}, (∀ k, k < n → covP L k M = none) → fewTo L M n = none
  | 0, _ => rfl
  | n + 1, h => by unfold fewTo; rw [fewTo_none fun k hk => h k (by omega)]; exact h n (by omega)
theorem fewTo_some {L : List Int} {M k : Nat} {p : List Int} (h1 : fewTo L M k = none) (h2 : covP L k M = some p) : ∀ n, k < n → fewTo L M n = some p
  | 0, h => by omega
  | n + 1, h => by
    by_cases e : n = k
    · subst e; unfold fewTo; rw [h1]; exact h2
    · unfold fewTo; rw [fewTo_some h1 h2 n (by omega)]
/-- Each placement lies within the region. -/
theorem mcV_in {m : Nat} {rows : List Int} (hR : ∀ k (hk : k < rows.length), ∃ q : Nat, rows[k] = (q : Int) ∧ q < 2 ^ m) : ∀ (l : List C) (n v : Nat), (∀ b, n.testBit b = true → (mkTo m rows rows.length).testBit b = true) → n < 2 ^ 62 → m ≤ 6 → rows.length ≤ 6 → mcV (m : Int) rows l n = some v → ∀ b, v.testBit b = true → (mkTo m rows rows.length).testBit b = true
  | [], n, v, hn, _, _, _, h => by
    simp only [mcV, Option.some.injEq] at h
    subst h; exact hn
  | c :: t, n, v, hn, h62, hm, hl, h => by
    by_cases hc : (hasR (m : Int) rows c && !n.testBit (posM ((m : Int)).toNat c)) = true
    · rw [mcV_yes hc] at h
      simp only [Bool.and_eq_true, Bool.not_eq_true'] at hc
      obtain ⟨h1, h2⟩ := hc
      obtain ⟨x, y, rfl, hx, hy, hp, hlt⟩ := hasR_pos h1
      rw [Int.toNat_natCast, hp] at h h2
      have h36 : y * m + x < 36 := Nat.lt_of_lt_of_le hlt (Nat.mul_le_mul hm hl)
      have hor := or_bit h62 (by omega : y * m + x < 62) h2
      rw [← hor] at h
      refine mcV_in hR t _ v (fun b hb => ?_) (Nat.or_lt_two_pow h62 (Nat.pow_lt_pow_right (by decide) (by omega))) hm hl h
      rw [Nat.testBit_or, Bool.or_eq_true] at hb
      rcases hb with hb | hb
      · exact hn b hb
      · rw [Nat.testBit_two_pow] at hb
        simp only [decide_eq_true_eq] at hb
        subst hb
        have := hasR_bit hR hx hy
        rw [h1] at this
        exact this.symm
    · rw [mcV_no (by simpa using hc)] at h; cases h
theorem allV_in {W : Int} {rows : List Int} {P : List (List C)} (hv : isReg W rows = true) : ∀ x ∈ allV W rows P, ∀ b, x.toNat.testBit b = true → (maskV W rows).testBit b = true := by
  obtain ⟨m, rfl, h1, h2, h3, h4, hR⟩ := isReg_yes hv
  have hM : maskV (m : Int) rows = mkTo m rows rows.length := by unfold maskV; rw [if_pos hv, Int.toNat_natCast]
  have hopt : ∀ (o : Option Nat), (∀ v, o = some v → ∀ b, v.testBit b = true → (maskV (m : Int) rows).testBit b = true) → ∀ x ∈ optL o, ∀ b, x.toNat.testBit b = true → (maskV (m : Int) rows).testBit b = true := by
    intro o h x hx b hb
    cases o with
    | none => simp [optL] at hx
    | some v =>
      simp only [optL, List.mem_singleton] at hx
      subst hx
      exact h v rfl b (by simpa using hb)
  have hat : ∀ t y x, ∀ z ∈ plAt (m : Int) rows t y x, ∀ b, z.toNat.testBit b = true → (maskV (m : Int) rows).testBit b = true := fun t y x => hopt _ fun v hv2 b hb => by
    rw [hM]
    exact mcV_in hR _ 0 v (by simp) (by decide) h2 h4 hv2 b hb
  have hrx : ∀ t y k, ∀ z ∈ rowX (m : Int) rows t y k, ∀ b, z.toNat.testBit b = true → (maskV (m : Int) rows).testBit b = true := by
    intro t y k
    induction k with
    | zero => intro z hz; simp [rowX] at hz
    | succ k ih =>
      intro z hz
      rcases List.mem_append.1 hz with hz | hz
      · exact ih z hz
      · exact hat _ _ _ z hz
  have hry : ∀ t k, ∀ z ∈ rowY (m : Int) rows t k, ∀ b, z.toNat.testBit b = true → (maskV (m : Int) rows).testBit b = true := by
    intro t k
    induction k with
    | zero => intro z hz; simp [rowY] at hz
    | succ k ih =>
      intro z hz
      rcases List.mem_append.1 hz with hz | hz
      · exact ih z hz
      · exact hrx _ _ _ z hz
  have hraw : ∀ F k, ∀ z ∈ rawTo (m : Int) rows F k, ∀ b, z.toNat.testBit b = true → (maskV (m : Int) rows).testBit b = true := by
    intro F k
    induction k with
    | zero => intro z hz; simp [rawTo] at hz
    | succ k ih =>
      intro z hz
      rcases List.mem_append.1 hz with hz | hz
      · exact ih z hz
      · exact hry _ _ z hz
  have hpl : ∀ s, ∀ z ∈ plV (m : Int) rows s, ∀ b, z.toNat.testBit b = true → (maskV (m : Int) rows).testBit b = true := by
    intro s z hz
    unfold plV at hz
    rw [if_pos hv, putAll_mem] at hz
    exact hraw _ _ z hz
  have hcat : ∀ k, ∀ z ∈ catTo (m : Int) rows P k, ∀ b, z.toNat.testBit b = true → (maskV (m : Int) rows).testBit b = true := by
    intro k
    induction k with
    | zero => intro z hz; simp [catTo] at hz
    | succ k ih =>
      intro z hz
      rcases List.mem_append.1 hz with hz | hz
      · exact ih z hz
      · exact hpl _ z hz
  intro x hx
  unfold allV at hx
  rw [putAll_mem] at hx
  exact hcat _ x hx
/-- The answer. -/
def fewcV (W : Int) (rows : List Int) (P : List (List C)) : Option (List Int) := if smallV W rows P then fewTo (allV W rows P) (maskV W rows) ((areaV W rows).toNat + 1) else none
theorem fewTo_len {L : List Int} {M : Nat} (hM : M < 2 ^ 62) : ∀ {n : Nat} {p : List Int}, fewTo L M n = some p → p.length < n
  | 0, p, h => by cases h
  | n + 1, p, h => by
    unfold fewTo at h
    cases hq : fewTo L M n with
    | some q =>
      rw [hq] at h
      injection h with h
      subst h
      have := fewTo_len hM hq
      omega
    | none =>
      rw [hq] at h
      have := (covP_spec hM h).1
      omega
end Go.Proofs.YtcgjnonlndaoeaaGreat

/- Tilings: all ways to fill free cells with masks of a list, the least cell first. No program is in sight. -/
namespace Go.Proofs.YtcgjnonlndaoeaaGreat
open Go.RowKit
set_option linter.unusedVariables false
/-- All ways, in order; the first number only bounds the depth. -/
def tilF (L : List Int) : Nat → Nat → List (List Int)
  | 0, free => if free = 0 then [[]] else []
  | n + 1, free => if free = 0 then [[]] else (bitL (lowN free) L).flatMap fun m => if inM m.toNat free then (tilF L n (free - m.toNat)).map (m :: ·) else []
theorem tilF_zero (L : List Int) (n : Nat) : tilF L n 0 = [[]] := by cases n <;> simp [tilF]
theorem tilF_succ (L : List Int) (n : Nat) {free : Nat} (h : free ≠ 0) : tilF L (n + 1) free = (bitL (lowN free) L).flatMap fun m => if inM m.toNat free then (tilF L n (free - m.toNat)).map (m :: ·) else [] := by
  show (if free = 0 then [[]] else _) = _
  rw [if_neg h]
theorem inM_le {m free : Nat} (h : inM m free = true) : m ≤ free := by
  unfold inM at h
  rw [beq_iff_eq] at h
  rw [← h]
  exact Nat.and_le_right
theorem bit_pos {m k : Nat} (h : m.testBit k = true) : 1 ≤ m := by
  rcases Nat.eq_zero_or_pos m with rfl | h0
  · simp at h
  · exact h0
theorem bitL_pos {L : List Int} {k : Nat} {m : Int} (h : m ∈ bitL k L) : 1 ≤ m.toNat := bit_pos (List.mem_filter.1 h).2
theorem tilF_fuel (L : List Int) : ∀ (n k free : Nat), free ≤ n → free ≤ k → tilF L n free = tilF L k free
  | 0, k, free, h1, h2 => by
    obtain rfl : free = 0 := by omega
    rw [tilF_zero, tilF_zero]
  | n + 1, 0, free, h1, h2 => by
    obtain rfl : free = 0 := by omega
    rw [tilF_zero, tilF_zero]
  | n + 1, k + 1, free, h1, h2 => by
    by_cases h0 : free = 0
    · subst h0; rw [tilF_zero, tilF_zero]
    · rw [tilF_succ L n h0, tilF_succ L k h0]
      have key : ∀ (M : List Int), (∀ m ∈ M, 1 ≤ m.toNat) → (M.flatMap fun m => if inM m.toNat free then (tilF L n (free - m.toNat)).map (m :: ·) else []) = M.flatMap fun m => if inM m.toNat free then (tilF L k (free - m.toNat)).map (m :: ·) else [] := by
        intro M
        induction M with
        | nil => intro _; rfl
        | cons m t ih =>
          intro h
          rw [List.flatMap_cons, List.flatMap_cons, ih fun x hx => h x (List.mem_cons_of_mem _ hx)]
          have h3 := h m (List.mem_cons_self ..)
          congr 1
          by_cases hi : inM m.toNat free = true
          · have := inM_le hi
            rw [if_pos hi, if_pos hi, tilF_fuel L n k (free - m.toNat) (by omega) (by omega)]
          · rw [if_neg hi, if_neg hi]
      exact key _ fun m hm => bitL_pos hm
/-- All tilings. -/
def tilV (L : List Int) (free : Nat) : List (List Int) := tilF L free free
/-- Those that begin with one mask. -/
def tilG (L : List Int) (free : Nat) (m : Int) : List (List Int) := if inM m.toNat free then (tilV L (free - m.toNat)).map (m :: ·) else []
theorem tilV_zero (L : List Int) : tilV L 0 = [[]] := rfl
theorem tilV_pos (L : List Int) {free : Nat} (h : free ≠ 0) : tilV L free = (bitL (lowN free) L).flatMap (tilG L free) := by
  obtain ⟨n, rfl⟩ : ∃ n, free = n + 1 := ⟨free - 1, by omega⟩
  unfold tilV
  rw [tilF_succ L n h]
  have key : ∀ (M : List Int), (∀ m ∈ M, 1 ≤ m.toNat) → (M.flatMap fun m => if inM m.toNat (n + 1) then (tilF L n (n + 1 - m.toNat)).map (m :: ·) else []) = M.flatMap (tilG L (n + 1)) := by
    intro M
    induction M with
    | nil => intro _; rfl
    | cons m t ih =>
      intro h
      rw [List.flatMap_cons, List.flatMap_cons, ih fun x hx => h x (List.mem_cons_of_mem _ hx)]
      have h3 := h m (List.mem_cons_self ..)
      congr 1
      unfold tilG tilV
      by_cases hi : inM m.toNat (n + 1) = true
      · have := inM_le hi
        rw [if_pos hi, if_pos hi, tilF_fuel L n (n + 1 - m.toNat) (n + 1 - m.toNat) (by omega) (Nat.le_refl _)]
      · rw [if_neg hi, if_neg hi]
  exact key _ fun m hm => bitL_pos hm
theorem tilG_no {L : List Int} {free : Nat} {m : Int} (h : inM m.toNat free = false) : tilG L free m = [] := by
  unfold tilG
  rw [h]
  rfl
theorem tilG_yes {L : List Int} {free : Nat} {m : Int} (h : inM m.toNat free = true) : tilG L free m = (tilV L (free - m.toNat)).map (m :: ·) := by
  unfold tilG
  rw [if_pos h]
/-- What the reference adds for one mask of the whole list. -/
def tilH (L : List Int) (free : Nat) (m : Int) : List (List Int) := if m.toNat.testBit (lowN free) then tilG L free m else []
theorem tilH_flat (L : List Int) (free : Nat) : ∀ M : List Int, (bitL (lowN free) M).flatMap (tilG L free) = M.flatMap (tilH L free)
  | [] => rfl
  | m :: t => by
    have ih := tilH_flat L free t
    unfold bitL at ih ⊢
    rw [List.filter_cons, List.flatMap_cons]
    unfold tilH
    by_cases h : m.toNat.testBit (lowN free) = true
    · rw [if_pos h, if_pos h, List.flatMap_cons, ih]
      rfl
    · rw [if_neg h, if_neg h, ih]
      rfl
theorem tilV_H (L : List Int) {free : Nat} (h : free ≠ 0) : tilV L free = L.flatMap (tilH L free) := by rw [tilV_pos L h, tilH_flat]
/-- Each takes at least one cell away: no tiling is longer than the cells. -/
theorem til_len_aux (L : List Int) (n : Nat) (h62 : n ≤ 62) : ∀ (k free : Nat), free < 2 ^ n → (∀ j, j < n - k → free.testBit j = false) → k ≤ n → ∀ x ∈ tilV L free, x.length ≤ k
  | 0, free, hf, hj, _, x, hx => by
    obtain rfl : free = 0 := by
      apply Nat.eq_of_testBit_eq
      intro i
      rw [Nat.zero_testBit]
      by_cases hi : i < n
      · exact hj i (by omega)
      · exact Nat.testBit_lt_two_pow (Nat.lt_of_lt_of_le hf (Nat.pow_le_pow_right (by decide) (by omega)))
    rw [tilV_zero, List.mem_singleton] at hx
    subst hx
    exact Nat.le_refl _
  | k + 1, free, hf, hj, hk, x, hx => by
    by_cases h0 : free = 0
    · subst h0
      rw [tilV_zero, List.mem_singleton] at hx
      subst hx
      exact Nat.zero_le _
    · rw [tilV_pos L h0, List.mem_flatMap] at hx
      obtain ⟨m, hm, hx⟩ := hx
      have hp62 : 2 ^ n ≤ 2 ^ 62 := Nat.pow_le_pow_right (by decide) h62
      obtain ⟨hb, hl⟩ := lowN_bit h0 (by omega : free < 2 ^ 64)
      have hmb : m.toNat.testBit (lowN free) = true := (List.mem_filter.1 hm).2
      by_cases hi : inM m.toNat free = true
      · rw [tilG_yes hi, List.mem_map] at hx
        obtain ⟨y, hy, rfl⟩ := hx
        have hlow : n - (k + 1) ≤ lowN free := by
          rcases Nat.lt_or_ge (lowN free) (n - (k + 1)) with h | h
          · rw [hj _ h] at hb; cases hb
          · exact h
        have := til_len_aux L n h62 k (free - m.toNat) (by omega) (fun j hjk => by
          have h62j : j < 62 := by omega
          rw [sub_bit hi (by omega) j h62j]
          by_cases hjl : j < lowN free
          · rw [lowN_below h0 (by omega) hjl]; rfl
          · have : j = lowN free := by omega
            rw [this, hmb]; simp) (by omega) y hy
        simp only [List.length_cons]
        omega
      · rw [tilG_no (by simpa using hi)] at hx
        cases hx
theorem til_len (L : List Int) {n free : Nat} (h62 : n ≤ 62) (hf : free < 2 ^ n) : ∀ x ∈ tilV L free, x.length ≤ n := til_len_aux L n h62 n free hf (fun j hj => by omega) (Nat.le_refl _)
/-- The first ones. -/
def tilN (L : List Int) (free most : Nat) : List (List Int) := (tilV L free).take most
end Go.Proofs.YtcgjnonlndaoeaaGreat

/- Tilings: the reference's inner loop, which writes the ways behind one mask. -/
namespace Go.Proofs.YtcgjnonlndaoeaaGreat
open Go.RowKit
set_option linter.unusedVariables false
attribute [local go_sem ↓] Go.wp_at_zero Go.wp_at_succ

section
variable {ops : Array Oper} {o : Oper} {a : Act} {w : World} {K : Act → World → Prop} {Q : Exit → Act → World → Prop} {E : Prop}
/-- An append of a list as one step of a region that draws. -/
theorem step_appS (hg : o.guard = none) (s x : Operand) (ho : o.op = .call { callee := .builtin .append, args := #[s, x], argTypes := #[30, 30] })
    (base : Nat) (A : Option Addr) (n c : Nat) (l : List H) (hs : a.eval s = .slice A n c) (hown : w.ownsRow base 24 1 (.slice A n c) n (vS l))
    (A2 : Option Addr) (m c2 : Nat) (l2 : List H) (hx : a.eval x = .slice A2 m c2) (hr : Rd w A2 (vS l2)) (hl : l2.length = m) (hb : n + m ≤ 1099511627776) (hbase : base ≤ w.heap.size)
    (h : ∀ A' c' w', w'.ownsRow base 24 1 (.slice A' (n + m) c') (n + m) (vS (l ++ l2)) → w.grownBy w' (ob A) → (ob A' = ob A ∨ ob A' = some w.heap.size) → K (a.put o.dst (.slice A' (n + m) c')) w') :
    if Region.wanted o (yielded ops a.tmps) = true then Oper.wp Tryz.prog o a w K Q else E := by
  rw [if_pos (by simp [Region.wanted, hg])]
  obtain ⟨i0, hi, hz0, hz1, hz2⟩ := info_parts infoS
  refine wp_app w s x _ ho base _ i0 _ 1 24 Tryz.underlying30 hi hz0 hz1 hz2 rfl (by omega) A n c _ hs hown A2 m c2 _ hx hr (by rw [vS_length, hl]; omega) (vS_one _) (by unfold maxLen; omega) (by omega) hbase ?_
  intro A' c' w' h1
  rw [← vS_append] at h1
  exact h A' c' w' h1
end
noncomputable def til8In : Code := ((Tryz.f92.body.map loopsIn).getD []).getD 1 .skip
set_option maxRecDepth 100000 in
set_option maxHeartbeats 3200000 in
theorem l8Inner {Q : Exit → Act → World → Prop} {s1 s2 s3 s4 s5 s6 s8 s12 s13 s14 s15 s16 s17 s18 s19 s20 s21 s22 s23 s24 s25 s26 s27 s28 s29 s30 s31 s32 s33 s34 s35 s36 s37 s38 s39 s40 s41 s42 s43 s44 s45 s46 s47 s48 s49 s50 s51 s52 s53 s54 s55 s56 s57 s58 s59 s60 s61 s62 s63 s64 s65 s66 s67 s68 s69 s70 s71 s72 s73 s74 s75 s76 s77 s78 s79 s80 s81 s82 s83 : Value} {y u cu q cq qa ca i base lo : Nat} {D E AL : Option Addr} {ho hE : List H} {Fi R : List (List Int)} {L : List Int} {w2 : World}
    (hA : Rd w2 AL (vI L)) (hLq : L.length = qa) (hi : i < qa) (hq5 : qa ≤ 1048576) (hLi : L[i]? = some (y : Int))
    (hO : Own2 base w2 D q cq ho Fi) (hR : Rd2I w2 E u hE R) (hRL : ∀ x ∈ R, x.length ≤ 1000) (hu : u ≤ 1000) (hq : q ≤ 1000) (hbase : base ≤ w2.heap.size)
    (hDB : ∀ g, ob D = some g → g < lo) (hEB : ∀ g, ob E = some g → lo ≤ g ∧ g < w2.heap.size) (hEX : ∀ x ∈ hE, ∀ g, ob x.1 = some g → lo ≤ g ∧ g < w2.heap.size) (hAB : ∀ g, ob AL = some g → g < base)
    (hexit : ∀ (v64 v65 v66 v67 v68 v69 v70 v71 v72 v73 v74 v75 v76 v77 v78 v79 v80 v81 v82 : Value) (D3 : Option Addr) (cq3 : Nat) (ho3 : List H) (w3 : World), Own2 base w3 D3 (q + u) cq3 ho3 (Fi ++ R.map ((y : Int) :: ·)) → Below base w2 w3 → Q (.exit 2) ⟨List.toArray ((.slice AL qa ca) :: s1 :: s2 :: s3 :: s4 :: s5 :: s6 :: (.slice D3 (q + u) cq3) :: s8 :: (.int .i64 (i : Int)) :: (.slice E u cu) :: (.int .i64 (u : Int)) :: s12 :: s13 :: s14 :: s15 :: s16 :: s17 :: s18 :: s19 :: s20 :: s21 :: s22 :: s23 :: s24 :: s25 :: s26 :: s27 :: s28 :: s29 :: s30 :: s31 :: s32 :: s33 :: s34 :: s35 :: s36 :: s37 :: s38 :: s39 :: s40 :: s41 :: s42 :: s43 :: s44 :: s45 :: s46 :: s47 :: s48 :: s49 :: s50 :: s51 :: s52 :: s53 :: s54 :: s55 :: s56 :: s57 :: s58 :: s59 :: s60 :: s61 :: s62 :: s63 :: v64 :: v65 :: v66 :: v67 :: v68 :: v69 :: v70 :: v71 :: v72 :: v73 :: v74 :: v75 :: v76 :: v77 :: v78 :: v79 :: v80 :: v81 :: v82 :: s83 :: []), []⟩ w3) :
    Code.wp Tryz.prog (Code.loop til8In) Q ⟨List.toArray ((.slice AL qa ca) :: s1 :: s2 :: s3 :: s4 :: s5 :: s6 :: (.slice D q cq) :: s8 :: (.int .i64 (i : Int)) :: (.slice E u cu) :: (.int .i64 0) :: s12 :: s13 :: s14 :: s15 :: s16 :: s17 :: s18 :: s19 :: s20 :: s21 :: s22 :: s23 :: s24 :: s25 :: s26 :: s27 :: s28 :: s29 :: s30 :: s31 :: s32 :: s33 :: s34 :: s35 :: s36 :: s37 :: s38 :: s39 :: s40 :: s41 :: s42 :: s43 :: s44 :: s45 :: s46 :: s47 :: s48 :: s49 :: s50 :: s51 :: s52 :: s53 :: s54 :: s55 :: s56 :: s57 :: s58 :: s59 :: s60 :: s61 :: s62 :: s63 :: s64 :: s65 :: s66 :: s67 :: s68 :: s69 :: s70 :: s71 :: s72 :: s73 :: s74 :: s75 :: s76 :: s77 :: s78 :: s79 :: s80 :: s81 :: s82 :: s83 :: []), []⟩ w2 := by
  have HO2 := Lib.hid hO
  have HRD := Lib.hid hR
  have HRL := Lib.hid hRL
  have HDB := Lib.hid hDB
  have HEB := Lib.hid hEB
  have HEX := Lib.hid hEX
  have HRU := Lib.hid hR.flen
  have HFI := Lib.hid hO.flen
  have HA := Lib.hid hA
  have HLQ := Lib.hid hLq
  have HLI := Lib.hid hLi
  have HAB := Lib.hid hAB
  have HX := Lib.hid @hexit
  clear hO hR hRL hDB hEB hEX hA hLq hLi hAB hexit
  conv => arg 2; arg 1; whnf
  go_loopw [11, 7] (fun e15 e11 w3 => ∃ (k3 q3 cq3 : Nat) (D3 : Option Addr) (ho3 : List H), k3 ≤ u ∧ q3 = q + k3 ∧ e15 = .int .i64 k3 ∧ e11 = .slice D3 q3 cq3 ∧ Own2 base w3 D3 q3 cq3 ho3 (Fi ++ (R.take k3).map ((y : Int) :: ·)) ∧ Rd2I w3 E u hE R ∧ Rd w3 AL (vI L) ∧ (∀ g, ob D3 = some g → g < lo ∨ w2.heap.size ≤ g) ∧ Below base w2 w3) (fun e15 _ _ => u - (intOf e15).toNat)
  case atStart => exact ⟨0, q, cq, D, ho, Nat.zero_le _, rfl, rfl, rfl, by simpa using HO2.out, HRD.out, HA.out, fun g hg => .inl (HDB.out g hg), Below.refl _ _⟩
  case round =>
    clear HRD HO2 HA
    obtain ⟨k3, q3, cq3, D3, ho3, hk3, hq3, rfl, rfl, hO3, hR3, hA3, hD3, hb3⟩ := hrel
    have HO3 := Lib.hid hO3
    have HR3 := Lib.hid hR3
    have HA3 := Lib.hid hA3
    have HD3 := Lib.hid hD3
    have HB3 := Lib.hid hb3
    have HQ3 := Lib.hid hq3
    have hq3m : q3 ≤ 1000000 := by omega
    clear hO3 hR3 hD3 hb3 hq3 hA3
    by_cases hlt3 : k3 < u
    · have hk30 : (0 : Int) ≤ (k3 : Int) := by omega
      have hk31 : (k3 : Int) < (u : Int) := by omega
      have hi0 : (0 : Int) ≤ (i : Int) := by omega
      have hi1 : (i : Int) < (qa : Int) := by omega
      obtain ⟨x, fr, gE, oE, hfx, hEe, hgE, d2, lf, rf⟩ := HR3.out.at_ hlt3
      have hfr : R[k3]'(by rw [HRU.out]; exact hlt3) = fr := by rw [List.getElem?_eq_getElem (by rw [HRU.out]; exact hlt3)] at hfx; exact Option.some.inj hfx
      have hl1000 : fr.length ≤ 1000 := HRL.out fr (hfr ▸ List.getElem_mem _)
      have hnx3 : Fi ++ (R.take (k3 + 1)).map ((y : Int) :: ·) = (Fi ++ (R.take k3).map ((y : Int) :: ·)) ++ [(y : Int) :: fr] := by
        rw [List.take_succ_eq_append_getElem (by rw [HRU.out]; exact hlt3), hfr, List.map_append, List.append_assoc]
        rfl
      obtain ⟨hil, hLe⟩ := List.getElem?_eq_some_iff.1 HLI.out
      obtain ⟨gA, oA, hAe, hgA, d1⟩ := RdI.at_ HA3.out hil
      rw [hLe] at d1
      obtain ⟨C3, nl, cl⟩ := x
      dsimp only at d2 lf rf
      have hnl : nl ≤ 1000 := by omega
      have HLF := Lib.hid lf
      have HRF := Lib.hid rf
      have HNX3 := Lib.hid hnx3
      have HLIT : Hid ((wr.drew.alloc (.cells #[.int .i64 (y : Int)] 3)).ownsRow wr.heap.size 3 1 (.slice (some ⟨wr.heap.size, 0, none⟩) 1 1) 1 (vI [(y : Int)])) := own_new wr.drew 3 1 1 #[.int .i64 (y : Int)] rfl (by simp [maxLen]) (Nat.le_refl _)
      subst hEe
      subst hAe
      clear lf rf hnx3 hfr hfx hl1000 hil hLe
      go_wp2_with fail
      refine wp_region_noPanic ?_
      go_region_law (first
        | ((refine step_appI rfl (.tmp 75) (.tmp 79) rfl wr.heap.size (some ⟨wr.heap.size, 0, none⟩) 1 1 [(y : Int)] (by simp [Act.eval]) HLIT.out C3 nl cl fr (by simp [Act.eval]) (HRF.out.below (bel_alloc (bel_drew (Below.refl _ _)) _)) HLF.out (by omega) (by simp) ?_); intro A5 c5 w5 ho5 hg5 hat5; obtain ⟨g5, rfl, hq5⟩ := ownQ_of ho5 (by omega); have hb5 : Below wr.heap.size wr w5 := bel_app (bel_alloc (bel_drew (Below.refl _ _)) _) hg5 (fun g' e => ((own_lt HLIT.out) g' e).1); have hgg5 : wr.heap.size ≤ g5 := (own_lt ho5 g5 rfl).1; have HB5 := Lib.hid hb5; have HGG5 := Lib.hid hgg5; have HO5 := Lib.hid ho5; have e1 := keep_below hb5 d1; have e2 := keep_below hb5 d2; have l1 : gA < w5.heap.size := Nat.lt_of_lt_of_le hgA hb5.size; have l2 : gE < w5.heap.size := Nat.lt_of_lt_of_le hgE hb5.size; clear hq5 hg5 hat5 ho5 hb5 hgg5)
        | ((refine step_appS rfl (.tmp 70) (.tmp 81) rfl base D3 q3 cq3 ho3 (by simp [Act.eval]) ((HO3.out.below HB5.out).own.alloc _) (some ⟨w5.heap.size, 0, none⟩) 1 1 [(some ⟨g5, 0, none⟩, 1 + nl, c5)] (by simp [Act.eval]) (rd_newS _ _ _) rfl (by omega) (by have := HB3.out.size; have := HB5.out.size; simp; omega) ?_); intro D6 c6 w6 ho6 hg6 hat6; have HO6 := Lib.hid ho6; have HG6 := Lib.hid hg6; have HAT6 := Lib.hid hat6; clear ho6 hg6 hat6))
      all_goals
        refine NoPanic.normal ?_
        have hb56 : Below wr.heap.size wr (w5.alloc (.cells #[.slice (some ⟨g5, 0, none⟩) (1 + nl) c5] 24)) := bel_alloc HB5.out _
        have hs3 : base ≤ wr.heap.size := Nat.le_trans hbase HB3.out.size
        have hP := Own2.push HO3.out (f := (y : Int) :: fr) (own_mono2 (HO5.out.alloc _) hs3) HGG5.out hb56 HO6.out HG6.out HAT6.out
        have hD6 : ∀ g, ob D6 = some g → g < lo ∨ w2.heap.size ≤ g := fun g hg => by
          rcases HAT6.out with h1 | h1
          · exact HD3.out g (h1 ▸ hg)
          · rw [h1] at hg
            injection hg with hg
            have := hb56.size
            have := HB3.out.size
            omega
        have hR6 : Rd2I w6 (some ⟨gE, oE, none⟩) u hE R := (HR3.out.below hb56).grown HG6.out
          (fun g hg r => by have h1 := HEB.out g hg; have h2 := HD3.out g r; omega)
          (fun x hx g hg r => by have h1 := HEX.out x hx g hg; have h2 := HD3.out g r; omega)
        have hA6 : Rd w6 (some ⟨gA, oA, none⟩) (vI L) := (HA3.out.below hb56).grown HG6.out (fun g e r => by have h1 := HAB.out g e; have h2 := (own_lt HO3.out.own g r.symm).1; omega)
        have hb6 : Below base w2 w6 := ⟨HG6.out.os.trans (hb56.os.trans HB3.out.os), HG6.out.tape.trans (hb56.tape.trans HB3.out.tape), HG6.out.output.trans (hb56.output.trans HB3.out.output), by have := HG6.out.size; have := hb56.size; have := HB3.out.size; omega, fun k hk => by
          have e1 := HB3.out.block k hk
          have e2 := hb56.block k (by omega)
          have e3 := HG6.out.block k (by have := hb56.size; omega) (fun r => by have := (own_lt HO3.out.own k r.symm).1; omega)
          rw [e3, e2, e1]⟩
        have HP := Lib.hid hP
        have HD6 := Lib.hid hD6
        have HR6 := Lib.hid hR6
        have HA6 := Lib.hid hA6
        have HB6 := Lib.hid hb6
        clear hP hD6 hR6 hA6 hb6 hb56
        go_wp2_with fail
        exact ⟨⟨k3 + 1, q3 + 1, c6, D6, _, by omega, by have := HQ3.out; omega, by go_num, rfl, by rw [HNX3.out]; exact HP.out, HR6.out, HA6.out, HD6.out, HB6.out⟩, by simp [intOf]; omega⟩
    · obtain rfl : k3 = u := by omega
      have hk31 : ¬ (k3 : Int) < (k3 : Int) := by omega
      have hfin3 : Own2 base wr D3 (q + k3) cq3 ho3 (Fi ++ R.map ((y : Int) :: ·)) := by
        rw [← HQ3.out]
        have := HO3.out
        rwa [List.take_of_length_le (by rw [HRU.out]; exact Nat.le_refl _)] at this
      have HF3 := Lib.hid hfin3
      have HQ4 : Hid (q + k3 = q3) := HQ3.out.symm
      clear hfin3
      rw [HQ4.out] at HX
      go_wp2_with fail
      exact HX.out _ _ _ _ _ _ _ _ _ _ _ _ _ _ _ _ _ _ _ _ _ _ _ (HQ4.out ▸ HF3.out) HB3.out
end Go.Proofs.YtcgjnonlndaoeaaGreat

/- The place of the least bit: the reference. -/
namespace Go.Proofs.YtcgjnonlndaoeaaGreat
open Go.RowKit
set_option linter.unusedVariables false
attribute [local go_sem ↓] Go.wp_at_zero Go.wp_at_succ

theorem bit_testC (m k : Nat) (hm : m < 2 ^ 62) : (bits .and .i64 ((m : Int) / 2 ^ k) 1 == 0) = !m.testBit k := by
  rw [show ((m : Int) / 2 ^ k) = ((m / 2 ^ k : Nat) : Int) by simp]
  have h := i64_and (m / 2 ^ k) 1 (by have := Nat.div_le_self m (2 ^ k); omega) (by decide)
  have h1 : ((1 : Nat) : Int) = 1 := rfl
  rw [h1] at h
  rw [h, Nat.and_one_is_mod, Nat.testBit_eq_decide_div_mod_eq]
  rcases Nat.mod_two_eq_zero_or_one (m / 2 ^ k) with h2 | h2 <;> simp [h2]
set_option maxHeartbeats 800000 in
theorem l8Low_s (m : Nat) (w : World) (h0 : m ≠ 0) (hm : m < 2 ^ 62) : Calls Tryz.prog 108 #[.int .i64 (m : Int)] w (Ret w (.int .i64 (lowN m : Nat))) := by
  have hpos : (m : Int) > 0 := by omega
  obtain ⟨hlb, hl64⟩ := lowN_bit h0 (by omega)
  have hbel : ∀ j, j < lowN m → m.testBit j = false := fun j hj => lowN_below h0 (by omega) hj
  obtain ⟨q, hq⟩ : ∃ q, lowN m = q := ⟨_, rfl⟩
  rw [hq] at hlb hl64 hbel ⊢
  have HLB := Lib.hid hlb
  have HBEL := Lib.hid hbel
  have HM := Lib.hid hm
  clear hlb hbel hq hm h0
  go_enter Tryz.func108, Tryz.ntmps108
  go_wp2_with fail
  go_loopw [3] (fun e3 wr => ∃ i : Nat, i ≤ q ∧ e3 = .int .i64 i ∧ Below w.heap.size w wr) (fun e3 _ => q - (intOf e3).toNat)
  case atStart => exact ⟨0, Nat.zero_le _, rfl, Below.refl _ _⟩
  case round =>
    obtain ⟨i, hi, rfl, hb⟩ := hrel
    have hi0 : (0 : Int) ≤ (i : Int) := by omega
    have hi64 : (i : Int) ≤ 64 := by omega
    have ei : IntKind.i64.wrap (i : Int) = (i : Int) := Go.IntWalk.i64_in _ (by omega)
    have hbit := bit_testC m i HM.out
    obtain ⟨d, hd⟩ : ∃ d, m / 2 ^ i = d := ⟨_, rfl⟩
    have hdI : (m : Int) / 2 ^ i = (d : Int) := by rw [← hd]; simp
    rw [hdI] at hbit
    clear hd
    by_cases hlt : i < q
    · rw [HBEL.out i hlt] at hbit
      go_wp2_with fail
      exact ⟨⟨i + 1, by omega, by go_num, hb⟩, by simp [intOf]; omega⟩
    · obtain rfl : i = q := by omega
      rw [HLB.out] at hbit
      go_wp2_with fail
      go_ret
      exact ⟨rfl, hb⟩
end Go.Proofs.YtcgjnonlndaoeaaGreat

/- Tilings: the reference's search. -/
namespace Go.Proofs.YtcgjnonlndaoeaaGreat
open Go.RowKit
set_option linter.unusedVariables false
attribute [local go_sem ↓] Go.wp_at_zero Go.wp_at_succ

noncomputable def til8Out : Code := ((Tryz.f92.body.map loopsIn).getD []).getD 0 .skip
theorem tilH_no {L : List Int} {free : Nat} {m : Int} (h : m.toNat.testBit (lowN free) = false ∨ inM m.toNat free = false) : tilH L free m = [] := by
  unfold tilH
  split
  · next h1 =>
    rcases h with h | h
    · rw [h] at h1; cases h1
    · exact tilG_no h
  · rfl
theorem tilH_yes {L : List Int} {free : Nat} {m : Int} (h1 : m.toNat.testBit (lowN free) = true) (h2 : inM m.toNat free = true) : tilH L free m = (tilV L (free - m.toNat)).map (m :: ·) := by
  unfold tilH
  rw [if_pos h1, tilG_yes h2]
set_option maxRecDepth 100000 in
set_option maxHeartbeats 3200000 in
theorem l8Loop {Q : Exit → Act → World → Prop} {s3 s4 s5 s6 s10 s11 s12 s13 s14 s15 s16 s17 s18 s19 s20 s21 s22 s23 s24 s25 s26 s27 s28 s29 s30 s31 s32 s33 s34 s35 s36 s37 s38 s39 s40 s41 s42 s43 s44 s45 s46 s47 s48 s49 s50 s51 s52 s53 s54 s55 s56 s57 s58 s59 s60 s61 s62 s63 s64 s65 s66 s67 s68 s69 s70 s71 s72 s73 s74 s75 s76 s77 s78 s79 s80 s81 s82 s83 : Value} {L : List Int} {A D0 : Option Addr} {qa ca free most low c0 : Nat} {w w0 : World}
    (IH : ∀ (free2 most2 : Nat) (w : World), free2 < free → Rd w A (vI L) → free2 < 2 ^ 36 → 1 ≤ most2 → most2 ≤ 1000 → Calls Tryz.prog 92 #[.slice A qa ca, .int .i64 (free2 : Int), .int .i64 (most2 : Int)] w (RetO2 w ((tilV L free2).take most2)))
    (hlow : lowN free = low) (hlow36 : low < 36) (hA : Rd w A (vI L)) (hLq : L.length = qa) (hq5 : qa ≤ 1048576) (hM : Msk 36 L) (hAB : ∀ g, ob A = some g → g < w.heap.size)
    (hfr : free < 2 ^ 36) (hm1 : 1 ≤ most) (hm3 : most ≤ 1000) (hI : Own2 w.heap.size w0 D0 0 c0 [] []) (hb0 : Below w.heap.size w w0)
    (hexit : ∀ (v10 v11 v19 v20 v21 v22 v23 v24 v25 v26 v27 v28 v29 v30 v31 v32 v33 v34 v35 v36 v37 v38 v39 v40 v41 v42 v43 v44 v45 v46 v47 v48 v49 v50 v51 v52 v53 v54 v55 v56 v57 v58 v59 v60 v61 v62 v63 v64 v65 v66 v67 v68 v69 v70 v71 v72 v73 v74 v75 v76 v77 v78 v79 v80 v81 v82 : Value) (i q cq : Nat) (D : Option Addr) (ho : List H) (w3 : World), Own2 w.heap.size w3 D q cq ho ((L.flatMap (tilH L free)).take most) → Below w.heap.size w w3 → Q (.exit 0) ⟨List.toArray ((.slice A qa ca) :: (.int .i64 (free : Int)) :: (.int .i64 (most : Int)) :: s3 :: s4 :: s5 :: s6 :: (.slice D q cq) :: (.int .i64 (low : Int)) :: (.int .i64 (i : Int)) :: v10 :: v11 :: s12 :: s13 :: s14 :: s15 :: s16 :: s17 :: s18 :: v19 :: v20 :: v21 :: v22 :: v23 :: v24 :: v25 :: v26 :: v27 :: v28 :: v29 :: v30 :: v31 :: v32 :: v33 :: v34 :: v35 :: v36 :: v37 :: v38 :: v39 :: v40 :: v41 :: v42 :: v43 :: v44 :: v45 :: v46 :: v47 :: v48 :: v49 :: v50 :: v51 :: v52 :: v53 :: v54 :: v55 :: v56 :: v57 :: v58 :: v59 :: v60 :: v61 :: v62 :: v63 :: v64 :: v65 :: v66 :: v67 :: v68 :: v69 :: v70 :: v71 :: v72 :: v73 :: v74 :: v75 :: v76 :: v77 :: v78 :: v79 :: v80 :: v81 :: v82 :: s83 :: []), []⟩ w3) :
    Code.wp Tryz.prog (Code.loop til8Out) Q ⟨List.toArray ((.slice A qa ca) :: (.int .i64 (free : Int)) :: (.int .i64 (most : Int)) :: s3 :: s4 :: s5 :: s6 :: (.slice D0 0 c0) :: (.int .i64 (low : Int)) :: (.int .i64 0) :: s10 :: s11 :: s12 :: s13 :: s14 :: s15 :: s16 :: s17 :: s18 :: s19 :: s20 :: s21 :: s22 :: s23 :: s24 :: s25 :: s26 :: s27 :: s28 :: s29 :: s30 :: s31 :: s32 :: s33 :: s34 :: s35 :: s36 :: s37 :: s38 :: s39 :: s40 :: s41 :: s42 :: s43 :: s44 :: s45 :: s46 :: s47 :: s48 :: s49 :: s50 :: s51 :: s52 :: s53 :: s54 :: s55 :: s56 :: s57 :: s58 :: s59 :: s60 :: s61 :: s62 :: s63 :: s64 :: s65 :: s66 :: s67 :: s68 :: s69 :: s70 :: s71 :: s72 :: s73 :: s74 :: s75 :: s76 :: s77 :: s78 :: s79 :: s80 :: s81 :: s82 :: s83 :: []), []⟩ w0 := by
  have HIH := Lib.hid @IH
  have HLOW := Lib.hid hlow
  have HA := Lib.hid hA
  have HLQ := Lib.hid hLq
  have HM := Lib.hid hM
  have HI0 := Lib.hid hI
  have HFR := Lib.hid hfr
  have HAB := Lib.hid hAB
  have HX := Lib.hid @hexit
  have hlo0 : (0 : Int) ≤ (low : Int) := by omega
  have hlo64 : (low : Int) ≤ 64 := by omega
  have elo : IntKind.i64.wrap (low : Int) = (low : Int) := Go.IntWalk.i64_in _ (by omega)
  clear IH hlow hA hLq hM hI hfr hAB hexit
  conv => arg 2; arg 1; whnf
  go_loopw [9, 7] (fun e12 e11 wr => ∃ (i q cq : Nat) (D : Option Addr) (ho : List H), i ≤ qa ∧ e12 = .int .i64 i ∧ e11 = .slice D q cq ∧ Own2 w.heap.size wr D q cq ho (((L.take i).flatMap (tilH L free)).take most) ∧ Below w.heap.size w wr) (fun e12 _ _ => qa - (intOf e12).toNat)
  case atStart => exact ⟨0, 0, c0, D0, [], Nat.zero_le _, rfl, rfl, by simpa using HI0.out, hb0⟩
  case round =>
    clear HI0
    obtain ⟨i, q, cq, D, ho, hi, rfl, rfl, hO, hb⟩ := hrel
    have hqm : q ≤ most := by have := hO.flen; rw [List.length_take] at this; omega
    have HO := Lib.hid hO
    clear hO
    by_cases hlt : i < qa
    · have hi0 : (0 : Int) ≤ (i : Int) := by omega
      have hi1 : (i : Int) < (qa : Int) := by omega
      by_cases hqlt : q < most
      · have hq1 : (q : Int) < (most : Int) := by omega
        have hkl : i < L.length := by rw [HLQ.out]; exact hlt
        obtain ⟨g1, off1, hC1, hg1, d1⟩ := RdI.at_ (HA.out.below hb) hkl
        obtain ⟨y, hy, hy36⟩ := HM.out _ (List.getElem_mem hkl)
        rw [hy] at d1
        have HLI : Hid (L[i]? = some (y : Int)) := by show _ = _; rw [List.getElem?_eq_getElem hkl, hy]
        obtain ⟨Fi, hFi⟩ : ∃ Fi, (L.take i).flatMap (tilH L free) = Fi := ⟨_, rfl⟩
        have hst := flat_take (tilH L free) L i hkl
        rw [hFi, hy] at hst
        have hfl := HO.out.flen
        rw [hFi] at HO hfl
        have hfs := full_step most Fi (tilH L free (y : Int)) (by rw [hfl]; exact hqlt)
        have hFt : Fi.take most = Fi := hfs.1
        have hFn := hfs.2
        rw [hFt] at HO hfl
        rw [hfl, ← hst] at hFn
        have HFN := Lib.hid hFn
        have hNO : tilH L free (y : Int) = [] → Hid ((((L.take (i + 1)).flatMap (tilH L free)).take most) = Fi) := fun e => by show _ = _; rw [← HFN.out, e]; simp
        have HNO := Lib.hid hNO
        have hbit := bit_testC y low (by omega)
        obtain ⟨d, hd⟩ : ∃ d, y / 2 ^ low = d := ⟨_, rfl⟩
        have hdI : (y : Int) / 2 ^ low = (d : Int) := by rw [← hd]; simp
        rw [hdI] at hbit
        clear hst hfl hfs hFt hFn hFi hNO hy hd
        cases hbt : y.testBit low with
        | false =>
          rw [hbt] at hbit
          have HN := HNO.out (tilH_no (.inl (by rw [Int.toNat_natCast, HLOW.out]; exact hbt)))
          have HC1 := Lib.hid hC1
          subst hC1
          clear hbt HNO
          go_wp2_with fail
          (refine wp_region_below (by kernel_rfl) (by kernel_rfl) ?_; (repeat (first | go_big_quiet_skip | (refine quietV (v := ?_) (by rfl) rfl (fun w' hbw => ?_) ?_; rotate_left; ((try dsimp only at hbw); have hbc := (bcell hbw).1; have hbf := (bcell hbw).2; go_simp; first | done | with_reducible rfl | fail); simp only [List.setIfInBounds_toArray, List.set_cons_zero, List.set_cons_succ]))); refine wpQuiet_nil ?_; intro wz hbz)
          go_wp2_with fail
          exact ⟨⟨i + 1, q, cq, D, ho, by omega, by go_num, rfl, by rw [HN.out]; exact HO.out.below hbz, bel_trans hb hbz⟩, by simp [intOf]; omega⟩
        | true =>
          rw [hbt] at hbit
          have HBT := Lib.hid hbt
          obtain ⟨z, hz⟩ : ∃ z, y &&& free = z := ⟨_, rfl⟩
          have hand : bits .and .i64 (y : Int) (free : Int) = (z : Int) := by rw [i64_and y free (by omega) (by have := HFR.out; omega), hz]
          subst hC1
          clear hbt
          cases hin : inM y free with
          | false =>
            have hzy : z ≠ y := fun e => by unfold inM at hin; rw [hz, e] at hin; simp at hin
            have hne : ((z : Int) != (y : Int)) = true := by simp; omega
            have HN := HNO.out (tilH_no (.inr (by rw [Int.toNat_natCast]; exact hin)))
            clear hin hzy hz HNO
            go_wp2_with fail
            (refine wp_region_below (by kernel_rfl) (by kernel_rfl) ?_; (repeat (first | go_big_quiet_skip | (refine quietV (v := ?_) (by rfl) rfl (fun w' hbw => ?_) ?_; rotate_left; ((try dsimp only at hbw); have hbc := (bcell hbw).1; have hbf := (bcell hbw).2; go_simp; first | done | with_reducible rfl | fail); simp only [List.setIfInBounds_toArray, List.set_cons_zero, List.set_cons_succ]))); refine wpQuiet_nil ?_; intro wz hbz)
            go_wp2_with fail
            exact ⟨⟨i + 1, q, cq, D, ho, by omega, by go_num, rfl, by rw [HN.out]; exact HO.out.below hbz, bel_trans hb hbz⟩, by simp [intOf]; omega⟩
          | true =>
            have hzy : z = y := by unfold inM at hin; rw [beq_iff_eq, hz] at hin; exact hin
            have hne : ((z : Int) != (y : Int)) = false := by simp [hzy]
            have hy1 : 1 ≤ y := bit_pos HBT.out
            have hyf : y ≤ free := inM_le hin
            obtain ⟨f2, hf2⟩ : ∃ f2, free - y = f2 := ⟨_, rfl⟩
            have hfI : (free : Int) - (y : Int) = (f2 : Int) := by omega
            have ef : IntKind.i64.wrap (f2 : Int) = (f2 : Int) := Go.IntWalk.i64_in _ (by have := HFR.out; omega)
            obtain ⟨mo2, hmo⟩ : ∃ mo2, most - q = mo2 := ⟨_, rfl⟩
            have hmI : (most : Int) - (q : Int) = (mo2 : Int) := by omega
            have em : IntKind.i64.wrap (mo2 : Int) = (mo2 : Int) := Go.IntWalk.i64_in _ (by omega)
            have hG : tilH L free (y : Int) = (tilV L f2).map ((y : Int) :: ·) := by rw [tilH_yes (by rw [Int.toNat_natCast, HLOW.out]; exact HBT.out) (by rw [Int.toNat_natCast]; exact hin), Int.toNat_natCast, hf2]
            obtain ⟨R, hR⟩ : ∃ R, (tilV L f2).take mo2 = R := ⟨_, rfl⟩
            have hnx : ((L.take (i + 1)).flatMap (tilH L free)).take most = Fi ++ R.map ((y : Int) :: ·) := by rw [← HFN.out, hG, hmo, ← List.map_take, hR]
            have HNX := Lib.hid hnx
            have HRE := Lib.hid hR
            have hf36 : f2 < 2 ^ 36 := by have := HFR.out; omega
            have hff : f2 < free := by omega
            have hmo1 : 1 ≤ mo2 := by omega
            have hmo3 : mo2 ≤ 1000 := by omega
            clear hin hzy hz hG hnx hR hf2 hmo hyf HFN HNO
            go_wp2_with fail
            (refine wp_region_below (by kernel_rfl) (by kernel_rfl) ?_; (repeat (first | go_big_quiet_skip | (refine quietV (v := ?_) (by rfl) rfl (fun w' hbw => ?_) ?_; rotate_left; ((try dsimp only at hbw); have hbc := (bcell hbw).1; have hbf := (bcell hbw).2; go_simp; first | done | with_reducible rfl | fail); simp only [List.setIfInBounds_toArray, List.set_cons_zero, List.set_cons_succ]))); refine wpQuiet_nil ?_; intro wz hbz)
            have hbw := bel_trans hb hbz
            have d1z := keep_below hbz d1
            have l1z : g1 < wz.heap.size := Nat.lt_of_lt_of_le hg1 hbz.size
            have HOz := Lib.hid (HO.out.below hbz)
            have HBW := Lib.hid hbw
            clear hb hbz hbw d1 HO
            go_wp2_with fail
            refine (HIH.out f2 mo2 _ hff (HA.out.below HBW.out) hf36 hmo1 hmo3).mono ?_
            rw [HRE.out]
            rintro e w2 ⟨E, u, cu, hE, rfl, hOE, hb2⟩
            have HRL : Hid (∀ x ∈ R, x.length ≤ 1000) := fun x hx => by
              rw [← HRE.out] at hx
              have := til_len L (n := 36) (by omega) hf36 x (List.mem_of_mem_take hx)
              omega
            have hru := hOE.flen
            have HRU := Lib.hid hru
            have HRD := Lib.hid (Rd2I.of_own hOE)
            have HEB : Hid (∀ g, ob E = some g → wz.heap.size ≤ g ∧ g < w2.heap.size) := own_lt hOE.own
            have HEX : Hid (∀ x ∈ hE, ∀ g, ob x.1 = some g → wz.heap.size ≤ g ∧ g < w2.heap.size) := fun x hx g hg => by
              obtain ⟨k4, hk4, rfl⟩ := List.mem_iff_getElem.1 hx
              exact own_lt (hOE.row k4 hk4 (hOE.len ▸ hk4)) g hg
            have HO2 := Lib.hid (HOz.out.below hb2)
            have HDB : Hid (∀ g, ob D = some g → g < wz.heap.size) := fun g hg => (own_lt HOz.out.own g hg).2
            have HBB := Lib.hid (bel_trans HBW.out hb2)
            have HA2 := Lib.hid ((HA.out.below HBW.out).below hb2)
            have hu3 : u ≤ 1000 := by have := hru; rw [← HRE.out, List.length_take] at this; omega
            have HFI := Lib.hid HOz.out.flen
            have hq10 : q ≤ 1000 := by omega
            clear hOE hru hb2 d1z l1z HOz
            go_wp2_with fail
            refine l8Inner HA2.out HLQ.out hlt hq5 HLI.out HO2.out HRD.out HRL.out hu3 hq10 HBB.out.size HDB.out HEB.out HEX.out HAB.out ?_
            intro _ _ _ _ _ _ _ _ _ _ _ _ _ _ _ _ _ _ _ D3 cq3 ho3 w3 hO3 hB3
            have hfin3 : Own2 w.heap.size w3 D3 (q + u) cq3 ho3 (((L.take (i + 1)).flatMap (tilH L free)).take most) := by rw [HNX.out]; exact hO3
            have HF3 := Lib.hid hfin3
            have HB3 := Lib.hid hB3
            clear hfin3 hO3 hB3
            go_wp2_with fail
            exact ⟨⟨i + 1, q + u, cq3, D3, ho3, by omega, by go_num, rfl, HF3.out, HBB.out.trans HB3.out⟩, by simp [intOf]; omega⟩
      · have hq1 : ¬ (q : Int) < (most : Int) := by omega
        have hfin : (L.flatMap (tilH L free)).take most = ((L.take i).flatMap (tilH L free)).take most := by
          rw [flat_split (tilH L free) L i]
          exact full_end most _ _ (by rw [HO.out.flen]; exact hqlt)
        have HF := Lib.hid hfin
        clear hfin
        go_wp2_with fail
        exact HX.out _ _ _ _ _ _ _ _ _ _ _ _ _ _ _ _ _ _ _ _ _ _ _ _ _ _ _ _ _ _ _ _ _ _ _ _ _ _ _ _ _ _ _ _ _ _ _ _ _ _ _ _ _ _ _ _ _ _ _ _ _ _ _ _ _ _ _ _ _ _ _ _ (by rw [HF.out]; exact HO.out) hb
    · obtain rfl : i = qa := by omega
      have hi1 : ¬ (i : Int) < (i : Int) := by omega
      have hfin : (L.flatMap (tilH L free)).take most = ((L.take i).flatMap (tilH L free)).take most := by rw [List.take_of_length_le (l := L) (by rw [HLQ.out]; omega)]
      have HF := Lib.hid hfin
      clear hfin
      go_wp2_with fail
      exact HX.out _ _ _ _ _ _ _ _ _ _ _ _ _ _ _ _ _ _ _ _ _ _ _ _ _ _ _ _ _ _ _ _ _ _ _ _ _ _ _ _ _ _ _ _ _ _ _ _ _ _ _ _ _ _ _ _ _ _ _ _ _ _ _ _ _ _ _ _ _ _ _ _ (by rw [HF.out]; exact HO.out) hb
set_option maxRecDepth 100000 in
set_option maxHeartbeats 3200000 in
theorem l8Search_s (L : List Int) (A : Option Addr) (qa ca : Nat) (hLq : L.length = qa) (hq5 : qa ≤ 1048576) (hM : Msk 36 L) : ∀ (free most : Nat) (w : World), Rd w A (vI L) → free < 2 ^ 36 → 1 ≤ most → most ≤ 1000 →
    Calls Tryz.prog 92 #[.slice A qa ca, .int .i64 (free : Int), .int .i64 (most : Int)] w (RetO2 w ((tilV L free).take most))
  | free, most, w, hr, hfr, hm1, hm3 => by
    by_cases h0 : free = 0
    · have hf0 : ((free : Int) == 0) = true := by simp [h0]
      have HV2 : Hid ((tilV L free).take most = [[]]) := by show _ = _; rw [h0, tilV_zero, List.take_of_length_le (by simpa using hm1)]
      clear h0 hr hLq hM
      go_enter Tryz.func92, Tryz.ntmps92
      go_wp2_with fail
      go_ret
      exact ⟨_, _, _, _, rfl, by rw [HV2.out]; exact own2_one w, bel_alloc (bel_alloc (Below.refl _ _) _) _⟩
    · have hf0 : ((free : Int) == 0) = false := by simp [h0]
      have IH : ∀ (free2 most2 : Nat) (w : World), free2 < free → Rd w A (vI L) → free2 < 2 ^ 36 → 1 ≤ most2 → most2 ≤ 1000 → Calls Tryz.prog 92 #[.slice A qa ca, .int .i64 (free2 : Int), .int .i64 (most2 : Int)] w (RetO2 w ((tilV L free2).take most2)) :=
        fun free2 most2 w hlt h1 h2 h3 h4 => l8Search_s L A qa ca hLq hq5 hM free2 most2 w h1 h2 h3 h4
      obtain ⟨hlb, hl64⟩ := lowN_bit h0 (by omega)
      have hlowc := fun u => l8Low_s free u h0 (by omega)
      have hS := tilV_H L h0
      obtain ⟨low, hlo⟩ : ∃ low, lowN free = low := ⟨_, rfl⟩
      rw [hlo] at hlowc hl64 hlb
      have hlow36 : low < 36 := by
        rcases Nat.lt_or_ge low 36 with h | h
        · exact h
        · rw [Nat.testBit_lt_two_pow (Nat.lt_of_lt_of_le hfr (Nat.pow_le_pow_right (by decide) h))] at hlb
          cases hlb
      have hAB : ∀ g, ob A = some g → 0 < L.length → g < w.heap.size := fun g e hp => by
        obtain ⟨g1, o1, hA1, hg1, _⟩ := RdI.at_ hr hp
        subst hA1
        simp only [ob, Option.map_some, Option.some.injEq] at e
        omega
      have HAB := Lib.hid hAB
      have HLOWC := Lib.hid @hlowc
      have HLO := Lib.hid hlo
      have HS := Lib.hid hS
      have HIH := Lib.hid @IH
      have HR := Lib.hid hr
      have HLQ := Lib.hid hLq
      have HM := Lib.hid hM
      have HFR := Lib.hid hfr
      have HI0 : Hid (Own2 w.heap.size (w.alloc (.cells #[] 24)) (some ⟨w.heap.size, 0, none⟩) 0 0 [] []) := Own2.none_ (own_new w 24 1 0 #[] rfl (by simp [maxLen]) (Nat.le_refl _))
      clear h0 IH hlb hl64 hlowc hS hlo hAB hr hLq hM hfr
      go_enter Tryz.func92, Tryz.ntmps92
      go_wp2_with fail
      refine (HLOWC.out _).mono ?_
      rintro e w1 ⟨rfl, hb1⟩
      have HI1 := Lib.hid (HI0.out.below hb1)
      have HB1 := Lib.hid (bel_trans (bel_alloc (Below.refl w.heap.size w) (.cells #[] 24)) hb1)
      clear hb1 HI0
      go_wp2_with fail
      by_cases hp : 0 < L.length
      · refine l8Loop HIH.out HLO.out hlow36 HR.out HLQ.out hq5 HM.out (fun g e => HAB.out g e hp) HFR.out hm1 hm3 HI1.out HB1.out ?_
        intro _ _ _ _ _ _ _ _ _ _ _ _ _ _ _ _ _ _ _ _ _ _ _ _ _ _ _ _ _ _ _ _ _ _ _ _ _ _ _ _ _ _ _ _ _ _ _ _ _ _ _ _ _ _ _ _ _ _ _ _ _ _ _ _ _ _ i q cq D ho w3 hO3 hB3
        rw [← HS.out] at hO3
        have HO3 := Lib.hid hO3
        have HB3 := Lib.hid hB3
        clear hO3 hB3
        go_wp2_with fail
        go_ret
        exact ⟨_, _, _, _, rfl, HO3.out, HB3.out⟩
      · have hL0 : L = [] := List.eq_nil_of_length_eq_zero (by omega)
        have hqa0 : qa = 0 := by rw [← HLQ.out]; omega
        have hV0 : (tilV L free).take most = [] := by rw [HS.out, hL0]; simp
        have HV0 := Lib.hid hV0
        have hq1 : ¬ (0 : Int) < (qa : Int) := by omega
        clear hL0 hV0 hqa0
        go_loopw [9, 7] (fun e9 e7 wr => e9 = .int .i64 0 ∧ e7 = .slice (some ⟨w.heap.size, 0, none⟩) 0 0 ∧ wr = w1) (fun _ _ _ => 0)
        case atStart => exact ⟨rfl, rfl, rfl⟩
        case round =>
          obtain ⟨rfl, rfl, rfl⟩ := hrel
          go_wp2_with fail
          go_ret
          exact ⟨_, _, _, [], rfl, by rw [HV0.out]; exact HI1.out, HB1.out⟩
termination_by free => free
decreasing_by omega
end Go.Proofs.YtcgjnonlndaoeaaGreat

/- The library's count of bits. -/
namespace Go.Proofs.YtcgjnonlndaoeaaGreat
open Go.RowKit
set_option linter.unusedVariables false
attribute [local go_sem ↓] Go.wp_at_zero Go.wp_at_succ

theorem wraps_u64 (n : Int) (h₀ : 0 ≤ n) (h₁ : n < 2 ^ 64) : IntKind.u64.wrap n = n := by rw [IntKind.wrap_u64]; omega
theorem u64_and (a b : Nat) (ha : a < 2 ^ 64) (hb : b < 2 ^ 64) : bits .and .u64 (a : Int) (b : Int) = ((a &&& b : Nat) : Int) := (bits_nat .u64 64 (by decide) wraps_u64 a b ha hb).1
theorem OnesCount64_l (x : Nat) (w : World) (hx : x < 2 ^ 62) : Calls Tryz.prog 59 #[.int .u64 (x : Int)] w (Ret w (.int .i64 (pop x : Nat))) := by
  have hpop := popS_eq (n := x) (by omega)
  unfold popS at hpop
  simp only at hpop
  obtain ⟨p1, h1⟩ : ∃ p, x / 2 &&& 6148914691236517205 = p := ⟨_, rfl⟩
  obtain ⟨p2, h2⟩ : ∃ p, x &&& 6148914691236517205 = p := ⟨_, rfl⟩
  have l1 : p1 ≤ 6148914691236517205 := by rw [← h1]; exact Nat.and_le_right
  have l2 : p2 ≤ 6148914691236517205 := by rw [← h2]; exact Nat.and_le_right
  rw [h1, h2] at hpop
  obtain ⟨a, ha⟩ : ∃ a, a = p1 + p2 := ⟨_, rfl⟩
  rw [← ha] at hpop
  obtain ⟨p3, h3⟩ : ∃ p, a / 4 &&& 3689348814741910323 = p := ⟨_, rfl⟩
  obtain ⟨p4, h4⟩ : ∃ p, a &&& 3689348814741910323 = p := ⟨_, rfl⟩
  have l3 : p3 ≤ 3689348814741910323 := by rw [← h3]; exact Nat.and_le_right
  have l4 : p4 ≤ 3689348814741910323 := by rw [← h4]; exact Nat.and_le_right
  rw [h3, h4] at hpop
  obtain ⟨b, hb⟩ : ∃ b, b = p3 + p4 := ⟨_, rfl⟩
  rw [← hb] at hpop
  obtain ⟨b16, hb16⟩ : ∃ b16, b16 = b / 16 := ⟨_, rfl⟩
  obtain ⟨d, hd⟩ : ∃ d, d = b16 + b := ⟨_, rfl⟩
  rw [← hb16, ← hd] at hpop
  obtain ⟨c, hc⟩ : ∃ c, d &&& 1085102592571150095 = c := ⟨_, rfl⟩
  have l5 : c ≤ 1085102592571150095 := by rw [← hc]; exact Nat.and_le_right
  rw [hc] at hpop
  obtain ⟨c8, hc8⟩ : ∃ c8, c8 = c / 256 := ⟨_, rfl⟩
  obtain ⟨y0, hy0⟩ : ∃ y0, y0 = c + c8 := ⟨_, rfl⟩
  rw [← hc8, ← hy0] at hpop
  obtain ⟨y16, hy16⟩ : ∃ y16, y16 = y0 / 65536 := ⟨_, rfl⟩
  obtain ⟨y1, hy1⟩ : ∃ y1, y1 = y0 + y16 := ⟨_, rfl⟩
  rw [← hy16, ← hy1] at hpop
  obtain ⟨y32, hy32⟩ : ∃ y32, y32 = y1 / 4294967296 := ⟨_, rfl⟩
  obtain ⟨z, hz⟩ : ∃ z, z = y1 + y32 := ⟨_, rfl⟩
  rw [← hy32, ← hz] at hpop
  have x2 : (x : Int) / 2 = ((x / 2 : Nat) : Int) := by omega
  have r1 : bits .and .u64 ((x : Int) / 2) 6148914691236517205 = (p1 : Int) := by rw [x2]; have h := u64_and (x / 2) 6148914691236517205 (by omega) (by decide); rw [h1] at h; exact h
  have r2 : bits .and .u64 (x : Int) 6148914691236517205 = (p2 : Int) := by have h := u64_and x 6148914691236517205 (by omega) (by decide); rw [h2] at h; exact h
  have s1 : (p1 : Int) + (p2 : Int) = (a : Int) := by omega
  have v1 : IntKind.u64.wrap (a : Int) = (a : Int) := wraps_u64 _ (by omega) (by omega)
  have a4 : (a : Int) / 4 = ((a / 4 : Nat) : Int) := by omega
  have r3 : bits .and .u64 ((a : Int) / 4) 3689348814741910323 = (p3 : Int) := by rw [a4]; have h := u64_and (a / 4) 3689348814741910323 (by omega) (by decide); rw [h3] at h; exact h
  have r4 : bits .and .u64 (a : Int) 3689348814741910323 = (p4 : Int) := by have h := u64_and a 3689348814741910323 (by omega) (by decide); rw [h4] at h; exact h
  have s2 : (p3 : Int) + (p4 : Int) = (b : Int) := by omega
  have v2 : IntKind.u64.wrap (b : Int) = (b : Int) := wraps_u64 _ (by omega) (by omega)
  have s3 : (b : Int) / 16 = (b16 : Int) := by omega
  have s4 : (b16 : Int) + (b : Int) = (d : Int) := by omega
  have v3 : IntKind.u64.wrap (d : Int) = (d : Int) := wraps_u64 _ (by omega) (by omega)
  have r5 : bits .and .u64 (d : Int) 1085102592571150095 = (c : Int) := by have h := u64_and d 1085102592571150095 (by omega) (by decide); rw [hc] at h; exact h
  have s5 : (c : Int) / 256 = (c8 : Int) := by omega
  have s6 : (c : Int) + (c8 : Int) = (y0 : Int) := by omega
  have v4 : IntKind.u64.wrap (y0 : Int) = (y0 : Int) := wraps_u64 _ (by omega) (by omega)
  have s7 : (y0 : Int) / 65536 = (y16 : Int) := by omega
  have s8 : (y0 : Int) + (y16 : Int) = (y1 : Int) := by omega
  have v5 : IntKind.u64.wrap (y1 : Int) = (y1 : Int) := wraps_u64 _ (by omega) (by omega)
  have s9 : (y1 : Int) / 4294967296 = (y32 : Int) := by omega
  have s10 : (y1 : Int) + (y32 : Int) = (z : Int) := by omega
  have v6 : IntKind.u64.wrap (z : Int) = (z : Int) := wraps_u64 _ (by omega) (by omega)
  have v7 : IntKind.i64.wrap (z : Int) = (z : Int) := Go.IntWalk.i64_in _ (by omega)
  have r6 : bits .and .i64 (z : Int) 127 = ((z % 128 : Nat) : Int) := by
    have h := i64_and z 127 (by omega) (by decide)
    rw [show (127 : Nat) = 2 ^ 7 - 1 from rfl, Nat.and_two_pow_sub_one_eq_mod] at h
    exact h
  rw [hpop] at r6
  clear hpop hx h1 h2 h3 h4 hc ha hb hb16 hd hc8 hy0 hy16 hy1 hy32 hz x2 a4 l1 l2 l3 l4 l5
  go_enter Tryz.func59, Tryz.ntmps59
  go_wp2
  go_ret
  exact ⟨rfl, Below.refl _ _⟩
theorem OnesCount_l (x : Nat) (w : World) (hx : x < 2 ^ 62) : Calls Tryz.prog 35 #[.int .u64 (x : Int)] w (Ret w (.int .i64 (pop x : Nat))) := by
  go_enter Tryz.func35, Tryz.ntmps35
  go_wp2_with fail
  refine (OnesCount64_l x _ hx).mono ?_
  rintro e w1 ⟨rfl, hb1⟩
  go_wp2_with fail
  go_ret
  exact ⟨rfl, hb1⟩
end Go.Proofs.YtcgjnonlndaoeaaGreat

/- Has a region a cell? The mask of some cells: both sides. -/
namespace Go.Proofs.YtcgjnonlndaoeaaGreat
open Go.RowKit
set_option linter.unusedVariables false
attribute [local go_sem ↓] Go.wp_at_zero Go.wp_at_succ

set_option maxHeartbeats 1600000 in
theorem has_i (W : Int) (A : Option Addr) (n c : Nat) (rows : List Int) (x y : Int) (w : World) (hr : Rd w A (vI rows)) (hl : rows.length = n) (hv : isReg W rows = true) (hx : -1000 ≤ x ∧ x ≤ 1000) (hy : -1000 ≤ y ∧ y ≤ 1000) :
    Calls Tryz.prog 77 #[.agg #[.int .i64 W, .slice A n c], .int .i64 x, .int .i64 y] w (Ret w (.bool (hasR W rows (x, y)))) := by
  obtain ⟨m, rfl, hm1, hm6, hn1, hn6, hrow⟩ := isReg_yes hv
  rw [hl] at hn1 hn6
  have HL := Lib.hid hl
  have HR := Lib.hid (hr.alloc (.cells #[.int .i64 (m : Int), .slice A n c] 26))
  have HROW := Lib.hid hrow
  have hdef : hasR (m : Int) rows (x, y) = (((decide (0 ≤ x) && decide (x < m)) && (decide (0 ≤ y) && decide (y < (n : Int)))) && (rows.getD y.toNat 0).toNat.testBit x.toNat) := by unfold hasR; rw [hl]
  have HD := Lib.hid hdef
  clear hl hr hrow hv hdef
  by_cases hxm : 0 ≤ x ∧ x < m
  · by_cases hyn : 0 ≤ y ∧ y < n
    · obtain ⟨p, rfl⟩ := Int.eq_ofNat_of_zero_le hxm.1
      obtain ⟨q, rfl⟩ := Int.eq_ofNat_of_zero_le hyn.1
      have hkl : q < rows.length := by rw [HL.out]; omega
      obtain ⟨t, ht, htl⟩ := HROW.out q hkl
      have hgd : (rows.getD ((q : Int)).toNat 0).toNat = t := by rw [Int.toNat_natCast, List.getD_eq_getElem?_getD, List.getElem?_eq_getElem hkl, Option.getD_some, ht]; rfl
      have HV : Hid (hasR (m : Int) rows ((p : Int), (q : Int)) = t.testBit p) := by
        show _ = _
        rw [HD.out, hgd, Int.toNat_natCast]
        simp only [show (0 : Int) ≤ (p : Int) from by omega, show (0 : Int) ≤ (q : Int) from by omega, show (p : Int) < (m : Int) from by omega, show (q : Int) < (n : Int) from by omega, decide_true, Bool.and_true, Bool.true_and]
      have h26 : t < 2 ^ 62 := Nat.lt_of_lt_of_le htl (Nat.pow_le_pow_right (by decide) (by omega))
      have hbit := bit_testP t p h26
      have ht26 : t < 2 ^ 6 := Nat.lt_of_lt_of_le htl (Nat.pow_le_pow_right (by decide) hm6)
      obtain ⟨d, hd⟩ : ∃ d, t / 2 ^ p = d := ⟨_, rfl⟩
      have hdI : (t : Int) / 2 ^ p = (d : Int) := by rw [← hd]; simp
      rw [hdI] at hbit
      have hp0 : (0 : Int) ≤ (p : Int) := by omega
      have hp64 : (p : Int) ≤ 64 := by omega
      have hq0 : (0 : Int) ≤ (q : Int) := by omega
      have hq1 : (q : Int) < (n : Int) := by omega
      have b1 : true = (decide ((0 : Int) ≤ (p : Int)) && decide ((p : Int) ≤ (m : Int) - 1)) := by simp; omega
      have b2 : true = (decide ((0 : Int) ≤ (q : Int)) && decide ((q : Int) ≤ (n : Int) - 1)) := by simp; omega
      have B1 := Lib.hid b1
      have B2 := Lib.hid b2
      have e1 : IntKind.i64.wrap ((m : Int) - 1) = (m : Int) - 1 := Go.IntWalk.i64_in _ (by omega)
      have e2 : IntKind.i64.wrap ((n : Int) - 1) = (n : Int) - 1 := Go.IntWalk.i64_in _ (by omega)
      have HKL := Lib.hid hkl
      have HTT := Lib.hid ht
      clear ht htl hgd hd hxm hyn b1 b2 h26
      go_enter Tryz.func77, Tryz.ntmps77
      go_wp2_with fail
      refine (between_b (p : Int) 0 ((m : Int) - 1) true _ B1.out).mono ?_
      rintro e w1 ⟨rfl, hb1⟩
      have hB := (Blk.new w 26 #[.int .i64 (m : Int), .slice A n c]).below hb1
      have d0 : w1.cell? ⟨w.heap.size, 0, none⟩ = some (.int .i64 (m : Int)) := by simpa using hB.cell 0
      have d1 : w1.cell? ⟨w.heap.size, 1, none⟩ = some (.slice A n c) := by simpa using hB.cell 1
      have hgw := hB.lt
      go_wp2_with fail
      refine (between_b (q : Int) 0 ((n : Int) - 1) true _ B2.out).mono ?_
      rintro e w2 ⟨rfl, hb2⟩
      have d2 := keep_below hb2 d1
      have hgw2 : w.heap.size < w2.heap.size := Nat.lt_of_lt_of_le hgw hb2.size
      obtain ⟨g, off, hA, hg, c1⟩ := RdI.at_ ((HR.out.below hb1).below hb2) HKL.out
      rw [HTT.out] at c1
      subst hA
      go_wp2_with fail
      go_ret
      exact ⟨by rw [HV.out, ← hbit]; rfl, (by (repeat (first | with_reducible exact Below.refl _ _ | with_reducible assumption | with_reducible apply bel_alloc | with_reducible apply bel_drew | with_reducible apply bel_drewN | ((with_reducible refine bel_set ?_ ?_); rotate_left; (simp <;> omega)) | (with_reducible refine bel_trans ?_ (by with_reducible assumption)))))⟩
    · have HV : Hid (hasR (m : Int) rows (x, y) = false) := by
        show _ = _
        rw [HD.out]
        have : (decide (0 ≤ y) && decide (y < (n : Int))) = false := by
          rw [Bool.eq_false_iff]; intro h; simp only [Bool.and_eq_true, decide_eq_true_eq] at h; exact hyn h
        rw [this, Bool.and_false, Bool.false_and]
      have b1 : true = (decide ((0 : Int) ≤ x) && decide (x ≤ (m : Int) - 1)) := by simp; omega
      have b2 : false = (decide ((0 : Int) ≤ y) && decide (y ≤ (n : Int) - 1)) := by
        symm; rw [Bool.eq_false_iff]; intro h; simp only [Bool.and_eq_true, decide_eq_true_eq] at h; exact hyn ⟨h.1, by omega⟩
      have B1 := Lib.hid b1
      have B2 := Lib.hid b2
      have e1 : IntKind.i64.wrap ((m : Int) - 1) = (m : Int) - 1 := Go.IntWalk.i64_in _ (by omega)
      have e2 : IntKind.i64.wrap ((n : Int) - 1) = (n : Int) - 1 := Go.IntWalk.i64_in _ (by omega)
      clear hxm hyn b1 b2
      go_enter Tryz.func77, Tryz.ntmps77
      go_wp2_with fail
      refine (between_b x 0 ((m : Int) - 1) true _ B1.out).mono ?_
      rintro e w1 ⟨rfl, hb1⟩
      have hB := (Blk.new w 26 #[.int .i64 (m : Int), .slice A n c]).below hb1
      have d0 : w1.cell? ⟨w.heap.size, 0, none⟩ = some (.int .i64 (m : Int)) := by simpa using hB.cell 0
      have d1 : w1.cell? ⟨w.heap.size, 1, none⟩ = some (.slice A n c) := by simpa using hB.cell 1
      have hgw := hB.lt
      go_wp2_with fail
      refine (between_b y 0 ((n : Int) - 1) false _ B2.out).mono ?_
      rintro e w2 ⟨rfl, hb2⟩
      go_wp2_with fail
      go_ret
      exact ⟨by rw [HV.out]; rfl, (by (repeat (first | with_reducible exact Below.refl _ _ | with_reducible assumption | with_reducible apply bel_alloc | with_reducible apply bel_drew | with_reducible apply bel_drewN | ((with_reducible refine bel_set ?_ ?_); rotate_left; (simp <;> omega)) | (with_reducible refine bel_trans ?_ (by with_reducible assumption)))))⟩
  · have HV : Hid (hasR (m : Int) rows (x, y) = false) := by
      show _ = _
      rw [HD.out]
      have : (decide (0 ≤ x) && decide (x < (m : Int))) = false := by
        rw [Bool.eq_false_iff]; intro h; simp only [Bool.and_eq_true, decide_eq_true_eq] at h; exact hxm h
      rw [this, Bool.false_and, Bool.false_and]
    have b1 : false = (decide ((0 : Int) ≤ x) && decide (x ≤ (m : Int) - 1)) := by
      symm; rw [Bool.eq_false_iff]; intro h; simp only [Bool.and_eq_true, decide_eq_true_eq] at h; exact hxm ⟨h.1, by omega⟩
    have B1 := Lib.hid b1
    have e1 : IntKind.i64.wrap ((m : Int) - 1) = (m : Int) - 1 := Go.IntWalk.i64_in _ (by omega)
    clear hxm b1
    go_enter Tryz.func77, Tryz.ntmps77
    go_wp2_with fail
    refine (between_b x 0 ((m : Int) - 1) false _ B1.out).mono ?_
    rintro e w1 ⟨rfl, hb1⟩
    go_wp2_with fail
    go_ret
    exact ⟨by rw [HV.out]; rfl, (by (repeat (first | with_reducible exact Below.refl _ _ | with_reducible assumption | with_reducible apply bel_alloc | with_reducible apply bel_drew | with_reducible apply bel_drewN | ((with_reducible refine bel_set ?_ ?_); rotate_left; (simp <;> omega)) | (with_reducible refine bel_trans ?_ (by with_reducible assumption)))))⟩
set_option maxHeartbeats 1600000 in
theorem l6In_s (W : Int) (A : Option Addr) (n c : Nat) (rows : List Int) (x y : Int) (w : World) (hr : Rd w A (vI rows)) (hl : rows.length = n) (hv : isReg W rows = true) (hx : -1000 ≤ x ∧ x ≤ 1000) (hy : -1000 ≤ y ∧ y ≤ 1000) :
    Calls Tryz.prog 94 #[.agg #[.int .i64 W, .slice A n c], .int .i64 x, .int .i64 y] w (Ret w (.bool (hasR W rows (x, y)))) := by
  obtain ⟨m, rfl, hm1, hm6, hn1, hn6, hrow⟩ := isReg_yes hv
  rw [hl] at hn1 hn6
  have HL := Lib.hid hl
  have HR := Lib.hid (hr.alloc (.cells #[.int .i64 (m : Int), .slice A n c] 26))
  have HROW := Lib.hid hrow
  have hdef : hasR (m : Int) rows (x, y) = (((decide (0 ≤ x) && decide (x < m)) && (decide (0 ≤ y) && decide (y < (n : Int)))) && (rows.getD y.toNat 0).toNat.testBit x.toNat) := by unfold hasR; rw [hl]
  have HD := Lib.hid hdef
  clear hl hr hrow hv hdef
  cases c1 : decide (x ≥ 0) with
  | false =>
    have HV : Hid (hasR (m : Int) rows (x, y) = false) := by show _ = _; rw [HD.out, show decide (0 ≤ x) = false from c1]; rfl
    go_enter Tryz.func94, Tryz.ntmps94
    go_wp2_with fail
    go_ret
    exact ⟨by rw [HV.out]; rfl, (by (repeat (first | with_reducible exact Below.refl _ _ | with_reducible assumption | with_reducible apply bel_alloc | with_reducible apply bel_drew | with_reducible apply bel_drewN | ((with_reducible refine bel_set ?_ ?_); rotate_left; (simp <;> omega)) | (with_reducible refine bel_trans ?_ (by with_reducible assumption)))))⟩
  | true =>
    cases c2 : decide (y ≥ 0) with
    | false =>
      have HV : Hid (hasR (m : Int) rows (x, y) = false) := by show _ = _; rw [HD.out, show decide (0 ≤ y) = false from c2]; simp
      go_enter Tryz.func94, Tryz.ntmps94
      go_wp2_with fail
      go_ret
      exact ⟨by rw [HV.out]; rfl, (by (repeat (first | with_reducible exact Below.refl _ _ | with_reducible assumption | with_reducible apply bel_alloc | with_reducible apply bel_drew | with_reducible apply bel_drewN | ((with_reducible refine bel_set ?_ ?_); rotate_left; (simp <;> omega)) | (with_reducible refine bel_trans ?_ (by with_reducible assumption)))))⟩
    | true =>
      cases c3 : decide (x < (m : Int)) with
      | false =>
        have HV : Hid (hasR (m : Int) rows (x, y) = false) := by show _ = _; rw [HD.out, c3]; simp
        go_enter Tryz.func94, Tryz.ntmps94
        go_wp2_with fail
        go_ret
        exact ⟨by rw [HV.out]; rfl, (by (repeat (first | with_reducible exact Below.refl _ _ | with_reducible assumption | with_reducible apply bel_alloc | with_reducible apply bel_drew | with_reducible apply bel_drewN | ((with_reducible refine bel_set ?_ ?_); rotate_left; (simp <;> omega)) | (with_reducible refine bel_trans ?_ (by with_reducible assumption)))))⟩
      | true =>
        cases c4 : decide (y < (n : Int)) with
        | false =>
          have HV : Hid (hasR (m : Int) rows (x, y) = false) := by show _ = _; rw [HD.out, c4]; simp
          go_enter Tryz.func94, Tryz.ntmps94
          go_wp2_with fail
          go_ret
          exact ⟨by rw [HV.out]; rfl, (by (repeat (first | with_reducible exact Below.refl _ _ | with_reducible assumption | with_reducible apply bel_alloc | with_reducible apply bel_drew | with_reducible apply bel_drewN | ((with_reducible refine bel_set ?_ ?_); rotate_left; (simp <;> omega)) | (with_reducible refine bel_trans ?_ (by with_reducible assumption)))))⟩
        | true =>
          have hx0 := of_decide_eq_true c1
          have hy0 := of_decide_eq_true c2
          have hx1 := of_decide_eq_true c3
          have hy1 := of_decide_eq_true c4
          obtain ⟨p, rfl⟩ := Int.eq_ofNat_of_zero_le hx0
          obtain ⟨q, rfl⟩ := Int.eq_ofNat_of_zero_le hy0
          have hkl : q < rows.length := by rw [HL.out]; omega
          obtain ⟨t, ht, htl⟩ := HROW.out q hkl
          have hgd : (rows.getD ((q : Int)).toNat 0).toNat = t := by rw [Int.toNat_natCast, List.getD_eq_getElem?_getD, List.getElem?_eq_getElem hkl, Option.getD_some, ht]; rfl
          have HV : Hid (hasR (m : Int) rows ((p : Int), (q : Int)) = t.testBit p) := by
            show _ = _
            rw [HD.out, hgd, Int.toNat_natCast, show decide ((0 : Int) ≤ (p : Int)) = true from c1, show decide ((0 : Int) ≤ (q : Int)) = true from c2, c3, c4]
            simp
          have h26 : t < 2 ^ 62 := Nat.lt_of_lt_of_le htl (Nat.pow_le_pow_right (by decide) (by omega))
          have hbit := bit_testP t p h26
          have ht26 : t < 2 ^ 6 := Nat.lt_of_lt_of_le htl (Nat.pow_le_pow_right (by decide) hm6)
          obtain ⟨d, hd⟩ : ∃ d, t / 2 ^ p = d := ⟨_, rfl⟩
          have hdI : (t : Int) / 2 ^ p = (d : Int) := by rw [← hd]; simp
          rw [hdI] at hbit
          have hp64 : (p : Int) ≤ 64 := by omega
          have HRR := HR.out
          obtain ⟨g, off, hA, hg, c9⟩ := RdI.at_ HRR hkl
          rw [ht] at c9
          subst hA
          clear ht htl hgd hd h26 HRR
          go_enter Tryz.func94, Tryz.ntmps94
          go_wp2_with fail
          go_ret
          exact ⟨by rw [HV.out, ← hbit]; rfl, (by (repeat (first | with_reducible exact Below.refl _ _ | with_reducible assumption | with_reducible apply bel_alloc | with_reducible apply bel_drew | with_reducible apply bel_drewN | ((with_reducible refine bel_set ?_ ?_); rotate_left; (simp <;> omega)) | (with_reducible refine bel_trans ?_ (by with_reducible assumption)))))⟩
theorem InRegion_s (W : Int) (A : Option Addr) (n c : Nat) (rows : List Int) (x y : Int) (w : World) (hr : Rd w A (vI rows)) (hl : rows.length = n) (hx : -1000 ≤ x ∧ x ≤ 1000) (hy : -1000 ≤ y ∧ y ≤ 1000) :
    Calls Tryz.prog 82 #[.agg #[.int .i64 W, .slice A n c], .int .i64 x, .int .i64 y] w (Ret w (.bool (isReg W rows && hasR W rows (x, y)))) := by
  have HL := Lib.hid hl
  have HR := Lib.hid (hr.alloc (.cells #[.int .i64 W, .slice A n c] 26))
  have HX := Lib.hid hx
  have HY := Lib.hid hy
  clear hl hr hx hy
  cases hv : isReg W rows with
  | false =>
    have HV := Lib.hid hv
    clear hv
    go_enter Tryz.func82, Tryz.ntmps82
    go_wp2_with fail
    refine (IsRegion_s _ _ _ _ rows _ HR.out HL.out).mono ?_
    rw [HV.out]
    rintro e w1 ⟨rfl, hb1⟩
    go_wp2_with fail
    go_ret
    exact ⟨rfl, (by (repeat (first | with_reducible exact Below.refl _ _ | with_reducible assumption | with_reducible apply bel_alloc | with_reducible apply bel_drew | with_reducible apply bel_drewN | ((with_reducible refine bel_set ?_ ?_); rotate_left; (simp <;> omega)) | (with_reducible refine bel_trans ?_ (by with_reducible assumption)))))⟩
  | true =>
    have HV := Lib.hid hv
    clear hv
    go_enter Tryz.func82, Tryz.ntmps82
    go_wp2_with fail
    refine (IsRegion_s _ _ _ _ rows _ HR.out HL.out).mono ?_
    rw [HV.out]
    rintro e w1 ⟨rfl, hb1⟩
    have hB := (Blk.new w 26 #[.int .i64 W, .slice A n c]).below hb1
    have d0 : w1.cell? ⟨w.heap.size, 0, none⟩ = some (.int .i64 W) := by simpa using hB.cell 0
    have d1 : w1.cell? ⟨w.heap.size, 1, none⟩ = some (.slice A n c) := by simpa using hB.cell 1
    have hgw := hB.lt
    go_wp2_with fail
    refine (l6In_s _ _ _ _ rows x y _ (HR.out.below hb1) HL.out HV.out HX.out HY.out).mono ?_
    rintro e w2 ⟨rfl, hb2⟩
    go_wp2_with fail
    go_ret
    exact ⟨by simp, (by (repeat (first | with_reducible exact Below.refl _ _ | with_reducible assumption | with_reducible apply bel_alloc | with_reducible apply bel_drew | with_reducible apply bel_drewN | ((with_reducible refine bel_set ?_ ?_); rotate_left; (simp <;> omega)) | (with_reducible refine bel_trans ?_ (by with_reducible assumption)))))⟩
theorem mc_num {m n : Nat} {rows : List Int} {x y : Int} (h36 : m * rows.length ≤ 36) (h : hasR (m : Int) rows (x, y) = true) :
    ∃ p q s j : Nat, x = (p : Int) ∧ y = (q : Int) ∧ p < m ∧ (q : Int) * (m : Int) = (s : Int) ∧ (s : Int) + (p : Int) = (j : Int) ∧ posM m (x, y) = j ∧ j < 36 ∧ j < m * rows.length ∧ s ≤ 36 := by
  obtain ⟨p, q, e, h1, h2, h3, h4⟩ := hasR_pos h
  injection e with e1 e2
  exact ⟨p, q, q * m, q * m + p, e1, e2, h1, by simp, by simp, h3, by omega, h4, by omega⟩
set_option maxRecDepth 100000 in
set_option maxHeartbeats 3200000 in
theorem MaskOfCells_i (W : Int) (A B : Option Addr) (n c k cb : Nat) (rows : List Int) (cs : List C) (w : World) (hr : Rd w A (vI rows)) (hl : rows.length = n) (hv : isReg W rows = true) (hrc : Rd w B (vC cs)) (hlc : cs.length = k) (hk : k ≤ 1048576) (hs : ∀ d ∈ cs, small d) :
    Calls Tryz.prog 53 #[.agg #[.int .i64 W, .slice A n c], .slice B k cb] w (Ret w (mcR (mcV W rows cs 0))) := by
  have hv0 := hv
  obtain ⟨m, rfl, hm1, hm6, hn1, hn6, hrow⟩ := isReg_yes hv
  have h36 : m * rows.length ≤ 6 * 6 := Nat.mul_le_mul hm6 hn6
  have HL := Lib.hid hl
  have HV := Lib.hid hv0
  have HR := Lib.hid (hr.alloc (.cells #[.int .i64 (m : Int), .slice A n c] 26))
  have HRC := Lib.hid (hrc.alloc (.cells #[.int .i64 (m : Int), .slice A n c] 26))
  have HLC := Lib.hid hlc
  have HS := Lib.hid hs
  have H36 : Hid (m * rows.length ≤ 36) := h36
  have hmt : ((m : Int)).toNat = m := Int.toNat_natCast _
  have HMT := Lib.hid hmt
  clear hl hr hrow hv hv0 hrc hlc hs h36 hn1 hn6 hmt
  go_enter Tryz.func53, Tryz.ntmps53
  go_wp2_with fail
  refine (IsRegion_i _ _ _ _ rows _ HR.out HL.out).mono ?_
  rw [HV.out]
  rintro e w1 ⟨rfl, hb1⟩
  have HB1 := Lib.hid ((Blk.new w 26 #[.int .i64 (m : Int), .slice A n c]).below hb1)
  have HR1 := Lib.hid (HR.out.below hb1)
  have HRC1 := Lib.hid (HRC.out.below hb1)
  have hbw1 : Below w.heap.size w w1 := bel_trans (bel_alloc (Below.refl _ _) _) hb1
  clear hb1
  go_wp2_with fail
  go_loopw [14, 6] (fun e14 e6 wr => ∃ (i v : Nat), i ≤ k ∧ e14 = .int .i64 i ∧ e6 = .int .i64 (v : Int) ∧ v < 2 ^ (m * rows.length) ∧ mcV (m : Int) rows cs 0 = mcV (m : Int) rows (cs.drop i) v ∧ Below w1.heap.size w1 wr) (fun e14 _ _ => k - (intOf e14).toNat)
  case atStart => exact ⟨0, 0, Nat.zero_le _, rfl, rfl, Nat.pow_pos (by decide), rfl, Below.refl _ _⟩
  case round =>
    obtain ⟨i, v, hi, rfl, rfl, hvl, hmc, hb⟩ := hrel
    have hv36 : v < 2 ^ 36 := Nat.lt_of_lt_of_le hvl (Nat.pow_le_pow_right (by decide) H36.out)
    by_cases hlt : i < k
    · have hkl : i < cs.length := by rw [HLC.out]; exact hlt
      have hi0 : (0 : Int) ≤ (i : Int) := by omega
      have hi1 : (i : Int) < (k : Int) := by omega
      obtain ⟨g, off, hA, hg, d1, d2⟩ := RdC.at_ (HRC1.out.below hb) hkl
      have hsm := HS.out _ (List.getElem_mem hkl)
      rw [List.drop_eq_getElem_cons hkl] at hmc
      obtain ⟨x, hx⟩ : ∃ x, cs[i].1 = x := ⟨_, rfl⟩
      obtain ⟨y, hy⟩ : ∃ y, cs[i].2 = y := ⟨_, rfl⟩
      rw [show cs[i] = (x, y) from Prod.ext hx hy] at hmc hsm
      rw [hx] at d1
      rw [hy] at d2
      unfold small at hsm
      simp only at hsm
      have hNO : (hasR (m : Int) rows (x, y) && !v.testBit (posM m (x, y))) = false → mcV (m : Int) rows cs 0 = none := fun h => by rw [hmc]; exact mcV_no (by rw [HMT.out]; exact h)
      have hYES : (hasR (m : Int) rows (x, y) && !v.testBit (posM m (x, y))) = true → mcV (m : Int) rows cs 0 = mcV (m : Int) rows (cs.drop (i + 1)) (v + 2 ^ posM m (x, y)) := fun h => by rw [hmc, mcV_yes (by rw [HMT.out]; exact h), HMT.out]
      have HNO := Lib.hid hNO
      have HYES := Lib.hid hYES
      have HSX := Lib.hid hsm.1
      have HSY := Lib.hid hsm.2
      have hB := HB1.out.below hb
      have b0 : wr.cell? ⟨w.heap.size, 0, none⟩ = some (.int .i64 (m : Int)) := by simpa using hB.cell 0
      have b1 : wr.cell? ⟨w.heap.size, 1, none⟩ = some (.slice A n c) := by simpa using hB.cell 1
      have hgw := hB.lt
      have HVL := Lib.hid hvl
      subst hA
      clear hmc hx hy hsm hB hNO hYES hvl
      cases hh : hasR (m : Int) rows (x, y) with
      | false =>
        have HH := Lib.hid hh
        have HN := Lib.hid (HNO.out (by rw [hh]; rfl))
        clear hh HNO HYES
        go_wp2_with fail
        refine (has_i (m : Int) A n c rows x y _ ((HR1.out.below hb).alloc _) HL.out HV.out HSX.out HSY.out).mono ?_
        rw [HH.out]
        rintro e w2 ⟨rfl, hb2⟩
        go_wp2_with fail
        go_ret2
        exact ⟨by rw [HN.out]; rfl, bel_trans hbw1 (bel_trans hb (bel_trans (bel_alloc (Below.refl _ _) _) hb2))⟩
      | true =>
        have HH := Lib.hid hh
        obtain ⟨p, q, s, j, rfl, rfl, hpm, hs, hj, hpos, hj36, hjl, hs36⟩ := mc_num H36.out hh (n := n)
        have hj0 : (0 : Int) ≤ (j : Int) := by omega
        have hj64 : (j : Int) ≤ 64 := by omega
        have hv62 : v < 2 ^ 62 := by omega
        have hbit := bit_testP v j hv62
        obtain ⟨d, hd⟩ : ∃ d, v / 2 ^ j = d := ⟨_, rfl⟩
        have hdI : (v : Int) / 2 ^ j = (d : Int) := by rw [← hd]; simp
        rw [hdI] at hbit
        have es : IntKind.i64.wrap (s : Int) = (s : Int) := Go.IntWalk.i64_in _ (by omega)
        have ej : IntKind.i64.wrap (j : Int) = (j : Int) := Go.IntWalk.i64_in _ (by omega)
        have h2j : (2 : Nat) ^ j < 2 ^ 36 := Nat.pow_lt_pow_right (by decide) hj36
        obtain ⟨t, ht⟩ : ∃ t : Nat, 2 ^ j = t := ⟨_, rfl⟩
        have htI : (2 : Int) ^ j = (t : Int) := by rw [← ht]; simp
        have hdT : (v : Int) / (t : Int) = (d : Int) := by rw [← htI]; exact hdI
        clear hdI
        rw [hpos] at HNO HYES
        rw [ht] at HYES
        have hTT : v.testBit j = false → v ||| t = v + t ∧ v + t < 2 ^ (m * rows.length) := fun h => by
          have h1 := or_bit hv62 (by omega) h
          rw [ht] at h1
          refine ⟨h1, ?_⟩
          rw [← h1, ← ht]
          exact Nat.or_lt_two_pow HVL.out (Nat.pow_lt_pow_right (by decide) hjl)
        have HTT := Lib.hid hTT
        rw [ht] at h2j
        clear hh hpos hd ht hTT
        cases hb2 : v.testBit j with
        | true =>
          have HN := Lib.hid (HNO.out (by rw [HH.out, hb2]; rfl))
          rw [hb2] at hbit
          clear hb2 HNO HYES HTT
          go_wp2_with fail
          refine (has_i (m : Int) A n c rows (p : Int) (q : Int) _ ((HR1.out.below hb).alloc _) HL.out HV.out HSX.out HSY.out).mono ?_
          rw [HH.out]
          rintro e w2 ⟨rfl, hb2⟩
          have hDK := (Blk.new wr 80 #[.int .i64 (p : Int), .int .i64 (q : Int)]).below hb2
          have c0 : w2.cell? ⟨wr.heap.size, 0, none⟩ = some (.int .i64 (p : Int)) := by simpa using hDK.cell 0
          have c1 : w2.cell? ⟨wr.heap.size, 1, none⟩ = some (.int .i64 (q : Int)) := by simpa using hDK.cell 1
          have cl := hDK.lt
          have y0 := keep_below hb2 (keep_alloc (o := .cells #[.int .i64 (p : Int), .int .i64 (q : Int)] 80) b0)
          have yl : w.heap.size < w2.heap.size := by omega
          clear hDK d1 d2 b0 b1
          go_wp2_with fail
          go_ret2
          exact ⟨by rw [HN.out]; rfl, bel_trans hbw1 (bel_trans hb (bel_trans (bel_alloc (Below.refl _ _) _) hb2))⟩
        | false =>
          have HN := Lib.hid (HYES.out (by rw [HH.out, hb2]; rfl))
          rw [hb2] at hbit
          obtain ⟨h1, h2⟩ := HTT.out hb2
          have hor : bits .or .i64 (v : Int) (t : Int) = ((v + t : Nat) : Int) := by rw [i64_or v t (by omega) (by omega), h1]
          have H2 := Lib.hid h2
          have HOR := Lib.hid hor
          clear hb2 HNO HYES HTT h1 h2 hor
          go_wp2_with fail
          refine (has_i (m : Int) A n c rows (p : Int) (q : Int) _ ((HR1.out.below hb).alloc _) HL.out HV.out HSX.out HSY.out).mono ?_
          rw [HH.out]
          rintro e w2 ⟨rfl, hb2⟩
          have hDK := (Blk.new wr 80 #[.int .i64 (p : Int), .int .i64 (q : Int)]).below hb2
          have c0 : w2.cell? ⟨wr.heap.size, 0, none⟩ = some (.int .i64 (p : Int)) := by simpa using hDK.cell 0
          have c1 : w2.cell? ⟨wr.heap.size, 1, none⟩ = some (.int .i64 (q : Int)) := by simpa using hDK.cell 1
          have cl := hDK.lt
          have y0 := keep_below hb2 (keep_alloc (o := .cells #[.int .i64 (p : Int), .int .i64 (q : Int)] 80) b0)
          have yl : w.heap.size < w2.heap.size := by omega
          have hor := HOR.out
          clear hDK d1 d2 b0 b1
          go_wp2_with fail
          exact ⟨⟨i + 1, v + t, by omega, by go_num, rfl, H2.out, HN.out, bel_trans hb (bel_trans (bel_alloc (Below.refl _ _) _) hb2)⟩, by simp [intOf]; omega⟩
    · obtain rfl : i = k := by omega
      rw [List.drop_of_length_le (by rw [HLC.out]; omega)] at hmc
      have HN := Lib.hid hmc
      have hi1 : ¬ (i : Int) < (i : Int) := by omega
      clear hmc hvl
      go_wp2_with fail
      go_ret2
      exact ⟨by rw [HN.out]; rfl, bel_trans hbw1 hb⟩
set_option maxRecDepth 100000 in
set_option maxHeartbeats 3200000 in
theorem MaskOfCells_s (W : Int) (A B : Option Addr) (n c k cb : Nat) (rows : List Int) (cs : List C) (w : World) (hr : Rd w A (vI rows)) (hl : rows.length = n) (hv : isReg W rows = true) (hrc : Rd w B (vC cs)) (hlc : cs.length = k) (hk : k ≤ 1048576) (hs : ∀ d ∈ cs, small d) :
    Calls Tryz.prog 61 #[.agg #[.int .i64 W, .slice A n c], .slice B k cb] w (Ret w (mcR (mcV W rows cs 0))) := by
  have hv0 := hv
  obtain ⟨m, rfl, hm1, hm6, hn1, hn6, hrow⟩ := isReg_yes hv
  have h36 : m * rows.length ≤ 6 * 6 := Nat.mul_le_mul hm6 hn6
  have HL := Lib.hid hl
  have HV := Lib.hid hv0
  have HR := Lib.hid (hr.alloc (.cells #[.int .i64 (m : Int), .slice A n c] 26))
  have HRC := Lib.hid (hrc.alloc (.cells #[.int .i64 (m : Int), .slice A n c] 26))
  have HLC := Lib.hid hlc
  have HS := Lib.hid hs
  have H36 : Hid (m * rows.length ≤ 36) := h36
  have hmt : ((m : Int)).toNat = m := Int.toNat_natCast _
  have HMT := Lib.hid hmt
  have HB1 := Lib.hid (Blk.new w 26 #[.int .i64 (m : Int), .slice A n c])
  have hbw1 : Below w.heap.size w (w.alloc (.cells #[.int .i64 (m : Int), .slice A n c] 26)) := bel_alloc (Below.refl _ _) _
  clear hl hr hrow hv hv0 hrc hlc hs h36 hn1 hn6 hmt
  go_enter Tryz.func61, Tryz.ntmps61
  go_wp2_with fail
  obtain ⟨w1, hw1⟩ : ∃ w1, w.alloc (.cells #[.int .i64 (m : Int), .slice A n c] 26) = w1 := ⟨_, rfl⟩
  rw [hw1] at HR HRC HB1 hbw1 ⊢
  clear hw1
  go_loopw [7, 6] (fun e14 e6 wr => ∃ (i v : Nat), i ≤ k ∧ e14 = .int .i64 i ∧ e6 = .int .i64 (v : Int) ∧ v < 2 ^ (m * rows.length) ∧ mcV (m : Int) rows cs 0 = mcV (m : Int) rows (cs.drop i) v ∧ Below w1.heap.size w1 wr) (fun e14 _ _ => k - (intOf e14).toNat)
  case atStart => exact ⟨0, 0, Nat.zero_le _, rfl, rfl, Nat.pow_pos (by decide), rfl, Below.refl _ _⟩
  case round =>
    obtain ⟨i, v, hi, rfl, rfl, hvl, hmc, hb⟩ := hrel
    have hv36 : v < 2 ^ 36 := Nat.lt_of_lt_of_le hvl (Nat.pow_le_pow_right (by decide) H36.out)
    have hB := HB1.out.below hb
    have b0 : wr.cell? ⟨w.heap.size, 0, none⟩ = some (.int .i64 (m : Int)) := by simpa using hB.cell 0
    have b1 : wr.cell? ⟨w.heap.size, 1, none⟩ = some (.slice A n c) := by simpa using hB.cell 1
    have hgw := hB.lt
    clear hB
    by_cases hlt : i < k
    · have hkl : i < cs.length := by rw [HLC.out]; exact hlt
      have hi0 : (0 : Int) ≤ (i : Int) := by omega
      have hi1 : (i : Int) < (k : Int) := by omega
      obtain ⟨g, off, hA, hg, d1, d2⟩ := RdC.at_ (HRC.out.below hb) hkl
      have hsm := HS.out _ (List.getElem_mem hkl)
      rw [List.drop_eq_getElem_cons hkl] at hmc
      obtain ⟨x, hx⟩ : ∃ x, cs[i].1 = x := ⟨_, rfl⟩
      obtain ⟨y, hy⟩ : ∃ y, cs[i].2 = y := ⟨_, rfl⟩
      rw [show cs[i] = (x, y) from Prod.ext hx hy] at hmc hsm
      rw [hx] at d1
      rw [hy] at d2
      unfold small at hsm
      simp only at hsm
      have hNO : (hasR (m : Int) rows (x, y) && !v.testBit (posM m (x, y))) = false → mcV (m : Int) rows cs 0 = none := fun h => by rw [hmc]; exact mcV_no (by rw [HMT.out]; exact h)
      have hYES : (hasR (m : Int) rows (x, y) && !v.testBit (posM m (x, y))) = true → mcV (m : Int) rows cs 0 = mcV (m : Int) rows (cs.drop (i + 1)) (v + 2 ^ posM m (x, y)) := fun h => by rw [hmc, mcV_yes (by rw [HMT.out]; exact h), HMT.out]
      have HNO := Lib.hid hNO
      have HYES := Lib.hid hYES
      have HSX := Lib.hid hsm.1
      have HSY := Lib.hid hsm.2
      have HVL := Lib.hid hvl
      subst hA
      clear hmc hx hy hsm hNO hYES hvl
      cases hh : hasR (m : Int) rows (x, y) with
      | false =>
        have HIR : Hid (∀ w0, Below wr.heap.size wr w0 → Calls Tryz.prog 82 #[.agg #[.int .i64 (m : Int), .slice A n c], .int .i64 x, .int .i64 y] w0 (Ret w0 (.bool false))) := fun w0 h => by
          have h2 := InRegion_s (m : Int) A n c rows x y w0 ((HR.out.below hb).below h) HL.out HSX.out HSY.out
          rw [HV.out, hh] at h2
          exact h2
        have HN := Lib.hid (HNO.out (by rw [hh]; rfl))
        clear hh HNO HYES
        go_wp2_with fail
        (refine wp_region_below (by kernel_rfl) (by kernel_rfl) ?_; (repeat (first | go_big_quiet_skip | (refine quietV (v := ?_) (by rfl) rfl (fun w' hbw => ?_) ?_; rotate_left; ((try dsimp only at hbw); have hbc := (bcell hbw).1; have hbf := (bcell hbw).2; go_simp; first | done | with_reducible rfl | (with_reducible exact callsB (v := .bool false) (HIR.out _ hbw) hbw)); simp only [List.setIfInBounds_toArray, List.set_cons_zero, List.set_cons_succ]))); refine wpQuiet_nil ?_; intro wq hbq)
        go_wp2_with fail
        go_ret2
        exact ⟨by rw [HN.out]; rfl, bel_trans hbw1 (bel_trans hb hbq)⟩
      | true =>
        have HH := Lib.hid hh
        obtain ⟨p, q, s, j, rfl, rfl, hpm, hs, hj, hpos, hj36, hjl, hs36⟩ := mc_num H36.out hh (n := n)
        have HIR : Hid (∀ w0, Below wr.heap.size wr w0 → Calls Tryz.prog 82 #[.agg #[.int .i64 (m : Int), .slice A n c], .int .i64 (p : Int), .int .i64 (q : Int)] w0 (Ret w0 (.bool true))) := fun w0 h => by
          have h2 := InRegion_s (m : Int) A n c rows (p : Int) (q : Int) w0 ((HR.out.below hb).below h) HL.out HSX.out HSY.out
          rw [HV.out, hh] at h2
          exact h2
        have hj0 : (0 : Int) ≤ (j : Int) := by omega
        have hj64 : (j : Int) ≤ 64 := by omega
        have hv62 : v < 2 ^ 62 := by omega
        have hbit := bit_testP v j hv62
        obtain ⟨d, hd⟩ : ∃ d, v / 2 ^ j = d := ⟨_, rfl⟩
        have hdI : (v : Int) / 2 ^ j = (d : Int) := by rw [← hd]; simp
        rw [hdI] at hbit
        have es : IntKind.i64.wrap (s : Int) = (s : Int) := Go.IntWalk.i64_in _ (by omega)
        have ej : IntKind.i64.wrap (j : Int) = (j : Int) := Go.IntWalk.i64_in _ (by omega)
        have h2j : (2 : Nat) ^ j < 2 ^ 36 := Nat.pow_lt_pow_right (by decide) hj36
        obtain ⟨t, ht⟩ : ∃ t : Nat, 2 ^ j = t := ⟨_, rfl⟩
        have htI : (2 : Int) ^ j = (t : Int) := by rw [← ht]; simp
        have hdT : (v : Int) / (t : Int) = (d : Int) := by rw [← htI]; exact hdI
        rw [hpos] at HNO HYES
        rw [ht] at HYES
        have hTT : v.testBit j = false → v + t < 2 ^ (m * rows.length) := fun h => by
          have h1 := or_bit hv62 (by omega) h
          rw [ht] at h1
          rw [← h1, ← ht]
          exact Nat.or_lt_two_pow HVL.out (Nat.pow_lt_pow_right (by decide) hjl)
        have HTT := Lib.hid hTT
        rw [ht] at h2j
        have et : IntKind.i64.wrap (t : Int) = (t : Int) := Go.IntWalk.i64_in _ (by omega)
        obtain ⟨u, hu⟩ : ∃ u, u = v + t := ⟨_, rfl⟩
        have huI : (v : Int) + (t : Int) = (u : Int) := by omega
        have eu : IntKind.i64.wrap (u : Int) = (u : Int) := Go.IntWalk.i64_in _ (by omega)
        rw [← hu] at HTT HYES
        clear hh hpos hd ht hTT hu hdI
        cases hb2 : v.testBit j with
        | true =>
          have HN := Lib.hid (HNO.out (by rw [HH.out, hb2]; rfl))
          rw [hb2] at hbit
          clear hb2 HNO HYES HTT
          go_wp2_with fail
          (refine wp_region_below (by kernel_rfl) (by kernel_rfl) ?_; (repeat (first | go_big_quiet_skip | (refine quietV (v := ?_) (by rfl) rfl (fun w' hbw => ?_) ?_; rotate_left; ((try dsimp only at hbw); have hbc := (bcell hbw).1; have hbf := (bcell hbw).2; go_simp; first | done | with_reducible rfl | (with_reducible exact callsB (v := .bool true) (HIR.out _ hbw) hbw)); simp only [List.setIfInBounds_toArray, List.set_cons_zero, List.set_cons_succ]))); refine wpQuiet_nil ?_; intro wq hbq)
          go_wp2_with fail
          go_ret2
          exact ⟨by rw [HN.out]; rfl, bel_trans hbw1 (bel_trans hb hbq)⟩
        | false =>
          have HN := Lib.hid (HYES.out (by rw [HH.out, hb2]; rfl))
          rw [hb2] at hbit
          have H2 := Lib.hid (HTT.out hb2)
          clear hb2 HNO HYES HTT
          go_wp2_with fail
          (refine wp_region_below (by kernel_rfl) (by kernel_rfl) ?_; (repeat (first | go_big_quiet_skip | (refine quietV (v := ?_) (by rfl) rfl (fun w' hbw => ?_) ?_; rotate_left; ((try dsimp only at hbw); have hbc := (bcell hbw).1; have hbf := (bcell hbw).2; go_simp; first | done | with_reducible rfl | (with_reducible exact callsB (v := .bool true) (HIR.out _ hbw) hbw)); simp only [List.setIfInBounds_toArray, List.set_cons_zero, List.set_cons_succ]))); refine wpQuiet_nil ?_; intro wq hbq)
          have b0' := keep_below hbq b0
          have d1' := keep_below hbq d1
          have d2' := keep_below hbq d2
          have hgw' : w.heap.size < wq.heap.size := Nat.lt_of_lt_of_le hgw hbq.size
          have hg' : g < wq.heap.size := Nat.lt_of_lt_of_le hg hbq.size
          clear b0 b1 d1 d2 HIR
          go_wp2_with fail
          (refine wp_region_below (by kernel_rfl) (by kernel_rfl) ?_; (repeat (first | go_big_quiet_skip | (refine quietV (v := ?_) (by rfl) rfl (fun w' hbw => ?_) ?_; rotate_left; ((try dsimp only at hbw); have hbc := (bcell hbw).1; have hbf := (bcell hbw).2; go_simp; first | done | with_reducible rfl | fail); simp only [List.setIfInBounds_toArray, List.set_cons_zero, List.set_cons_succ]))); refine wpQuiet_nil ?_; intro wz hbz)
          go_wp2_with fail
          exact ⟨⟨i + 1, u, by omega, by go_num, by first | rfl | (simp <;> omega), H2.out, HN.out, bel_trans hb (bel_trans hbq hbz)⟩, by simp [intOf]; omega⟩
    · obtain rfl : i = k := by omega
      rw [List.drop_of_length_le (by rw [HLC.out]; omega)] at hmc
      have HN := Lib.hid hmc
      have hi1 : ¬ (i : Int) < (i : Int) := by omega
      clear hmc hvl
      go_wp2_with fail
      refine (IsRegion_s _ _ _ _ rows _ (HR.out.below hb) HL.out).mono ?_
      rw [HV.out]
      rintro e w2 ⟨rfl, hb2⟩
      go_wp2_with fail
      go_ret2
      exact ⟨by rw [HN.out]; rfl, bel_trans hbw1 (bel_trans hb hb2)⟩
end Go.Proofs.YtcgjnonlndaoeaaGreat

/- Insertion sort by exchanges of neighbours, on lists. No program is in sight. -/
namespace Go.Proofs.YtcgjnonlndaoeaaGreat
open Go.RowKit
set_option linter.unusedVariables false
section
variable {α : Type} [Inhabited α] {lt : α → α → Bool}
/-- The elements at i and j exchanged. -/
def swL (l : List α) (i j : Nat) : List α := (l.set i (l.getD j default)).set j (l.getD i default)
theorem swL_len (l : List α) (i j : Nat) : (swL l i j).length = l.length := by simp [swL]
theorem getD_in (l : List α) {i : Nat} (h : i < l.length) : l.getD i default = l[i] := by rw [List.getD_eq_getElem?_getD, List.getElem?_eq_getElem h]; rfl
theorem swL_get (l : List α) {i j : Nat} (hi : i < l.length) (hj : j < l.length) (k : Nat) : (swL l i j).getD k default = if k = j then l.getD i default else if k = i then l.getD j default else l.getD k default := by
  unfold swL
  simp only [List.getD_eq_getElem?_getD, List.getElem?_set, List.length_set]
  by_cases h1 : j = k
  · subst h1
    simp [hj]
  · simp only [if_neg h1]
    rw [if_neg (Ne.symm h1)]
    by_cases h2 : i = k
    · subst h2
      simp [hi]
    · simp only [if_neg h2]
      rw [if_neg (Ne.symm h2)]
theorem swL_mem (l : List α) {i j : Nat} (hi : i < l.length) (hj : j < l.length) (x : α) : x ∈ swL l i j ↔ x ∈ l := by
  have key : ∀ (l : List α) (i j : Nat), i < l.length → j < l.length → x ∈ swL l i j → x ∈ l := by
    intro l i j hi hj h
    obtain ⟨k, hk, rfl⟩ := List.mem_iff_getElem.1 h
    rw [← getD_in _ hk, swL_get l hi hj]
    split
    · exact getD_mem hi
    · split
      · exact getD_mem hj
      · exact getD_mem (by rw [swL_len] at hk; exact hk)
  refine ⟨key l i j hi hj, fun h => ?_⟩
  obtain ⟨k, hk, rfl⟩ := List.mem_iff_getElem.1 h
  rw [← getD_in _ hk]
  have hm : ∀ q, q < l.length → (swL l i j).getD q default ∈ swL l i j := fun q hq => getD_mem (by rw [swL_len]; exact hq)
  by_cases h1 : k = i
  · subst h1
    have := hm j hj
    rwa [swL_get l hi hj, if_pos rfl] at this
  · by_cases h2 : k = j
    · subst h2
      have := hm i hi
      rw [swL_get l hi hj] at this
      by_cases h3 : i = k
      · exact absurd h3.symm h1
      · rwa [if_neg h3, if_pos rfl] at this
    · have := hm k hk
      rwa [swL_get l hi hj, if_neg h2, if_neg h1] at this
/-- The first i + 1 elements are in order but for the one at j, that may be less than some ahead of it. -/
def NearO (lt : α → α → Bool) (l : List α) (i j : Nat) : Prop := ∀ a b, a < b → b ≤ i → b ≠ j → lt (l.getD b default) (l.getD a default) = false
def OrdTo (lt : α → α → Bool) (l : List α) (i : Nat) : Prop := ∀ a b, a < b → b < i → lt (l.getD b default) (l.getD a default) = false
theorem OrdTo.start (l : List α) : OrdTo lt l 1 := fun a b h1 h2 => by omega
theorem OrdTo.near {l : List α} {i : Nat} (h : OrdTo lt l i) : NearO lt l i i := fun a b h1 h2 h3 => h a b h1 (by omega)
theorem NearO.zero {l : List α} {i : Nat} (h : NearO lt l i 0) : OrdTo lt l (i + 1) := fun a b h1 h2 => h a b h1 (by omega) (by omega)
theorem NearO.stop (hO : STO lt) {l : List α} {i j : Nat} (h : NearO lt l i (j + 1)) (hji : j + 1 ≤ i) (hl : lt (l.getD (j + 1) default) (l.getD j default) = false) : OrdTo lt l (i + 1) := by
  intro a b h1 h2
  by_cases hb : b = j + 1
  · subst hb
    by_cases ha : a = j
    · subst ha; exact hl
    · have h3 := h a j (by omega) (by omega) (by omega)
      cases hc : lt (l.getD (j + 1) default) (l.getD a default) with
      | false => rfl
      | true =>
        exfalso
        cases hd : lt (l.getD a default) (l.getD j default) with
        | true => rw [hO.trans hc hd] at hl; cases hl
        | false => rw [hO.tot hd h3] at hc; rw [hc] at hl; cases hl
  · exact h a b h1 (by omega) hb
theorem NearO.step (hO : STO lt) {l : List α} {i j : Nat} (h : NearO lt l i (j + 1)) (hji : j + 1 ≤ i) (hil : i < l.length) (hl : lt (l.getD (j + 1) default) (l.getD j default) = true) : NearO lt (swL l (j + 1) j) i j := by
  have hj1 : j + 1 < l.length := by omega
  have hj : j < l.length := by omega
  intro a b h1 h2 h3
  rw [swL_get l hj1 hj, swL_get l hj1 hj, if_neg h3]
  by_cases hb : b = j + 1
  · rw [if_pos hb]
    by_cases ha : a = j
    · rw [if_pos ha]; exact hO.asym hl
    · rw [if_neg ha, if_neg (by omega)]
      exact h a j (by omega) (by omega) (by omega)
  · rw [if_neg hb]
    by_cases ha : a = j
    · rw [if_pos ha]
      exact h (j + 1) b (by omega) h2 hb
    · rw [if_neg ha]
      by_cases ha2 : a = j + 1
      · rw [if_pos ha2]
        exact h j b (by omega) h2 hb
      · rw [if_neg ha2]
        exact h a b h1 h2 hb
theorem OrdTo.done {l : List α} (h : OrdTo lt l l.length) : l.Pairwise (fun a b => lt b a = false) := by
  rw [List.pairwise_iff_getElem]
  intro i j hi hj hij
  have := h i j hij hj
  rwa [getD_in l hj, getD_in l hi] at this
end
end Go.Proofs.YtcgjnonlndaoeaaGreat

/-
  DERIVED: THE SHELF's CONTRACTS AT THIS DUMP, IN PLAIN WORDS (tools/lay-plain.mjs out of 'TryzShelf.lean', which tools/lay-shelf.mjs wrote): THE SAME DECLARATIONS UNDER THE SAME NAMES: 'import', 'namespace', 'open', 'def', 'theorem' AND NOTHING ELSE: no command of the shelf's: FOR A HAND-IN. Each laying: the table of numbers ('.._ren') and one theorem, a field a fact of the dump's own or the kernel's comparison; each contract: ONE APPLICATION.
-/
namespace Go.Proofs
open Go.Shelf
def Tryz.lays191_ren : Go.Shelf.Ren := ⟨fun | 191 => 78 | 189 => 101 | 125 => 111 | 257 => 110 | 128 => 125 | 129 => 126 | 294 => 116 | 295 => 117 | 296 => 118 | 297 => 119 | 298 => 120 | 299 => 121 | 216 => 122 | 300 => 123 | 301 => 124 | 328 => 132 | 329 => 133 | 330 => 134 | 331 => 135 | 332 => 136 | 215 => 137 | 343 => 155 | n => n, fun | 28 => 24 | 0 => 0 | 3 => 3 | 46 => 54 | 51 => 76 | 53 => 78 | 4 => 4 | 183 => 123 | 182 => 122 | 131 => 69 | 5 => 5 | 9 => 9 | 218 => 138 | 222 => 142 | 228 => 154 | 229 => 155 | n => n, fun | n => n⟩
theorem Tryz.lays191 : Go.Proofs.Lays.n191 Tryz.prog Tryz.lays191_ren := {
  mixed := by kernel_rfl
  f125 := Tryz.func111.trans (congrArg some (by kernel_rfl))
  f128 := Tryz.func125.trans (congrArg some (by kernel_rfl))
  f129 := Tryz.func126.trans (congrArg some (by kernel_rfl))
  f189 := Tryz.func101.trans (congrArg some (by kernel_rfl))
  f191 := Tryz.func78.trans (congrArg some (by kernel_rfl))
  f215 := Tryz.func137.trans (congrArg some (by kernel_rfl))
  f216 := Tryz.func122.trans (congrArg some (by kernel_rfl))
  f257 := Tryz.func110.trans (congrArg some (by kernel_rfl))
  f294 := Tryz.func116.trans (congrArg some (by kernel_rfl))
  f295 := Tryz.func117.trans (congrArg some (by kernel_rfl))
  f296 := Tryz.func118.trans (congrArg some (by kernel_rfl))
  f297 := Tryz.func119.trans (congrArg some (by kernel_rfl))
  f298 := Tryz.func120.trans (congrArg some (by kernel_rfl))
  f299 := Tryz.func121.trans (congrArg some (by kernel_rfl))
  f300 := Tryz.func123.trans (congrArg some (by kernel_rfl))
  f301 := Tryz.func124.trans (congrArg some (by kernel_rfl))
  f328 := Tryz.func132.trans (congrArg some (by kernel_rfl))
  f329 := Tryz.func133.trans (congrArg some (by kernel_rfl))
  f330 := Tryz.func134.trans (congrArg some (by kernel_rfl))
  f331 := Tryz.func135.trans (congrArg some (by kernel_rfl))
  f332 := Tryz.func136.trans (congrArg some (by kernel_rfl))
  f343 := Tryz.func155.trans (congrArg some (by kernel_rfl))
  t0 := Tryz.underlying0
  a0 := Tryz.isAgg0
  z0 := Tryz.sizeOf0
  v0 := Tryz.zeroValue0
  t3 := Tryz.underlying3
  a3 := Tryz.isAgg3
  z3 := Tryz.sizeOf3
  v3 := Tryz.zeroValue3
  t4 := Tryz.underlying4
  a4 := Tryz.isAgg4
  z4 := Tryz.sizeOf4
  v4 := Tryz.zeroValue4
  t5 := Tryz.underlying5
  a5 := Tryz.isAgg5
  z5 := Tryz.sizeOf5
  v5 := Tryz.zeroValue5
  t9 := Tryz.underlying9
  a9 := Tryz.isAgg9
  z9 := Tryz.sizeOf9
  v9 := Tryz.zeroValue9
  t28 := Tryz.underlying24
  a28 := Tryz.isAgg24
  z28 := Tryz.sizeOf24
  v28 := Tryz.zeroValue24
  t46 := Tryz.underlying54
  a46 := Tryz.isAgg54
  z46 := Tryz.sizeOf54
  v46 := Tryz.zeroValue54
  t51 := Tryz.underlying76
  a51 := Tryz.isAgg76
  z51 := Tryz.sizeOf76
  v51 := Tryz.zeroValue76
  t53 := Tryz.underlying78
  a53 := Tryz.isAgg78
  z53 := Tryz.sizeOf78
  v53 := Tryz.zeroValue78
  t131 := Tryz.underlying69
  a131 := Tryz.isAgg69
  z131 := Tryz.sizeOf69
  v131 := Tryz.zeroValue69
  t182 := Tryz.underlying122
  a182 := Tryz.isAgg122
  z182 := Tryz.sizeOf122
  v182 := Tryz.zeroValue122
  t183 := Tryz.underlying123
  a183 := Tryz.isAgg123
  z183 := Tryz.sizeOf123
  v183 := Tryz.zeroValue123
  t218 := Tryz.underlying138
  a218 := Tryz.isAgg138
  z218 := Tryz.sizeOf138
  v218 := Tryz.zeroValue138
  t222 := Tryz.underlying142
  a222 := Tryz.isAgg142
  z222 := Tryz.sizeOf142
  v222 := Tryz.zeroValue142
  t228 := Tryz.underlying154
  a228 := Tryz.isAgg154
  z228 := Tryz.sizeOf154
  v228 := Tryz.zeroValue154
  t229 := Tryz.underlying155
  a229 := Tryz.isAgg155
  z229 := Tryz.sizeOf155
  v229 := Tryz.zeroValue155 }
open Go.Sort Go.RowKit in
theorem Tryz.sort_Ints (blk off cap : Nat) (zs : List Int) (w : World) (hH : Holds (Value.int .i64) w blk off zs.toArray) (hblk : blk < w.heap.size) (hsz : zs.length < 4611686018427387904) :
    Calls Tryz.prog 78 #[.slice (some ⟨blk, off, none⟩) zs.length cap] w fun e w' =>
      e = .returned (.tuple #[]) ∧ ∃ n os, w' = grow (putRow (Value.int .i64) (Sort.ahead w n) blk off (zs.mergeSort fun x y => decide (x ≤ y)).toArray) os := Any.sort_Ints Tryz.lays191 blk off cap zs w hH hblk hsz
def Tryz.laysGg6_ren : Go.Shelf.Ren := ⟨fun | 6 => 114 | 10 => 128 | 11 => 129 | 12 => 130 | 13 => 111 | 14 => 131 | 24 => 125 | 25 => 126 | 26 => 147 | 27 => 148 | 28 => 149 | 29 => 150 | 30 => 151 | 31 => 152 | 32 => 153 | 33 => 154 | 34 => 156 | 35 => 157 | 36 => 158 | 37 => 159 | 38 => 160 | 39 => 161 | n => n, fun | 20 => 20 | 26 => 95 | 35 => 131 | 0 => 0 | 37 => 133 | 3 => 3 | 41 => 54 | 44 => 137 | 49 => 76 | 51 => 78 | 4 => 4 | 54 => 149 | 53 => 148 | 58 => 69 | 5 => 5 | 9 => 9 | 60 => 157 | 64 => 142 | 66 => 160 | 67 => 155 | 17 => 17 | 32 => 128 | 33 => 129 | 82 => 175 | 12 => 12 | 75 => 168 | 76 => 169 | 77 => 170 | 78 => 171 | 79 => 172 | 80 => 173 | n => n, fun | n => n⟩
theorem Tryz.laysGg6 : Go.Proofs.LaysGg.n6 Tryz.prog Tryz.laysGg6_ren := {
  mixed := by kernel_rfl
  f6 := Tryz.func114.trans (congrArg some (by kernel_rfl))
  f10 := Tryz.func128.trans (congrArg some (by kernel_rfl))
  f11 := Tryz.func129.trans (congrArg some (by kernel_rfl))
  f12 := Tryz.func130.trans (congrArg some (by kernel_rfl))
  f13 := Tryz.func111.trans (congrArg some (by kernel_rfl))
  f14 := Tryz.func131.trans (congrArg some (by kernel_rfl))
  f24 := Tryz.func125.trans (congrArg some (by kernel_rfl))
  f25 := Tryz.func126.trans (congrArg some (by kernel_rfl))
  f26 := Tryz.func147.trans (congrArg some (by kernel_rfl))
  f27 := Tryz.func148.trans (congrArg some (by kernel_rfl))
  f28 := Tryz.func149.trans (congrArg some (by kernel_rfl))
  f29 := Tryz.func150.trans (congrArg some (by kernel_rfl))
  f30 := Tryz.func151.trans (congrArg some (by kernel_rfl))
  f31 := Tryz.func152.trans (congrArg some (by kernel_rfl))
  f32 := Tryz.func153.trans (congrArg some (by kernel_rfl))
  f33 := Tryz.func154.trans (congrArg some (by kernel_rfl))
  f34 := Tryz.func156.trans (congrArg some (by kernel_rfl))
  f35 := Tryz.func157.trans (congrArg some (by kernel_rfl))
  f36 := Tryz.func158.trans (congrArg some (by kernel_rfl))
  f37 := Tryz.func159.trans (congrArg some (by kernel_rfl))
  f38 := Tryz.func160.trans (congrArg some (by kernel_rfl))
  f39 := Tryz.func161.trans (congrArg some (by kernel_rfl))
  t0 := Tryz.underlying0
  a0 := Tryz.isAgg0
  z0 := Tryz.sizeOf0
  v0 := Tryz.zeroValue0
  i0 := by kernel_rfl
  t3 := Tryz.underlying3
  a3 := Tryz.isAgg3
  z3 := Tryz.sizeOf3
  v3 := Tryz.zeroValue3
  i3 := by kernel_rfl
  t4 := Tryz.underlying4
  a4 := Tryz.isAgg4
  z4 := Tryz.sizeOf4
  v4 := Tryz.zeroValue4
  i4 := by kernel_rfl
  t5 := Tryz.underlying5
  a5 := Tryz.isAgg5
  z5 := Tryz.sizeOf5
  v5 := Tryz.zeroValue5
  i5 := by kernel_rfl
  t9 := Tryz.underlying9
  a9 := Tryz.isAgg9
  z9 := Tryz.sizeOf9
  v9 := Tryz.zeroValue9
  i9 := by kernel_rfl
  t12 := Tryz.underlying12
  a12 := Tryz.isAgg12
  z12 := Tryz.sizeOf12
  v12 := Tryz.zeroValue12
  i12 := by kernel_rfl
  t17 := Tryz.underlying17
  a17 := Tryz.isAgg17
  z17 := Tryz.sizeOf17
  v17 := Tryz.zeroValue17
  i17 := by kernel_rfl
  t20 := Tryz.underlying20
  a20 := Tryz.isAgg20
  z20 := Tryz.sizeOf20
  v20 := Tryz.zeroValue20
  i20 := by kernel_rfl
  t26 := Tryz.underlying95
  a26 := Tryz.isAgg95
  z26 := Tryz.sizeOf95
  v26 := Tryz.zeroValue95
  i26 := by kernel_rfl
  t32 := Tryz.underlying128
  a32 := Tryz.isAgg128
  z32 := Tryz.sizeOf128
  v32 := Tryz.zeroValue128
  i32 := by kernel_rfl
  t33 := Tryz.underlying129
  a33 := Tryz.isAgg129
  z33 := Tryz.sizeOf129
  v33 := Tryz.zeroValue129
  i33 := by kernel_rfl
  t35 := Tryz.underlying131
  a35 := Tryz.isAgg131
  z35 := Tryz.sizeOf131
  v35 := Tryz.zeroValue131
  i35 := by kernel_rfl
  t37 := Tryz.underlying133
  a37 := Tryz.isAgg133
  z37 := Tryz.sizeOf133
  v37 := Tryz.zeroValue133
  i37 := by kernel_rfl
  t41 := Tryz.underlying54
  a41 := Tryz.isAgg54
  z41 := Tryz.sizeOf54
  v41 := Tryz.zeroValue54
  i41 := by kernel_rfl
  t44 := Tryz.underlying137
  a44 := Tryz.isAgg137
  z44 := Tryz.sizeOf137
  v44 := Tryz.zeroValue137
  i44 := by kernel_rfl
  t49 := Tryz.underlying76
  a49 := Tryz.isAgg76
  z49 := Tryz.sizeOf76
  v49 := Tryz.zeroValue76
  i49 := by kernel_rfl
  t51 := Tryz.underlying78
  a51 := Tryz.isAgg78
  z51 := Tryz.sizeOf78
  v51 := Tryz.zeroValue78
  i51 := by kernel_rfl
  t53 := Tryz.underlying148
  a53 := Tryz.isAgg148
  z53 := Tryz.sizeOf148
  v53 := Tryz.zeroValue148
  i53 := by kernel_rfl
  t54 := Tryz.underlying149
  a54 := Tryz.isAgg149
  z54 := Tryz.sizeOf149
  v54 := Tryz.zeroValue149
  i54 := by kernel_rfl
  t58 := Tryz.underlying69
  a58 := Tryz.isAgg69
  z58 := Tryz.sizeOf69
  v58 := Tryz.zeroValue69
  i58 := by kernel_rfl
  t60 := Tryz.underlying157
  a60 := Tryz.isAgg157
  z60 := Tryz.sizeOf157
  v60 := Tryz.zeroValue157
  i60 := by kernel_rfl
  t64 := Tryz.underlying142
  a64 := Tryz.isAgg142
  z64 := Tryz.sizeOf142
  v64 := Tryz.zeroValue142
  i64 := by kernel_rfl
  t66 := Tryz.underlying160
  a66 := Tryz.isAgg160
  z66 := Tryz.sizeOf160
  v66 := Tryz.zeroValue160
  i66 := by kernel_rfl
  t67 := Tryz.underlying155
  a67 := Tryz.isAgg155
  z67 := Tryz.sizeOf155
  v67 := Tryz.zeroValue155
  i67 := by kernel_rfl
  t75 := Tryz.underlying168
  a75 := Tryz.isAgg168
  z75 := Tryz.sizeOf168
  v75 := Tryz.zeroValue168
  i75 := by kernel_rfl
  t76 := Tryz.underlying169
  a76 := Tryz.isAgg169
  z76 := Tryz.sizeOf169
  v76 := Tryz.zeroValue169
  i76 := by kernel_rfl
  t77 := Tryz.underlying170
  a77 := Tryz.isAgg170
  z77 := Tryz.sizeOf170
  v77 := Tryz.zeroValue170
  i77 := by kernel_rfl
  t78 := Tryz.underlying171
  a78 := Tryz.isAgg171
  z78 := Tryz.sizeOf171
  v78 := Tryz.zeroValue171
  i78 := by kernel_rfl
  t79 := Tryz.underlying172
  a79 := Tryz.isAgg172
  z79 := Tryz.sizeOf172
  v79 := Tryz.zeroValue172
  i79 := by kernel_rfl
  t80 := Tryz.underlying173
  a80 := Tryz.isAgg173
  z80 := Tryz.sizeOf173
  v80 := Tryz.zeroValue173
  i80 := by kernel_rfl
  t82 := Tryz.underlying175
  a82 := Tryz.isAgg175
  z82 := Tryz.sizeOf175
  v82 := Tryz.zeroValue175
  i82 := by kernel_rfl }
open Go.RowKit Go.Sort in
theorem Tryz.sort_Ints_none (p : Option Addr) (cap : Nat) (w : World) :
    Calls Tryz.prog 78 #[.slice p 0 cap] w fun e w' => e = .returned (.tuple #[]) ∧ w' = w := Any.sort_Ints_none Tryz.lays191 p cap w
end Go.Proofs

/- Cells put in order: the library's sort at twelve cells or fewer, with the program's own test. -/
namespace Go.Proofs.YtcgjnonlndaoeaaGreat
open Go.RowKit Go.Shelf
set_option linter.unusedVariables false
attribute [local go_sem ↓] Go.wp_at_zero Go.wp_at_succ

theorem sto_default (l : List C) {i : Nat} (h : i < l.length) : l.getD i default = l[i] := getD_in l h
set_option maxHeartbeats 800000 in
/-- The test: does cell i come before cell j? -/
theorem lessCells (Bs base g n c : Nat) (l : List C) (i j : Nat) (w : World) (ho : w.ownsRow base 80 2 (.slice (some ⟨g, 0, none⟩) n c) n (vC l)) (hB : w.cell? ⟨Bs, 0, none⟩ = some (.slice (some ⟨g, 0, none⟩) n c)) (hi : i < n) (hj : j < n) (b : Bool)
    (hb : b = befC (l.getD i default) (l.getD j default)) : Calls Tryz.prog 115 #[.int .i64 (i : Int), .int .i64 (j : Int), .pointer (some ⟨Bs, 0, none⟩)] w (Ret w (.bool b)) := by
  have hl : l.length = n := by have := own_len ho; rw [vC_length] at this; omega
  have hg := (own_lt ho g rfl).2
  obtain ⟨g1, o1, e1, _, a1, a2⟩ := RdC.at_ (Rd.of_own ho) (show i < l.length by omega)
  obtain ⟨g2, o2, e2, _, b1, b2⟩ := RdC.at_ (Rd.of_own ho) (show j < l.length by omega)
  simp only [Option.some.injEq, Addr.mk.injEq, and_true] at e1 e2
  obtain ⟨rfl, rfl⟩ := e1
  obtain ⟨h1, rfl⟩ := e2
  rw [Nat.zero_add] at a1 a2 b1 b2
  rw [← h1] at b1 b2
  rw [sto_default l (by omega), sto_default l (by omega)] at hb
  obtain ⟨x, hx⟩ : ∃ x, l[i].1 = x := ⟨_, rfl⟩
  obtain ⟨y, hy⟩ : ∃ y, l[i].2 = y := ⟨_, rfl⟩
  obtain ⟨p, hp⟩ : ∃ p, l[j].1 = p := ⟨_, rfl⟩
  obtain ⟨q, hq⟩ : ∃ q, l[j].2 = q := ⟨_, rfl⟩
  rw [show l[i] = (x, y) from Prod.ext hx hy, show l[j] = (p, q) from Prod.ext hp hq] at hb
  rw [hx] at a1
  rw [hy] at a2
  rw [hp] at b1
  rw [hq] at b2
  have HV := Lib.hid hb.symm
  have hBl := World.block_lt_of_cell? w _ hB
  have hi0 : (0 : Int) ≤ (i : Int) := by omega
  have hi1 : (i : Int) < (n : Int) := by omega
  have hj0 : (0 : Int) ≤ (j : Int) := by omega
  have hj1 : (j : Int) < (n : Int) := by omega
  clear ho hx hy hp hq hb h1 hl
  go_enter Tryz.func115, Tryz.ntmps115
  go_wp2_with fail
  (refine wp_region_below (by kernel_rfl) (by kernel_rfl) ?_; (repeat (first | go_big_quiet_skip | (refine quietV (v := ?_) (by rfl) rfl (fun w' hbw => ?_) ?_; rotate_left; ((try dsimp only at hbw); have hbc := (bcell hbw).1; have hbf := (bcell hbw).2; go_simp; first | done | with_reducible rfl | exact callsBB (before_i x y p q _) HV.out hbw); simp only [List.setIfInBounds_toArray, List.set_cons_zero, List.set_cons_succ]))); refine wpQuiet_nil ?_; intro wq hbq)
  go_wp2_with fail
  go_ret
  exact ⟨rfl, hbq⟩
theorem own_put {w : World} {base g n c : Nat} {l : List C} (ho : w.ownsRow base 80 2 (.slice (some ⟨g, 0, none⟩) n c) n (vC l)) (k : Nat) (v : C) :
    (w.setCells g (0 + k * 2) [.int .i64 v.1, .int .i64 v.2]).ownsRow base 80 2 (.slice (some ⟨g, 0, none⟩) n c) n (vC (l.set k v)) := by
  have h := ((ho.stored (k * 2) (.int .i64 v.1)).1.stored (k * 2 + 1) (.int .i64 v.2)).1
  rw [vC_set_list] at h
  rw [Nat.zero_add]
  exact h
theorem grown_alloc1 {w w' : World} {o : Obj} {row : Option Nat} (h : (w.alloc o).grownBy w' row) : w.grownBy w' row :=
  ⟨h.os, h.tape, h.output, by have := h.size; simp at this; omega, fun k hk hne => (h.block k (by simp; omega) hne).trans (Below.heap_alloc w o k hk)⟩
theorem grown_of_alloc (w : World) (o : Obj) (r : Option Nat) : w.grownBy (w.alloc o) r := ⟨rfl, rfl, rfl, by simp, fun k hk _ => Below.heap_alloc w o k hk⟩
theorem grown_cells {a w : World} {g o : Nat} (h : a.grownBy w (some g)) (x y : Value) : a.grownBy (w.setCells g o [x, y]) (some g) := grown_set (grown_set h rfl x) rfl y
theorem infoCI : ∃ ie, Tryz.prog.info? 80 = some ie ∧ ie.size = 2 := by
  obtain ⟨i0, hi, _, hz1, _⟩ := info_parts infoC
  exact ⟨i0, hi, hz1⟩
theorem swapCells (sf : Nat) (gS : Bool) (hx : ∀ args W, (callFunc sf args).run Tryz.prog W = ((Extern.ReflectliteSwapper.swap gS args).run Tryz.prog W).andThen fun v w' => .ok (.value v) w') (hagg : ∀ w, (isAgg 80).run Tryz.prog w = .ok true w)
    (base g n c : Nat) (l : List C) (i j : Nat) (w : World) (ho : w.ownsRow base 80 2 (.slice (some ⟨g, 0, none⟩) n c) n (vC l)) (hi : i < n) (hj : j < n) :
    ∃ w', (callFunc sf #[.int .i64 (i : Int), .int .i64 (j : Int), .slice (some ⟨g, 0, none⟩) n c, typeHandle Tryz.prog 80]).run Tryz.prog w = .ok (.value (.tuple #[])) w' ∧
      w'.ownsRow base 80 2 (.slice (some ⟨g, 0, none⟩) n c) n (vC (swL l i j)) ∧ ∀ a, World.grownBy a w (some g) → World.grownBy a w' (some g) := by
  have hl : l.length = n := by have := own_len ho; rw [vC_length] at this; omega
  obtain ⟨ie, hie, hsz⟩ := infoCI
  have hcell : ∀ k (hk : k < n), ∀ u v, ([.int .i64 (l.getD k default).1, .int .i64 (l.getD k default).2] : List Value)[u]? = some v → w.cell? ⟨g, 0 + k * 2 + u, none⟩ = some v := by
    intro k hk u v h
    obtain ⟨g1, o1, e1, _, a1, a2⟩ := RdC.at_ (Rd.of_own ho) (show k < l.length by omega)
    simp only [Option.some.injEq, Addr.mk.injEq, and_true] at e1
    obtain ⟨rfl, rfl⟩ := e1
    rw [sto_default l (by omega)] at h
    match u, h with
    | 0, h => simp at h; rw [← h]; exact a1
    | 1, h => simp at h; rw [← h]; exact a2
    | u + 2, h => simp at h
  have hfro : ∀ o, w.frozen? ⟨g, o, none⟩ = false := fun o => ho.frozenAt o
  have hr := Lib.run_swap_cells (P := Tryz.prog) gS 80 ie hie hagg g 0 n c i j hi hj [.int .i64 (l.getD i default).1, .int .i64 (l.getD i default).2] [.int .i64 (l.getD j default).1, .int .i64 (l.getD j default).2]
    (by rw [hsz]; rfl) (by rw [hsz]; rfl) (by simp [Value.oneCell']) (by simp [Value.oneCell']) w (by rw [hsz]; exact hcell i hi) (by rw [hsz]; exact hcell j hj) (fun k _ => hfro _) (fun k _ => hfro _)
  rw [hsz] at hr
  refine ⟨_, ?_, own_put (own_put ho i (l.getD j default)) j (l.getD i default), fun a h => grown_cells (grown_cells h _ _) _ _⟩
  rw [hx, hr]
  rfl
/-- The row in order. -/
def SrtP (w : World) (base g n c : Nat) (l : List C) (e : Ending) (w' : World) : Prop :=
  e = .returned (.tuple #[]) ∧ ∃ l', l'.length = n ∧ (∀ x, x ∈ l' ↔ x ∈ l) ∧ l'.Pairwise (fun a b => befC b a = false) ∧ w'.ownsRow base 80 2 (.slice (some ⟨g, 0, none⟩) n c) n (vC l') ∧ w.grownBy w' (some g)
/-- What is asked of the exchange. -/
def Swaps (sf : Nat) (th : Value) (base g n c : Nat) : Prop := ∀ (w : World) (l : List C) (i j : Nat), w.ownsRow base 80 2 (.slice (some ⟨g, 0, none⟩) n c) n (vC l) → i < n → j < n →
  ∃ w', (callFunc sf #[.int .i64 (i : Int), .int .i64 (j : Int), .slice (some ⟨g, 0, none⟩) n c, th]).run Tryz.prog w = .ok (.value (.tuple #[])) w' ∧
      w'.ownsRow base 80 2 (.slice (some ⟨g, 0, none⟩) n c) n (vC (swL l i j)) ∧ ∀ a, World.grownBy a w (some g) → World.grownBy a w' (some g)
set_option maxHeartbeats 3200000 in
theorem insSort (sf : Nat) (th : Value) (Bs base g n c : Nat) (hsw : Swaps sf th base g n c) (l0 : List C) (w : World) (ho : w.ownsRow base 80 2 (.slice (some ⟨g, 0, none⟩) n c) n (vC l0)) (hB : w.cell? ⟨Bs, 0, none⟩ = some (.slice (some ⟨g, 0, none⟩) n c)) (hBg : Bs ≠ g) (hn : 1 ≤ n) (hn12 : n ≤ 12) :
    Calls Tryz.prog 147 #[.agg #[.func (.func 115) #[] #[.pointer (some ⟨Bs, 0, none⟩)], .func (.func sf) #[] #[.slice (some ⟨g, 0, none⟩) n c, th]], .int .i64 0, .int .i64 (n : Int)] w (SrtP w base g n c l0) := by
  have hl0 : l0.length = n := by have := own_len ho; rw [vC_length] at this; omega
  have hgl := (own_lt ho g rfl).2
  have HL := Lib.hid hl0
  have HO := Lib.hid ho
  have HBC := Lib.hid hB
  have HSW := Lib.hid hsw
  have HBB := Lib.hid (Blk.new w 137 #[.func (.func 115) #[] #[.pointer (some ⟨Bs, 0, none⟩)], .func (.func sf) #[] #[.slice (some ⟨g, 0, none⟩) n c, th]])
  clear hsw ho hB hl0
  go_enter Tryz.func147, Tryz.ntmps147
  go_wp2
  go_loopw [6] (fun e6 wr => ∃ (i : Nat) (l : List C), 1 ≤ i ∧ i ≤ n ∧ e6 = .int .i64 i ∧ l.length = n ∧ (∀ x, x ∈ l ↔ x ∈ l0) ∧ OrdTo befC l i ∧ wr.ownsRow base 80 2 (.slice (some ⟨g, 0, none⟩) n c) n (vC l) ∧ (w.alloc (.cells #[.func (.func 115) #[] #[.pointer (some ⟨Bs, 0, none⟩)], .func (.func sf) #[] #[.slice (some ⟨g, 0, none⟩) n c, th]] 137)).grownBy wr (some g)) (fun e6 _ => n - (intOf e6).toNat)
  case atStart => exact ⟨1, l0, by omega, by omega, by simp, HL.out, fun x => Iff.rfl, OrdTo.start l0, HO.out.alloc _, World.grownBy.refl _ _⟩
  case round =>
    obtain ⟨i, l, hi1, hin, rfl, hll, hmem, hord, hown, hg⟩ := hrel
    have HLL := Lib.hid hll
    have HM := Lib.hid hmem
    have HOR := Lib.hid hord
    have HOW := Lib.hid hown
    have HG := Lib.hid hg
    clear hll hmem hord hown hg
    by_cases hlt : i < n
    · have hiI : (i : Int) < (n : Int) := by omega
      go_wp2
      go_loopw [7] (fun e7 wr => ∃ (j : Nat) (l : List C), j ≤ i ∧ e7 = .int .i64 j ∧ l.length = n ∧ (∀ x, x ∈ l ↔ x ∈ l0) ∧ NearO befC l i j ∧ wr.ownsRow base 80 2 (.slice (some ⟨g, 0, none⟩) n c) n (vC l) ∧ (w.alloc (.cells #[.func (.func 115) #[] #[.pointer (some ⟨Bs, 0, none⟩)], .func (.func sf) #[] #[.slice (some ⟨g, 0, none⟩) n c, th]] 137)).grownBy wr (some g)) (fun e7 _ => (intOf e7).toNat)
      case atStart => exact ⟨i, l, Nat.le_refl _, rfl, HLL.out, HM.out, HOR.out.near, HOW.out, HG.out⟩
      case round =>
        clear HLL HM HOR HOW HG
        obtain ⟨j, l, hji, rfl, hll, hmem, hnear, hown, hg⟩ := hrel
        have HLL := Lib.hid hll
        have HM := Lib.hid hmem
        have HN := Lib.hid hnear
        have HOW := Lib.hid hown
        have HG := Lib.hid hg
        clear hll hmem hnear hown hg
        by_cases hj0 : 0 < j
        · obtain ⟨p, hp⟩ : ∃ p, j = p + 1 := ⟨j - 1, by omega⟩
          have hjI : (j : Int) > 0 := by omega
          have hpI : (j : Int) - 1 = (p : Int) := by omega
          have hpw : IntKind.i64.wrap (p : Int) = (p : Int) := Go.IntWalk.i64_in _ (by omega)
          have HP := Lib.hid hp
          have hBB := HBB.out.grown HG.out (fun e => by injection e with e; omega)
          have b0 : wr.cell? ⟨w.heap.size, 0, none⟩ = some (.func (.func 115) #[] #[.pointer (some ⟨Bs, 0, none⟩)]) := by simpa using hBB.cell 0
          have b1 : wr.cell? ⟨w.heap.size, 1, none⟩ = some (.func (.func sf) #[] #[.slice (some ⟨g, 0, none⟩) n c, th]) := by simpa using hBB.cell 1
          have bl := hBB.lt
          have HBC2 := Lib.hid (keep_grown HG.out (keep_alloc HBC.out) (by simpa using hBg))
          have HBW := Lib.hid hBB
          have hjn : j < n := by omega
          have hpn : p < n := by omega
          clear hBB hp
          cases hbf : befC (l.getD j default) (l.getD p default) with
          | true =>
            have HBF := Lib.hid hbf
            clear hbf
            go_wp2_with fail
            refine (lessCells Bs base g n c l j p _ HOW.out HBC2.out hjn hpn true HBF.out.symm).mono ?_
            rintro e w1 ⟨rfl, hb1⟩
            have hBB1 := HBW.out.below hb1
            have c1 : w1.cell? ⟨w.heap.size, 1, none⟩ = some (.func (.func sf) #[] #[.slice (some ⟨g, 0, none⟩) n c, th]) := by simpa using hBB1.cell 1
            have cl := hBB1.lt
            obtain ⟨w2, hrun, ho2, hg2⟩ := HSW.out w1 l j p (own_keep HOW.out hb1) hjn hpn
            have HO2 := Lib.hid ho2
            have HG2 := Lib.hid (hg2 _ (grown_below HG.out hb1))
            have HN2 : Hid (NearO befC (swL l j p) i p) := by
              have h1 := HN.out
              rw [HP.out] at h1 ⊢
              exact h1.step befC_sto (by omega) (by rw [HLL.out]; exact hlt) (by rw [← HP.out]; exact HBF.out)
            clear hBB1 ho2 hg2 b0 b1 bl
            go_wp2_with fail
            exact ⟨⟨p, swL l j p, by omega, rfl, by rw [swL_len]; exact HLL.out, fun x => (swL_mem l (by rw [HLL.out]; exact hjn) (by rw [HLL.out]; exact hpn) x).trans (HM.out x), HN2.out, HO2.out, HG2.out⟩, by simp [intOf]; omega⟩
          | false =>
            have HBF := Lib.hid hbf
            clear hbf
            go_wp2_with fail
            refine (lessCells Bs base g n c l j p _ HOW.out HBC2.out hjn hpn false HBF.out.symm).mono ?_
            rintro e w1 ⟨rfl, hb1⟩
            have HO2 : Hid (OrdTo befC l (i + 1)) := by
              have h1 := HN.out
              rw [HP.out] at h1
              exact h1.stop befC_sto (by have := HP.out; omega) (by rw [← HP.out]; exact HBF.out)
            go_wp2_with fail
            exact ⟨⟨i + 1, l, by omega, by omega, by go_num, HLL.out, HM.out, HO2.out, own_keep HOW.out hb1, grown_below HG.out hb1⟩, by simp [intOf]; omega⟩
        · obtain rfl : j = 0 := by omega
          have HO2 := Lib.hid (HN.out.zero)
          clear hj0
          go_wp2_with fail
          exact ⟨⟨i + 1, l, by omega, by omega, by go_num, HLL.out, HM.out, HO2.out, HOW.out, HG.out⟩, by simp [intOf]; omega⟩
    · obtain rfl : i = n := by omega
      have hiI : ¬ (i : Int) < (i : Int) := by omega
      go_wp2
      go_end0
      exact ⟨rfl, l, HLL.out, HM.out, OrdTo.done (by rw [HLL.out]; exact HOR.out), HOW.out, grown_alloc1 HG.out⟩
/-- One cell or none: nothing is asked. -/
theorem insSort1 (S : Value) (F : Value) (base g n c : Nat) (l0 : List C) (w : World) (ho : w.ownsRow base 80 2 (.slice (some ⟨g, 0, none⟩) n c) n (vC l0)) (hn : n ≤ 1) :
    Calls Tryz.prog 147 #[.agg #[F, S], .int .i64 0, .int .i64 (n : Int)] w (SrtP w base g n c l0) := by
  have hl0 : l0.length = n := by have := own_len ho; rw [vC_length] at this; omega
  have HL := Lib.hid hl0
  have HO := Lib.hid ho
  have hnI : ¬ (1 : Int) < (n : Int) := by omega
  clear ho hl0
  go_enter Tryz.func147, Tryz.ntmps147
  go_wp2
  go_loopw [6] (fun e6 wr => e6 = .int .i64 1 ∧ wr = w.alloc (.cells #[F, S] 137)) (fun e6 _ => 0)
  case atStart => exact ⟨by simp, rfl⟩
  case round =>
    obtain ⟨rfl, rfl⟩ := hrel
    go_wp2
    go_end0
    refine ⟨rfl, l0, HL.out, fun x => Iff.rfl, ?_, HO.out.alloc _, grown_of_alloc _ _ _⟩
    rcases (by omega : n = 0 ∨ n = 1) with rfl | rfl
    · rw [List.eq_nil_of_length_eq_zero HL.out]; exact List.Pairwise.nil
    · obtain ⟨a, ha⟩ := List.length_eq_one_iff.1 HL.out
      rw [ha]; exact List.pairwise_singleton _ _
theorem pdqSmall (D : Value) (F S : Value) (hD : D = .agg #[F, S]) (base g n c : Nat) (lim : Int) (l0 : List C) (w : World) (hn12 : n ≤ 12)
    (hi : ∀ w', Below w.heap.size w w' → Calls Tryz.prog 147 #[.agg #[F, S], .int .i64 0, .int .i64 (n : Int)] w' (SrtP w' base g n c l0)) :
    Calls Tryz.prog 131 #[D, .int .i64 0, .int .i64 (n : Int), .int .i64 lim] w (SrtP w base g n c l0) := by
  subst hD
  have HI := Lib.hid hi
  have hnI : (n : Int) ≤ 12 := by omega
  clear hi
  go_enter Tryz.func131, Tryz.ntmps131
  go_wp2
  refine wp_loop_rounds 1 ?_
  rw [rounds_succ]
  go_wp2_with fail
  refine (HI.out _ (by (repeat (first | with_reducible exact Below.refl _ _ | with_reducible assumption | with_reducible apply bel_alloc | with_reducible apply bel_drew | with_reducible apply bel_drewN | ((with_reducible refine bel_set ?_ ?_); rotate_left; (simp <;> omega)) | (with_reducible refine bel_trans ?_ (by with_reducible assumption)))))).mono ?_
  rintro e w1 ⟨rfl, l', h1, h2, h3, h4, h5⟩
  have HR : Hid (SrtP w base g n c l0 (.returned (.tuple #[])) w1) := ⟨rfl, l', h1, h2, h3, h4, grown_alloc1 h5⟩
  clear h1 h2 h3 h4 h5
  go_wp2_with fail
  (try simp only [Exit.inBlock, Exit.then])
  refine bodyPost_ret (results_none rfl _ _ _) rfl ?_
  exact HR.out
noncomputable def tiS : TypeInfo := (Tryz.prog.info? 51).get (by kernel_rfl)
noncomputable def tiC : TypeInfo := (Tryz.prog.info? 80).get (by kernel_rfl)
theorem swapK2 (n : Nat) (h2 : 2 ≤ n) : Lib.swapperK n tiC 25 = 9 := by
  have a : tiC.hasPointers = false := by kernel_rfl
  have b : tiC.bytes = 16 := by kernel_rfl
  have c : (n == 0) = false := by simp; omega
  have d : (n == 1) = false := by simp; omega
  simp [Lib.swapperK, a, b, c, d]
set_option maxRecDepth 100000 in
/-- The library's sort of a slice of one to twelve cells, with the program's test. -/
theorem sortCells (Bs base g n c : Nat) (l0 : List C) (w : World) (ho : w.ownsRow base 80 2 (.slice (some ⟨g, 0, none⟩) n c) n (vC l0)) (hB : w.cell? ⟨Bs, 0, none⟩ = some (.slice (some ⟨g, 0, none⟩) n c)) (hBg : Bs ≠ g) (hn : 1 ≤ n) (hn12 : n ≤ 12) :
    Calls Tryz.prog 114 #[.iface 51 (.slice (some ⟨g, 0, none⟩) n c), .func (.func 115) #[] #[.pointer (some ⟨Bs, 0, none⟩)]] w (SrtP w base g n c l0) := by
  have hagg : ∀ w, (isAgg 80).run Tryz.prog w = .ok true w := fun _ => by kernel_rfl
  have fin : ∀ (W : World), W = sliceWorld Tryz.prog Tryz.laysGg6_ren 51 (some ⟨g, 0, none⟩) n c w → W.ownsRow base 80 2 (.slice (some ⟨g, 0, none⟩) n c) n (vC l0) ∧ W.cell? ⟨Bs, 0, none⟩ = some (.slice (some ⟨g, 0, none⟩) n c) ∧
      ∀ w', W.grownBy w' (some g) → w.grownBy w' (some g) := by
    intro W hW
    subst hW
    unfold sliceWorld
    exact ⟨(ho.alloc _).alloc _, keep_alloc (keep_alloc hB), fun w' h => grown_alloc1 (grown_alloc1 h)⟩
  obtain ⟨h1, h2, h3⟩ := fin _ rfl
  have hpost : ∀ e w', SrtP (sliceWorld Tryz.prog Tryz.laysGg6_ren 51 (some ⟨g, 0, none⟩) n c w) base g n c l0 e w' → e = .returned (.tuple #[]) ∧ (∃ l', l'.length = n ∧ (∀ x, x ∈ l' ↔ x ∈ l0) ∧ l'.Pairwise (fun a b => befC b a = false) ∧ w'.ownsRow base 80 2 (.slice (some ⟨g, 0, none⟩) n c) n (vC l') ∧ w.grownBy w' (some g)) :=
    fun e w' ⟨he, l', a1, a2, a3, a4, a5⟩ => ⟨he, l', a1, a2, a3, a4, h3 _ a5⟩
  by_cases hn2 : 2 ≤ n
  · refine (Any.sort_Slice_of_pdq Tryz.laysGg6 51 80 tiS tiC (by kernel_rfl) (by kernel_rfl) (by kernel_rfl) (by kernel_rfl) 25 (fun _ => by kernel_rfl) (some ⟨g, 0, none⟩) n c (by omega) 146 (by rw [swapK2 n hn2]; kernel_rfl) (.func 115) #[] #[.pointer (some ⟨Bs, 0, none⟩)] w
      (fun w' => ∃ l', l'.length = n ∧ (∀ x, x ∈ l' ↔ x ∈ l0) ∧ l'.Pairwise (fun a b => befC b a = false) ∧ w'.ownsRow base 80 2 (.slice (some ⟨g, 0, none⟩) n c) n (vC l') ∧ w.grownBy w' (some g)) ?_).mono (fun e w' h => ⟨h.1, h.2⟩)
    have hbd : sliceBound Tryz.prog 80 tiC 25 (some ⟨g, 0, none⟩) n c = #[.slice (some ⟨g, 0, none⟩) n c, typeHandle Tryz.prog 80] := by
      unfold sliceBound
      rw [swapK2 n hn2]
      rfl
    rw [hbd]
    have hx : ∀ args W, (callFunc 146 args).run Tryz.prog W = ((Extern.ReflectliteSwapper.swap false args).run Tryz.prog W).andThen fun v w' => .ok (.value v) w' := fun args W => run_callFunc_extern Tryz.func146 (by kernel_rfl) (by kernel_rfl) (by kernel_rfl) (e := Extern.ReflectliteSwapper.swap false) (by kernel_rfl) args W
    refine (pdqSmall _ _ _ rfl base g n c _ l0 _ hn12 fun w' hb => ?_).mono hpost
    exact insSort _ _ Bs base g n c (fun w l i j a b c => swapCells _ false hx hagg base g n _ l i j w a b c) l0 w' (own_keep h1 hb) ((hb.cell (World.block_lt_of_cell? _ _ h2)).trans h2) hBg hn hn12
  · have hn1 : n = 1 := by omega
    subst hn1
    refine (Any.sort_Slice_of_pdq Tryz.laysGg6 51 80 tiS tiC (by kernel_rfl) (by kernel_rfl) (by kernel_rfl) (by kernel_rfl) 25 (fun _ => by kernel_rfl) (some ⟨g, 0, none⟩) 1 c (by omega) 139 (by kernel_rfl) (.func 115) #[] #[.pointer (some ⟨Bs, 0, none⟩)] w
      (fun w' => ∃ l', l'.length = 1 ∧ (∀ x, x ∈ l' ↔ x ∈ l0) ∧ l'.Pairwise (fun a b => befC b a = false) ∧ w'.ownsRow base 80 2 (.slice (some ⟨g, 0, none⟩) 1 c) 1 (vC l') ∧ w.grownBy w' (some g)) ?_).mono (fun e w' h => ⟨h.1, h.2⟩)
    refine (pdqSmall _ _ _ rfl base g 1 c _ l0 _ (by omega) fun w' hb => ?_).mono hpost
    exact insSort1 _ _ base g 1 c l0 w' (own_keep h1 hb) (Nat.le_refl _)
end Go.Proofs.YtcgjnonlndaoeaaGreat

/- Cells put in order, each once: the program, at one to twelve cells. -/
namespace Go.Proofs.YtcgjnonlndaoeaaGreat
open Go.RowKit
set_option linter.unusedVariables false
attribute [local go_sem ↓] Go.wp_at_zero Go.wp_at_succ

theorem keepG_C (l : List C) (k : Nat) : keepG l k = (k == 0 || !decide (l.getD (k - 1) default = l.getD k default)) := by
  unfold keepG
  generalize l.getD (k - 1) default = a
  generalize l.getD k default = b
  congr 1
theorem ded_fin {l xs : List C} (hp : l.Pairwise (fun a b => befC b a = false)) (hm : ∀ x, x ∈ l ↔ x ∈ xs) : dedG l l.length = sortC xs := dedG_eq befC_sto hp hm
set_option maxRecDepth 100000 in
set_option maxHeartbeats 3200000 in
theorem SortCells_i (A : Option Addr) (n c : Nat) (xs : List C) (w : World) (hr : Rd w A (vC xs)) (hl : xs.length = n) (hn : 1 ≤ n) (hn12 : n ≤ 12) :
    Calls Tryz.prog 109 #[.slice A n c] w (RetS w 80 2 (vC (sortC xs))) := by
  have HL := Lib.hid hl
  have HR := Lib.hid hr
  clear hl hr
  go_enter Tryz.func109, Tryz.ntmps109
  go_wp2_with (at_builtin; go_must (refine app_C _ rfl _ _ rfl w.heap.size none 0 0 [] rfl (own_nil _ _ _ _) _ _ _ xs rfl HR.out HL.out (by omega) (by omega) ?_); intro D c2 w1 ho1 hg1 hat1; simp only [Nat.zero_add, List.nil_append] at ho1; obtain ⟨g, hD, hbg, hgl⟩ := own_at ho1 (by omega); subst hD; have HO1 := Lib.hid ho1; have HB1 := Lib.hid (bel_app (Below.refl w.heap.size w) hg1 (fun g h => by cases h)); have HBX := Lib.hid (Blk.new w1 51 #[.slice (some ⟨g, 0, none⟩) n c2]); clear ho1 hg1 hat1)
  have hwl := HB1.out.size
  refine (sortCells w1.heap.size w.heap.size g n c2 xs _ (HO1.out.alloc _) (HBX.out.cell 0) (by omega) hn hn12).mono ?_
  rintro e w2 ⟨rfl, l, hll, hlm, hlp, ho2, hg2⟩
  have hb2 : Below w.heap.size w w2 := bel_app (A := some ⟨g, 0, none⟩) (bel_alloc HB1.out _) hg2 (fun k e => by simp only [ob, Option.map_some, Option.some.injEq] at e; omega)
  have HV : Hid (dedG l n = sortC xs) := by have := ded_fin hlp hlm; rwa [hll] at this
  have hBX := HBX.out.grown hg2 (fun e => by injection e with e; omega)
  have b0 : w2.cell? ⟨w1.heap.size, 0, none⟩ = some (.slice (some ⟨g, 0, none⟩) n c2) := by simpa using hBX.cell 0
  have bl := hBX.lt
  have HBY := Lib.hid hBX
  have HLL := Lib.hid hll
  have HRL := Lib.hid (Rd.of_own ho2)
  have hg3 := (own_lt ho2 g rfl).2
  have hsz2 := hb2.size
  clear hll hlm hlp ho2 hg2 hBX
  go_wp2_with fail
  go_loopw [15, 4] (fun e15 e4 wr => ∃ (k q cq : Nat) (D : Option Addr), k ≤ n ∧ q ≤ k ∧ e15 = .int .i64 k ∧ e4 = .slice D q cq ∧ wr.ownsRow w2.heap.size 80 2 (.slice D q cq) q (vC (dedG l k)) ∧ Below w2.heap.size w2 wr) (fun e15 _ _ => n - (intOf e15).toNat)
  case atStart => exact ⟨0, 0, 0, none, by omega, by omega, rfl, rfl, own_nil _ _ _ _, Below.refl _ _⟩
  case round =>
    obtain ⟨k, q, cq, D, hk, hq, rfl, rfl, hown, hb⟩ := hrel
    by_cases hlt : k < n
    · have hkl : k < l.length := by rw [HLL.out]; exact hlt
      have hrw := HRL.out.below hb
      obtain ⟨g', off, he, _, a1, a2⟩ := RdC.at_ hrw hkl
      simp only [Option.some.injEq, Addr.mk.injEq, and_true] at he
      obtain ⟨rfl, rfl⟩ := he
      rw [Nat.zero_add] at a1 a2
      have hgd : l.getD k default = l[k] := getD_in l hkl
      have hst : dedG l (k + 1) = dedG l k ++ (if keepG l k then [l.getD k default] else []) := rfl
      obtain ⟨x, hx⟩ : ∃ x, l[k].1 = x := ⟨_, rfl⟩
      obtain ⟨y, hy⟩ : ∃ y, l[k].2 = y := ⟨_, rfl⟩
      have hxy : l[k] = (x, y) := Prod.ext hx hy
      rw [hx] at a1
      rw [hy] at a2
      rw [hxy] at hgd
      rw [hgd] at hst
      have HO := Lib.hid hown
      have hbs := hb.size
      have KEEP : Hid (keepG l k = true → dedG l (k + 1) = dedG l k ++ [(x, y)]) := fun h => by rw [hst, h]; rfl
      have SKIP : Hid (keepG l k = false → dedG l (k + 1) = dedG l k) := fun h => by rw [hst, h]; simp
      have hka : keepG l k = (k == 0 || !decide (l.getD (k - 1) default = (x, y))) := by rw [keepG_C, hgd]
      have HKA := Lib.hid hka
      have hglw : g < wr.heap.size := Nat.lt_of_lt_of_le hg3 hb.size
      have hB := HBY.out.below hb
      have d0 : wr.cell? ⟨w1.heap.size, 0, none⟩ = some (.slice (some ⟨g, 0, none⟩) n c2) := by simpa using hB.cell 0
      have dl := hB.lt
      have hk1 : (0 : Int) ≤ (k : Int) := by omega
      have hk2 : (k : Int) < (n : Int) := by omega
      clear hx hy hxy hst hgd hka hown hB b0 bl
      by_cases hk0 : k = 0
      · have e0 : ((k : Int) == 0) = true := by simp [hk0]
        have HN := Lib.hid (KEEP.out (by rw [HKA.out, hk0]; rfl))
        clear KEEP SKIP HKA hk0
        go_wp2_with fail
        (refine wp_region_below (by kernel_rfl) (by kernel_rfl) ?_; (repeat (first | go_big_quiet_skip | (refine quietV (v := ?_) (by rfl) rfl (fun w' hbw => ?_) ?_; rotate_left; ((try dsimp only at hbw); have hbc := (bcell hbw).1; have hbf := (bcell hbw).2; go_simp; first | done | with_reducible rfl | fail); simp only [List.setIfInBounds_toArray, List.set_cons_zero, List.set_cons_succ]))); refine wpQuiet_nil ?_; intro wq hbq)
        have hbz := hbq.size
        simp only [World.size_alloc] at hbz
        have hCB := (Blk.new wr 80 #[.int .i64 x, .int .i64 y]).below hbq
        have z0 : wq.cell? ⟨wr.heap.size, 0, none⟩ = some (.int .i64 x) := by simpa using hCB.cell 0
        have z1 : wq.cell? ⟨wr.heap.size, 1, none⟩ = some (.int .i64 y) := by simpa using hCB.cell 1
        have zl := hCB.lt
        clear hCB
        go_wp2_with (at_builtin; go_must (refine app_C _ rfl _ _ rfl w2.heap.size _ _ _ _ rfl (own_keep (own_keep (HO.out.alloc _) hbq) (bel_alloc (Below.refl _ _) _)) _ _ _ [(x, y)] rfl (rd_newC _ _ _ _) rfl (by omega) (by simp; omega) ?_); intro D2 cp2 w8 ho8 hg8 hat8; have HO8 := Lib.hid ho8; have HG8 := Lib.hid hg8; clear ho8 hg8 hat8)
        exact ⟨⟨k + 1, q + 1, cp2, D2, by omega, by omega, by go_num, rfl, by rw [HN.out]; exact HO8.out, bel_app (bel_alloc (bel_trans (bel_alloc hb _) hbq) _) HG8.out (fun g' hg1 => ((own_lt HO.out) g' hg1).1)⟩, by simp [intOf]; omega⟩
      · obtain ⟨j, hjk⟩ : ∃ j, k = j + 1 := ⟨k - 1, by omega⟩
        have hjl : j < l.length := by omega
        obtain ⟨g', off', he, _, c1, c3⟩ := RdC.at_ hrw hjl
        simp only [Option.some.injEq, Addr.mk.injEq, and_true] at he
        obtain ⟨rfl, rfl⟩ := he
        rw [Nat.zero_add] at c1 c3
        obtain ⟨p, hp⟩ : ∃ p, l[j].1 = p := ⟨_, rfl⟩
        obtain ⟨r, hr⟩ : ∃ r, l[j].2 = r := ⟨_, rfl⟩
        have hgj : l.getD (k - 1) default = (p, r) := by rw [hjk, Nat.add_sub_cancel, getD_in l hjl]; exact Prod.ext hp hr
        rw [hp] at c1
        rw [hr] at c3
        have e0 : ((k : Int) == 0) = false := by simp; omega
        have hj1 : (k : Int) - 1 = (j : Int) := by omega
        have hj0 : (0 : Int) ≤ (j : Int) := by omega
        have hjw : IntKind.i64.wrap (j : Int) = (j : Int) := Go.IntWalk.i64_in _ (by omega)
        have hjm : (j : Int) < (n : Int) := by omega
        have hkk : (k == 0) = false := by simpa using hk0
        have hkz : ¬ k = 0 := hk0
        have HKK := Lib.hid hkk
        have HGJ := Lib.hid hgj
        clear hp hr hgj hjk hkk hk0
        by_cases hsame : p = x ∧ r = y
        · obtain ⟨rfl, rfl⟩ := hsame
          have HN := Lib.hid (SKIP.out (by rw [HKA.out, HKK.out, HGJ.out]; simp))
          have hne : (p == p && r == r) = true := by simp
          clear KEEP SKIP HKA
          go_wp2_with fail
          (refine wp_region_below (by kernel_rfl) (by kernel_rfl) ?_; (repeat (first | go_big_quiet_skip | (refine quietV (v := ?_) (by rfl) rfl (fun w' hbw => ?_) ?_; rotate_left; ((try dsimp only at hbw); have hbc := (bcell hbw).1; have hbf := (bcell hbw).2; go_simp; first | done | with_reducible rfl | fail); simp only [List.setIfInBounds_toArray, List.set_cons_zero, List.set_cons_succ]))); refine wpQuiet_nil ?_; intro wq hbq)
          go_wp2_with fail
          exact ⟨⟨k + 1, q, cq, D, by omega, by omega, by go_num, rfl, by rw [HN.out]; exact own_keep (HO.out.alloc _) hbq, bel_trans (bel_alloc hb _) hbq⟩, by simp [intOf]; omega⟩
        · have hne : (p == x && r == y) = false := by
            rw [Bool.and_eq_false_iff, beq_eq_false_iff_ne, beq_eq_false_iff_ne]
            by_cases h1 : p = x
            · exact .inr fun h2 => hsame ⟨h1, h2⟩
            · exact .inl h1
          have HN := Lib.hid (KEEP.out (by
            rw [HKA.out, HKK.out, HGJ.out, Bool.false_or, decide_eq_false (fun e => hsame (by injection e with e1 e2; exact ⟨e1, e2⟩))]
            rfl))
          clear KEEP SKIP HKA hsame
          go_wp2_with fail
          (refine wp_region_below (by kernel_rfl) (by kernel_rfl) ?_; (repeat (first | go_big_quiet_skip | (refine quietV (v := ?_) (by rfl) rfl (fun w' hbw => ?_) ?_; rotate_left; ((try dsimp only at hbw); have hbc := (bcell hbw).1; have hbf := (bcell hbw).2; go_simp; first | done | with_reducible rfl | fail); simp only [List.setIfInBounds_toArray, List.set_cons_zero, List.set_cons_succ]))); refine wpQuiet_nil ?_; intro wq hbq)
          have hbz := hbq.size
          simp only [World.size_alloc] at hbz
          have hCB := (Blk.new wr 80 #[.int .i64 x, .int .i64 y]).below hbq
          have z0 : wq.cell? ⟨wr.heap.size, 0, none⟩ = some (.int .i64 x) := by simpa using hCB.cell 0
          have z1 : wq.cell? ⟨wr.heap.size, 1, none⟩ = some (.int .i64 y) := by simpa using hCB.cell 1
          have zl := hCB.lt
          clear hCB
          go_wp2_with (at_builtin; go_must (refine app_C _ rfl _ _ rfl w2.heap.size _ _ _ _ rfl (own_keep (own_keep (HO.out.alloc _) hbq) (bel_alloc (Below.refl _ _) _)) _ _ _ [(x, y)] rfl (rd_newC _ _ _ _) rfl (by omega) (by simp; omega) ?_); intro D2 cp2 w8 ho8 hg8 hat8; have HO8 := Lib.hid ho8; have HG8 := Lib.hid hg8; clear ho8 hg8 hat8)
          exact ⟨⟨k + 1, q + 1, cp2, D2, by omega, by omega, by go_num, rfl, by rw [HN.out]; exact HO8.out, bel_app (bel_alloc (bel_trans (bel_alloc hb _) hbq) _) HG8.out (fun g' hg1 => ((own_lt HO.out) g' hg1).1)⟩, by simp [intOf]; omega⟩
    · obtain rfl : k = n := by omega
      rw [HV.out] at hown
      have HO := Lib.hid (own_base hown hsz2)
      have hk1 : ¬ (k : Int) < (k : Int) := by omega
      clear hown
      go_wp2
      go_ret
      exact ⟨_, _, _, rfl, HO.out, bel_trans hb2 hb⟩
end Go.Proofs.YtcgjnonlndaoeaaGreat

/- Cells moved, moved to their corner, the neighbours of a cell: the program. -/
namespace Go.Proofs.YtcgjnonlndaoeaaGreat
open Go.RowKit
set_option linter.unusedVariables false
attribute [local go_sem ↓] Go.wp_at_zero Go.wp_at_succ

set_option maxHeartbeats 800000 in
theorem moved_i (A : Option Addr) (n c : Nat) (xs : List C) (x y : Int) (w : World) (hr : Rd w A (vC xs)) (hl : xs.length = n) (hn : n ≤ 1048576) (hs : ∀ d ∈ xs, small d) (hx : -1000 ≤ x ∧ x ≤ 1000) (hy : -1000 ≤ y ∧ y ≤ 1000) :
    Calls Tryz.prog 54 #[.slice A n c, .int .i64 x, .int .i64 y] w (RetS w 80 2 (vC (mv xs x y))) := by
  have HL := Lib.hid hl
  have HS := Lib.hid hs
  obtain ⟨hx1, hx2⟩ := hx
  obtain ⟨hy1, hy2⟩ := hy
  clear hl hs
  go_enter Tryz.func54, Tryz.ntmps54
  go_wp2
  go_loopw [12, 7] (fun e12 e7 wr => ∃ (k cq : Nat) (D : Option Addr), k ≤ n ∧ e12 = .int .i64 k ∧ e7 = .slice D k cq ∧ wr.ownsRow w.heap.size 80 2 (.slice D k cq) k (vC (mv (xs.take k) x y)) ∧ Below w.heap.size w wr) (fun e12 _ _ => n - (intOf e12).toNat)
  case atStart => exact ⟨0, 0, none, Nat.zero_le _, rfl, rfl, own_nil _ _ _ _, Below.refl _ _⟩
  case round =>
    obtain ⟨k, cq, D, hk, rfl, rfl, hown, hb⟩ := hrel
    by_cases hlt : k < n
    · have hkl : k < xs.length := by rw [HL.out]; exact hlt
      have hk0 : (0 : Int) ≤ (k : Int) := by omega
      have hk1 : (k : Int) < (n : Int) := by omega
      obtain ⟨g, off, rfl, hg, d1, d2⟩ := RdC.at_ (hr.below hb) hkl
      have hst := mv_take xs x y k hkl
      have hsm := HS.out _ (List.getElem_mem hkl)
      obtain ⟨p, hp⟩ : ∃ p, xs[k].1 = p := ⟨_, rfl⟩
      obtain ⟨q, hq⟩ : ∃ q, xs[k].2 = q := ⟨_, rfl⟩
      unfold small at hsm
      rw [hp, hq] at hsm hst
      rw [hp] at d1
      rw [hq] at d2
      have e1 : IntKind.i64.wrap (p + x) = p + x := Go.IntWalk.i64_in _ (by omega)
      have e2 : IntKind.i64.wrap (q + y) = q + y := Go.IntWalk.i64_in _ (by omega)
      have HST := Lib.hid hst
      have HO := Lib.hid hown
      have hbs := hb.size
      have HRN : Hid (Rd ((wr.alloc (.cells #[.int .i64 p, .int .i64 q] 80)).alloc (.cells #[.int .i64 (p + x), .int .i64 (q + y)] 80)) (some ⟨wr.heap.size + 1, 0, none⟩) (vC [(p + x, q + y)])) := by
        have := rd_newC (wr.alloc (.cells #[.int .i64 p, .int .i64 q] 80)) 80 (p + x) (q + y)
        rw [show (wr.alloc (.cells #[.int .i64 p, .int .i64 q] 80)).heap.size = wr.heap.size + 1 from by simp] at this
        exact this
      clear hst hown hp hq hsm
      go_wp2_with (at_builtin; go_must (refine app_C _ rfl _ _ rfl w.heap.size _ _ _ _ rfl ((HO.out.alloc _).alloc _) _ _ _ [(p + x, q + y)] rfl HRN.out rfl (by omega) (by simp; omega) ?_); intro D2 cp2 w8 ho8 hg8 hat8; have HO8 := Lib.hid ho8; have HG8 := Lib.hid hg8; clear ho8 hg8 hat8)
      exact ⟨⟨k + 1, cp2, D2, by omega, by go_num, rfl, by rw [HST.out]; exact HO8.out, bel_app (bel_alloc (bel_alloc hb _) _) HG8.out (fun g' hg1 => ((own_lt HO.out) g' hg1).1)⟩, by simp [intOf]; omega⟩
    · obtain rfl : k = n := by omega
      rw [List.take_of_length_le (by rw [HL.out]; omega)] at hown
      have HO := Lib.hid hown
      have hk1 : ¬ (k : Int) < (k : Int) := by omega
      clear hown
      go_wp2
      go_ret
      exact ⟨_, _, _, rfl, HO.out, hb⟩
set_option maxHeartbeats 1600000 in
theorem corner_i (A : Option Addr) (n c : Nat) (xs : List C) (w : World) (hr : Rd w A (vC xs)) (hl : xs.length = n) (hn1 : 1 ≤ n) (hn : n ≤ 12) (hs : ∀ d ∈ xs, small d) :
    Calls Tryz.prog 100 #[.slice A n c] w (RetS w 80 2 (vC (cornI xs))) := by
  have h0 : 0 < xs.length := by omega
  have hsm := minC_small h0 hs
  have hms : ∀ k, k ≤ n → (-1000 ≤ minTo (·.1) xs k ∧ minTo (·.1) xs k ≤ 1000) ∧ (-1000 ≤ minTo (·.2) xs k ∧ minTo (·.2) xs k ≤ 1000) := by
    intro k hk
    obtain ⟨a, ha, e1⟩ := minTo_at (·.1) xs h0 k (by omega)
    obtain ⟨b, hb, e2⟩ := minTo_at (·.2) xs h0 k (by omega)
    have h1 := hs a ha
    have h2 := hs b hb
    unfold small at h1 h2
    rw [e1, e2]
    exact ⟨h1.1, h2.2⟩
  have hV : cornI xs = sortC (mv xs (-(minTo (·.1) xs n)) (-(minTo (·.2) xs n))) := by unfold cornI minC; rw [hl]
  have HV := Lib.hid hV
  have HL := Lib.hid hl
  have HS := Lib.hid hs
  have HMS := Lib.hid hms
  have HR := Lib.hid hr
  obtain ⟨g0, o0, hA, hg0, z1, z2⟩ := RdC.at_ hr h0
  subst hA
  obtain ⟨u, hu⟩ : ∃ u, xs[0].1 = u := ⟨_, rfl⟩
  obtain ⟨v, hv⟩ : ∃ v, xs[0].2 = v := ⟨_, rfl⟩
  rw [hu] at z1
  rw [hv] at z2
  simp only [Nat.zero_mul, Nat.add_zero] at z1 z2
  have H1 : Hid (minTo (·.1) xs 0 = u) := by show (xs.getD 0 default).1 = u; rw [getD_in xs h0, hu]
  have H2 : Hid (minTo (·.2) xs 0 = v) := by show (xs.getD 0 default).2 = v; rw [getD_in xs h0, hv]
  have hn0 : (0 : Int) < (n : Int) := by omega
  have hn00 : 0 < n := by omega
  clear hl hs hms hr hV hu hv hsm
  go_enter Tryz.func100, Tryz.ntmps100
  go_wp2_with fail
  (refine wp_region_below (by kernel_rfl) (by kernel_rfl) ?_; (repeat (first | go_big_quiet_skip | (refine quietV (v := ?_) (by rfl) rfl (fun w' hbw => ?_) ?_; rotate_left; ((try dsimp only at hbw); have hbc := (bcell hbw).1; have hbf := (bcell hbw).2; go_simp; first | done | with_reducible rfl | fail); simp only [List.setIfInBounds_toArray, List.set_cons_zero, List.set_cons_succ]))); refine wpQuiet_nil ?_; intro wq hbq)
  clear z1 z2
  go_wp2_with fail
  go_loopw [17, 3, 4] (fun e17 e3 e4 wr => ∃ (k : Nat) (px py : Int), k ≤ n ∧ e17 = .int .i64 k ∧ e3 = .int .i64 px ∧ e4 = .int .i64 py ∧ minTo (·.1) xs k = px ∧ minTo (·.2) xs k = py ∧ Below w.heap.size w wr) (fun e17 _ _ _ => n - (intOf e17).toNat)
  case atStart => exact ⟨0, u, v, Nat.zero_le _, rfl, rfl, rfl, H1.out, H2.out, hbq⟩
  case round =>
    obtain ⟨k, px, py, hk, rfl, rfl, rfl, hpx, hpy, hb⟩ := hrel
    have HPX := Lib.hid hpx
    have HPY := Lib.hid hpy
    clear hpx hpy
    by_cases hlt : k < n
    · have hkl : k < xs.length := by rw [HL.out]; exact hlt
      have hk0 : (0 : Int) ≤ (k : Int) := by omega
      have hk1 : (k : Int) < (n : Int) := by omega
      obtain ⟨g, off, he, hg, d1, d2⟩ := RdC.at_ (HR.out.below hb) hkl
      simp only [Option.some.injEq, Addr.mk.injEq, and_true] at he
      obtain ⟨rfl, rfl⟩ := he
      obtain ⟨p, hp⟩ : ∃ p, xs[k].1 = p := ⟨_, rfl⟩
      obtain ⟨q, hq⟩ : ∃ q, xs[k].2 = q := ⟨_, rfl⟩
      rw [hp] at d1
      rw [hq] at d2
      have S1 : Hid (minTo (·.1) xs (k + 1) = if p < px then p else px) := by show minTo (·.1) xs (k + 1) = _; unfold minTo; rw [getD_in xs hkl, hp, HPX.out]
      have S2 : Hid (minTo (·.2) xs (k + 1) = if q < py then q else py) := by show minTo (·.2) xs (k + 1) = _; unfold minTo; rw [getD_in xs hkl, hq, HPY.out]
      clear hp hq
      by_cases h1 : p < px
      · by_cases h2 : q < py
        · have T1 : Hid (minTo (·.1) xs (k + 1) = p) := by show _ = _; rw [S1.out]; exact if_pos h1
          have T2 : Hid (minTo (·.2) xs (k + 1) = q) := by show _ = _; rw [S2.out]; exact if_pos h2
          go_wp2_with fail
          (refine wp_region_below (by kernel_rfl) (by kernel_rfl) ?_; (repeat (first | go_big_quiet_skip | (refine quietV (v := ?_) (by rfl) rfl (fun w' hbw => ?_) ?_; rotate_left; ((try dsimp only at hbw); have hbc := (bcell hbw).1; have hbf := (bcell hbw).2; go_simp; first | done | with_reducible rfl | fail); simp only [List.setIfInBounds_toArray, List.set_cons_zero, List.set_cons_succ]))); refine wpQuiet_nil ?_; intro wq hbq)
          go_wp2_with fail
          exact ⟨⟨k + 1, p, q, by omega, by go_num, by first | rfl | (simp <;> omega), by first | rfl | (simp <;> omega), T1.out, T2.out, bel_trans (bel_alloc hb _) hbq⟩, by simp [intOf]; omega⟩
        · have T1 : Hid (minTo (·.1) xs (k + 1) = p) := by show _ = _; rw [S1.out]; exact if_pos h1
          have T2 : Hid (minTo (·.2) xs (k + 1) = py) := by show _ = _; rw [S2.out]; exact if_neg h2
          go_wp2_with fail
          (refine wp_region_below (by kernel_rfl) (by kernel_rfl) ?_; (repeat (first | go_big_quiet_skip | (refine quietV (v := ?_) (by rfl) rfl (fun w' hbw => ?_) ?_; rotate_left; ((try dsimp only at hbw); have hbc := (bcell hbw).1; have hbf := (bcell hbw).2; go_simp; first | done | with_reducible rfl | fail); simp only [List.setIfInBounds_toArray, List.set_cons_zero, List.set_cons_succ]))); refine wpQuiet_nil ?_; intro wq hbq)
          go_wp2_with fail
          exact ⟨⟨k + 1, p, py, by omega, by go_num, by first | rfl | (simp <;> omega), by first | rfl | (simp <;> omega), T1.out, T2.out, bel_trans (bel_alloc hb _) hbq⟩, by simp [intOf]; omega⟩
      · by_cases h2 : q < py
        · have T1 : Hid (minTo (·.1) xs (k + 1) = px) := by show _ = _; rw [S1.out]; exact if_neg h1
          have T2 : Hid (minTo (·.2) xs (k + 1) = q) := by show _ = _; rw [S2.out]; exact if_pos h2
          go_wp2_with fail
          (refine wp_region_below (by kernel_rfl) (by kernel_rfl) ?_; (repeat (first | go_big_quiet_skip | (refine quietV (v := ?_) (by rfl) rfl (fun w' hbw => ?_) ?_; rotate_left; ((try dsimp only at hbw); have hbc := (bcell hbw).1; have hbf := (bcell hbw).2; go_simp; first | done | with_reducible rfl | fail); simp only [List.setIfInBounds_toArray, List.set_cons_zero, List.set_cons_succ]))); refine wpQuiet_nil ?_; intro wq hbq)
          go_wp2_with fail
          exact ⟨⟨k + 1, px, q, by omega, by go_num, by first | rfl | (simp <;> omega), by first | rfl | (simp <;> omega), T1.out, T2.out, bel_trans (bel_alloc hb _) hbq⟩, by simp [intOf]; omega⟩
        · have T1 : Hid (minTo (·.1) xs (k + 1) = px) := by show _ = _; rw [S1.out]; exact if_neg h1
          have T2 : Hid (minTo (·.2) xs (k + 1) = py) := by show _ = _; rw [S2.out]; exact if_neg h2
          go_wp2_with fail
          (refine wp_region_below (by kernel_rfl) (by kernel_rfl) ?_; (repeat (first | go_big_quiet_skip | (refine quietV (v := ?_) (by rfl) rfl (fun w' hbw => ?_) ?_; rotate_left; ((try dsimp only at hbw); have hbc := (bcell hbw).1; have hbf := (bcell hbw).2; go_simp; first | done | with_reducible rfl | fail); simp only [List.setIfInBounds_toArray, List.set_cons_zero, List.set_cons_succ]))); refine wpQuiet_nil ?_; intro wq hbq)
          go_wp2_with fail
          exact ⟨⟨k + 1, px, py, by omega, by go_num, by first | rfl | (simp <;> omega), by first | rfl | (simp <;> omega), T1.out, T2.out, bel_trans (bel_alloc hb _) hbq⟩, by simp [intOf]; omega⟩
    · obtain rfl : k = n := by omega
      have hk1 : ¬ (k : Int) < (k : Int) := by omega
      have hms := HMS.out k (Nat.le_refl _)
      rw [HPX.out, HPY.out] at hms
      obtain ⟨⟨q1, q2⟩, q3, q4⟩ := hms
      have e1 : IntKind.i64.wrap (-px) = -px := Go.IntWalk.i64_in _ (by omega)
      have e2 : IntKind.i64.wrap (-py) = -py := Go.IntWalk.i64_in _ (by omega)
      go_wp2_with fail
      refine (moved_i _ k c xs (-px) (-py) _ (HR.out.below hb) HL.out (by omega) HS.out (by omega) (by omega)).mono ?_
      rintro e w1 ⟨D, m, cD, rfl, ho, hb1⟩
      have hm : m = k := by have := own_len ho; rw [vC_length, mv_len, HL.out] at this; omega
      subst hm
      have HO := Lib.hid ho
      clear ho
      go_wp2_with fail
      refine (SortCells_i D m cD _ _ (Rd.of_own HO.out) (by rw [mv_len]; exact HL.out) hn1 hn).mono ?_
      rintro e w2 ⟨E, m2, cE, rfl, ho2, hb2⟩
      rw [← HPX.out, ← HPY.out, ← HV.out] at ho2
      have HO2 := Lib.hid (own_base (base' := w.heap.size) ho2 (by have := hb.size; have := hb1.size; omega))
      clear ho2
      go_wp2_with fail
      go_ret
      exact ⟨_, _, _, rfl, HO2.out, bel_trans (bel_trans hb hb1) hb2⟩
end Go.Proofs.YtcgjnonlndaoeaaGreat

/- Slices of shapes: read, owned. -/
namespace Go.Proofs.YtcgjnonlndaoeaaGreat
open Go.RowKit
set_option linter.unusedVariables false
/-- A slice header whose memory is a block of cells that reads as f. -/
def CRow (w : World) (x : H) (f : List C) : Prop := f.length = x.2.1 ∧ Rd w x.1 (vC f) ∧ ∀ g, ob x.1 = some g → ∃ cur z, w.heap[g]? = some (.cells cur 80 z)
/-- A slice of shapes that reads as F. -/
structure RdF (w : World) (A : Option Addr) (n : Nat) (hs : List H) (F : List (List C)) : Prop where
  top : Rd w A (vS hs)
  hlen : hs.length = n
  flen : F.length = n
  row : ∀ (i : Nat) x f, hs[i]? = some x → F[i]? = some f → CRow w x f
/-- .. and whose own block is the call's own. -/
structure OwnF (base : Nat) (w : World) (A : Option Addr) (n c : Nat) (hs : List H) (F : List (List C)) : Prop where
  own : w.ownsRow base 51 1 (.slice A n c) n (vS hs)
  flen : F.length = n
  row : ∀ (i : Nat) x f, hs[i]? = some x → F[i]? = some f → CRow w x f
section
variable {w w' : World} {x : H} {f : List C} {A : Option Addr} {n c base : Nat} {hs : List H} {F : List (List C)}
theorem CRow.lt (h : CRow w x f) : ∀ g, ob x.1 = some g → g < w.heap.size := fun g e => by
  obtain ⟨cur, z, h1⟩ := h.2.2 g e
  exact (Array.getElem?_eq_some_iff.1 h1).1
theorem CRow.below (h : CRow w x f) (hb : Below w.heap.size w w') : CRow w' x f :=
  ⟨h.1, h.2.1.below hb, fun g e => by obtain ⟨cur, z, h1⟩ := h.2.2 g e; exact ⟨cur, z, (hb.block g (Array.getElem?_eq_some_iff.1 h1).1).trans h1⟩⟩
theorem CRow.of_own (h : w.ownsRow base 80 2 (.slice A n c) n (vC f)) : CRow w (A, n, c) f := by
  refine ⟨by have := own_len h; rw [vC_length] at this; show f.length = n; omega, Rd.of_own h, fun g e => ?_⟩
  rcases h.2 with ⟨hv, _⟩ | ⟨g', cap, cur, hv, _, hg, _⟩
  · injection hv with hA
    subst hA
    simp [ob] at e
  · injection hv with hA
    subst hA
    simp only [ob, Option.map_some, Option.some.injEq] at e
    subst e
    exact ⟨cur, _, hg⟩
/-- A row of cells lies apart from a block of headers. -/
theorem CRow.apart (h : CRow w x f) {A : Option Addr} {n c base : Nat} {vs : List Value} {sz : Nat} (ho : w.ownsRow base 51 sz (.slice A n c) n vs) : ∀ g, ob x.1 = some g → ob A ≠ some g := by
  intro g e ea
  obtain ⟨cur, z, h1⟩ := h.2.2 g e
  rcases ho.2 with ⟨hv, _⟩ | ⟨g', cap, cur', hv, _, hg, _⟩
  · injection hv with hA
    subst hA
    simp [ob] at ea
  · injection hv with hA
    subst hA
    simp only [ob, Option.map_some, Option.some.injEq] at ea
    subst ea
    rw [h1] at hg
    injection hg with hg
    injection hg with _ h3
    exact absurd h3 (by decide)
theorem CRow.grown {row : Option Nat} (h : CRow w x f) (hg : w.grownBy w' row) (hn : ∀ g, ob x.1 = some g → row ≠ some g) : CRow w' x f :=
  ⟨h.1, h.2.1.grown hg (fun g e r => hn g (by simpa using e) r.symm), fun g e => by
    obtain ⟨cur, z, h1⟩ := h.2.2 g e
    exact ⟨cur, z, (hg.block g (Array.getElem?_eq_some_iff.1 h1).1 (fun r => hn g e r.symm)).trans h1⟩⟩
theorem OwnF.hlen (h : OwnF base w A n c hs F) : hs.length = n := by have := own_len h.own; rw [vS_length] at this; omega
theorem OwnF.rd (h : OwnF base w A n c hs F) : RdF w A n hs F := ⟨Rd.of_own h.own, h.hlen, h.flen, h.row⟩
theorem RdF.below (h : RdF w A n hs F) (hb : Below w.heap.size w w') : RdF w' A n hs F := ⟨h.top.below hb, h.hlen, h.flen, fun i x f a b => (h.row i x f a b).below hb⟩
theorem OwnF.below (h : OwnF base w A n c hs F) (hb : Below w.heap.size w w') : OwnF base w' A n c hs F := ⟨own_keep h.own hb, h.flen, fun i x f a b => (h.row i x f a b).below hb⟩
theorem OwnF.mono {base' : Nat} (h : OwnF base w A n c hs F) (hb : base' ≤ base) : OwnF base' w A n c hs F := ⟨own_base h.own hb, h.flen, h.row⟩
theorem OwnF.nil (base : Nat) (w : World) : OwnF base w none 0 0 [] [] := ⟨own_nil _ _ _ _, rfl, fun i x f a => by simp at a⟩
theorem OwnF.none_ (h : w.ownsRow base 51 1 (.slice A 0 c) 0 []) : OwnF base w A 0 c [] [] := ⟨h, rfl, fun i x f a => by simp at a⟩
theorem RdF.at_ (h : RdF w A n hs F) {k : Nat} (hk : k < n) : ∃ (x : H) (f : List C) (g off : Nat), hs[k]? = some x ∧ F[k]? = some f ∧ A = some ⟨g, off, none⟩ ∧ g < w.heap.size ∧ w.cell? ⟨g, off + k, none⟩ = some (.slice x.1 x.2.1 x.2.2) ∧ CRow w x f := by
  have a : k < hs.length := by rw [h.hlen]; exact hk
  have b : k < F.length := by rw [h.flen]; exact hk
  obtain ⟨g, off, e, hg, c1⟩ := RdS.at_ h.top a
  exact ⟨hs[k], F[k], g, off, List.getElem?_eq_getElem a, List.getElem?_eq_getElem b, e, hg, c1, h.row k _ _ (List.getElem?_eq_getElem a) (List.getElem?_eq_getElem b)⟩
end
/-- A result that is a slice of shapes of the call's own. -/
def RetF (w : World) (F : List (List C)) (e : Ending) (w' : World) : Prop :=
  ∃ A n c hs, e = .returned (.slice A n c) ∧ OwnF w.heap.size w' A n c hs F ∧ Below w.heap.size w w'
/-- The place in an ordered list. -/
theorem countP_cut {α : Type} {p : α → Bool} {F : List α} {k : Nat} (hk : k ≤ F.length) (h1 : ∀ (t : Nat) x, t < k → F[t]? = some x → p x = true) (h2 : ∀ (t : Nat) x, k ≤ t → F[t]? = some x → p x = false) : F.countP p = k := by
  have e : F.countP p = (F.take k).countP p + (F.drop k).countP p := by rw [← List.countP_append, List.take_append_drop]
  have e1 : (F.take k).countP p = k := by
    have : (F.take k).countP p = (F.take k).length := by
      rw [List.countP_eq_length]
      intro x hx
      obtain ⟨i, hi, rfl⟩ := List.mem_iff_getElem.1 hx
      rw [List.length_take] at hi
      exact h1 i _ (by omega) (by rw [List.getElem_take]; exact List.getElem?_eq_getElem (by omega))
    rw [this, List.length_take]
    omega
  have e2 : (F.drop k).countP p = 0 := by
    rw [List.countP_eq_zero]
    intro x hx
    obtain ⟨i, hi, rfl⟩ := List.mem_iff_getElem.1 hx
    rw [List.length_drop] at hi
    rw [List.getElem_drop]
    simpa using h2 (k + i) _ (by omega) (List.getElem?_eq_getElem (by omega))
  omega
end Go.Proofs.YtcgjnonlndaoeaaGreat
