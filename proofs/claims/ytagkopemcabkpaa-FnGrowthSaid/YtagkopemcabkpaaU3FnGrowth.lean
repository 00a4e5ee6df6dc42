/- Texts of this claim, one behind the other: part 3. -/
import Derived.Test.YtagkopemcabkpaaU2FnGrowth
import Derived.Outline
import Derived.WalkLawsBesides
import Derived.WalkSpells
import Derived.BigQuiet
import Derived.Deep.QuietTactic
import Derived.Deep.RegionHeld3
import Derived.Deep.RegionWith
import Derived.Deep.DeepCutAuto
import Derived.Deep.CutBlock
import Derived.Deep.DrawnRows
import Derived.Shelf.Small.Bits
import Derived.Shelf.Strconv.Itoa0
import Derived.Shelf.Sort.Plain
import Derived.Ground.GgsProg
import Derived.Shelf.GgSortFunc.Insertion
import Derived.Shelf.GgSortFunc.Small
import Derived.Shelf.GgSortFunc.InsertionK
import Derived.Shelf.GgSortFunc.SmallK
import Derived.Shelf.GgSortFunc.Tiny
import Derived.Shelf.GgSortFunc.Compose
import Derived.Shelf.GgSortFunc.LotD
import Derived.Shelf.GgSortFunc.Pivot
import Derived.Shelf.GgSortFunc.Partition
import Derived.Shelf.GgSortFunc.Pdq
import Derived.Shelf.GgSortFunc.Whole
import Derived.Shelf.Slices.In.SortNone
import Derived.Shelf.Slices.In.SortNone2
import Derived.Shelf.SlSortFunc.Xorshift
import Derived.Shelf.SlSortFuncK.ComposeK
import Derived.Shelf.SlSortFuncK.SiftDownK
import Derived.Shelf.SlSortFuncK.HeapSortK
import Derived.Shelf.SlSortFuncK.PartialInsertionK
import Derived.Shelf.SlSortFuncK.LotDK
import Derived.Shelf.SlSortFuncK.PivotK
import Derived.Shelf.SlSortFuncK.PartitionK
import Derived.Shelf.SlSortFunc.SiftDown
import Derived.Shelf.SlSortFunc.HeapSort
import Derived.Shelf.SlSortFunc.PartialInsertion
import Derived.Shelf.SlSortFuncK.PdqK
import Derived.Shelf.SlSortFuncK.WholeK
import Derived.Test.YtagkopemcabkpaaProg
import Derived.Lib.ReflectliteSwap
import Derived.StillTail
import Derived.OrdersHeld
import Derived.Laws.AppendOwn
import Derived.Laws.CopyOwn
/- The reference's IsRowConvex on a shape. -/
namespace Go.Proofs.Ytagkopemcabkpaa
open Go.RowKit
set_option linter.unusedVariables false
attribute [local go_sem ↓] Go.wp_at_zero Go.wp_at_succ
/-- A cell of the row of the one before comes right after it. -/
def rcTwo (a b : C) : Bool := !(decide (b.2 = a.2) && !decide (b.1 = a.1 + 1))
def rcFrom (a : C) : List C → Bool
  | [] => true
  | b :: l => rcTwo a b && rcFrom b l
def rowCvx : List C → Bool
  | [] => true
  | a :: l => rcFrom a l
theorem rcFrom_no : ∀ (a : C) (l : List C) (i : Nat) (h : i + 1 < (a :: l).length), rcTwo (a :: l)[i] (a :: l)[i + 1] = false → rcFrom a l = false
  | a, [], i, h, _ => by simp at h
  | a, b :: l, 0, h, e => by simp only [List.getElem_cons_zero, Nat.zero_add, List.getElem_cons_succ] at e; simp [rcFrom, e]
  | a, b :: l, i + 1, h, e => by
    have := rcFrom_no b l i (by simp at h ⊢; omega) (by simpa using e)
    simp [rcFrom, this]
theorem rcFrom_all : ∀ (a : C) (l : List C), (∀ (i : Nat) (h : i + 1 < (a :: l).length), rcTwo (a :: l)[i] (a :: l)[i + 1] = true) → rcFrom a l = true
  | a, [], _ => rfl
  | a, b :: l, h => by
    have h0 := h 0 (by simp)
    simp only [List.getElem_cons_zero, Nat.zero_add, List.getElem_cons_succ] at h0
    have h1 := rcFrom_all b l (fun i hi => by have := h (i + 1) (by simp at hi ⊢; omega); simpa using this)
    simp [rcFrom, h0, h1]
theorem rowCvx_no {xs : List C} {i : Nat} (h : i + 1 < xs.length) (e : rcTwo xs[i] xs[i + 1] = false) : rowCvx xs = false := by
  cases xs with
  | nil => simp at h
  | cons a l => exact rcFrom_no a l i h e
theorem rowCvx_all {xs : List C} (e : ∀ (i : Nat) (h : i + 1 < xs.length), rcTwo xs[i] xs[i + 1] = true) : rowCvx xs = true := by
  cases xs with
  | nil => rfl
  | cons a l => exact rcFrom_all a l e
set_option maxRecDepth 100000 in
set_option maxHeartbeats 1600000 in
theorem IsRowConvex_s (A : Option Addr) (n c : Nat) (xs : List C) (w : World) (hr : Rd w A (vC xs)) (hl : xs.length = n) (hs : isShape xs = true) :
    Calls Try.prog 36 #[.slice A n c] w (Ret w (.bool (rowCvx xs))) := by
  have hlen := shape_len hs
  have hsm := shape_small hs
  have hn8 : n ≤ 8 := by omega
  have hn1 : 1 ≤ n := by omega
  have HL := Lib.hid hl
  have HS := Lib.hid hs
  have HSM := Lib.hid hsm
  clear hs hsm hl hlen
  go_enter Try.func36, Try.ntmps36
  go_wp2_with fail
  go_loopw [3, 2] (fun i e2 wr => ∃ k : Nat, 1 ≤ k ∧ k ≤ n ∧ i = .int .i64 k ∧ (∀ (j : Nat) (h : j + 1 < xs.length), j + 1 < k → rcTwo xs[j] xs[j + 1] = true) ∧ Below w.heap.size w wr) (fun i _ _ => n - (intOf i).toNat)
  case atStart => exact ⟨1, Nat.le_refl _, hn1, rfl, fun j h h1 => by omega, Below.refl _ _⟩
  case round =>
    obtain ⟨k, hk1, hk, rfl, hgo, hb⟩ := hrel
    have HGO := Lib.hid hgo
    clear hgo
    by_cases hlt : k < n
    · have hk0 : (k : Int) < (n : Int) := by omega
      go_wp2_with fail
      refine (IsShape_s A n c xs wr (hr.below hb) HL.out (by omega)).mono ?_
      rw [HS.out]
      rintro e w1 ⟨rfl, hb1⟩
      obtain ⟨j, rfl⟩ : ∃ j, k = j + 1 := ⟨k - 1, by omega⟩
      have hb2 := bel_trans hb hb1
      have hj1 : j + 1 < xs.length := by rw [HL.out]; exact hlt
      obtain ⟨g, off, rfl, hgw, c1, c2⟩ := RdC.at_ (hr.below hb2) hj1
      obtain ⟨g', off', e, _, d1, d2⟩ := RdC.at_ (hr.below hb2) (show j < xs.length by omega)
      simp only [Option.some.injEq, Addr.mk.injEq, and_true] at e
      obtain ⟨rfl, rfl⟩ := e
      have HNO := Lib.hid (fun e => rowCvx_no (xs := xs) (i := j) hj1 e)
      have HYES : Hid (rcTwo xs[j] xs[j + 1] = true → ∀ (i : Nat) (h : i + 1 < xs.length), i + 1 < j + 1 + 1 → rcTwo xs[i] xs[i + 1] = true) := Lib.hid (fun e i h h1 => by
        rcases (by omega : i < j ∨ i = j) with h2 | rfl
        · exact HGO.out i h (by omega)
        · exact e)
      have hsj := HSM.out _ (List.getElem_mem (show j < xs.length by omega))
      obtain ⟨⟨x, y⟩, hx⟩ : ∃ p, xs[j + 1] = p := ⟨_, rfl⟩
      obtain ⟨⟨x', y'⟩, hx'⟩ : ∃ p, xs[j]'(by omega) = p := ⟨_, rfl⟩
      rw [hx] at c1 c2 HNO HYES
      rw [hx'] at d1 d2 hsj HNO HYES
      have v1 : IntKind.i64.wrap (((j + 1 : Nat) : Int) - 1) = (j : Int) := by rw [show ((j + 1 : Nat) : Int) - 1 = (j : Int) from by omega]; exact Go.IntWalk.i64_in _ (by omega)
      have v2 : IntKind.i64.wrap (x' + 1) = x' + 1 := Go.IntWalk.i64_in _ (by have := hsj.1; omega)
      have i0 : (0 : Int) ≤ (j : Int) + 1 := by omega
      have i3 : (j : Int) + 1 < (n : Int) := by omega
      have v3 : IntKind.i64.wrap (j : Int) = (j : Int) := Go.IntWalk.i64_in _ (by omega)
      have v4 : IntKind.i64.wrap ((j : Int) + 1 - 1) = (j : Int) := by rw [show (j : Int) + 1 - 1 = (j : Int) from by omega]; exact v3
      have i1 : (0 : Int) ≤ (j : Int) := by omega
      have i2 : (j : Int) < (n : Int) := by omega
      have HBB := Lib.hid hb2
      clear hb hb1 hb2 hx hx' hsj hj1 hr
      by_cases hy : y = y'
      · have hyy : (y == y') = true := by simp [hy]
        by_cases hxx : x = x' + 1
        · have hxe : (x == x' + 1) = true := by simp [hxx]
          have HT := Lib.hid (HYES.out (by simp [rcTwo, hy, hxx]))
          clear hy hxx
          go_wp2_with fail
          (refine wp_region_below (by kernel_rfl) (by kernel_rfl) ?_; (repeat (first | go_big_quiet_skip | (refine quietV (v := ?_) (by rfl) rfl (fun w' hbw => ?_) ?_; rotate_left; ((try dsimp only at hbw); have hbc := (bcell hbw).1; have hbf := (bcell hbw).2; go_simp; first | done | with_reducible rfl | fail); simp only [List.setIfInBounds_toArray, List.set_cons_zero, List.set_cons_succ]))); refine wpQuiet_nil ?_; intro wq hbq)
          go_wp2_with fail
          exact ⟨⟨j + 1 + 1, by omega, by omega, by go_num, HT.out, bel_trans HBB.out hbq⟩, by simp [intOf]; omega⟩
        · have hxe : (x == x' + 1) = false := by simp [hxx]
          have HF := Lib.hid (HNO.out (by simp [rcTwo, hy, hxx]))
          clear hy hxx
          go_wp2_with fail
          (refine wp_region_below (by kernel_rfl) (by kernel_rfl) ?_; (repeat (first | go_big_quiet_skip | (refine quietV (v := ?_) (by rfl) rfl (fun w' hbw => ?_) ?_; rotate_left; ((try dsimp only at hbw); have hbc := (bcell hbw).1; have hbf := (bcell hbw).2; go_simp; first | done | with_reducible rfl | fail); simp only [List.setIfInBounds_toArray, List.set_cons_zero, List.set_cons_succ]))); refine wpQuiet_nil ?_; intro wq hbq)
          go_wp2_with fail
          go_ret
          exact ⟨by rw [HF.out]; rfl, bel_trans HBB.out hbq⟩
      · have hyy : (y == y') = false := by simp [hy]
        have HT := Lib.hid (HYES.out (by simp [rcTwo, hy]))
        clear hy
        go_wp2_with fail
        (refine wp_region_below (by kernel_rfl) (by kernel_rfl) ?_; (repeat (first | go_big_quiet_skip | (refine quietV (v := ?_) (by rfl) rfl (fun w' hbw => ?_) ?_; rotate_left; ((try dsimp only at hbw); have hbc := (bcell hbw).1; have hbf := (bcell hbw).2; go_simp; first | done | with_reducible rfl | fail); simp only [List.setIfInBounds_toArray, List.set_cons_zero, List.set_cons_succ]))); refine wpQuiet_nil ?_; intro wq hbq)
        go_wp2_with fail
        exact ⟨⟨j + 1 + 1, by omega, by omega, by go_num, HT.out, bel_trans HBB.out hbq⟩, by simp [intOf]; omega⟩
    · obtain rfl : k = n := by omega
      have hk0 : ¬ (k : Int) < (k : Int) := by omega
      have HT : Hid (rowCvx xs = true) := Lib.hid (rowCvx_all fun i h => HGO.out i h (by have := HL.out; omega))
      go_wp2_with fail
      refine (IsShape_s A k c xs wr (hr.below hb) HL.out (by omega)).mono ?_
      rw [HS.out]
      rintro e w1 ⟨rfl, hb1⟩
      go_wp2_with fail
      go_ret
      exact ⟨by rw [HT.out]; rfl, bel_trans hb hb1⟩
end Go.Proofs.Ytagkopemcabkpaa

/- Insertion sort by exchanges of neighbours, on lists. No program is in sight. -/
namespace Go.Proofs.Ytagkopemcabkpaa
open Go.RowKit
set_option linter.unusedVariables false
section
variable {α : Type} [Inhabited α] {lt : α → α → Bool}
/-- The elements at i and j exchanged. -/
def swL (l : List α) (i j : Nat) : List α := (l.set i (l.getD j default)).set j (l.getD i default)
theorem swL_len (l : List α) (i j : Nat) : (swL l i j).length = l.length := by simp [swL]
theorem getD_in (l : List α) {i : Nat} (h : i < l.length) : l.getD i default = l[i] := by rw [List.getD_eq_getElem?_getD, List.getElem?_eq_getElem h]; rfl
theorem swL_get (l : List α) {i j : Nat} (hi : i < l.length) (hj : j < l.length) (k : Nat) : (swL l i j).getD k default = if k = j then l.getD i default else if k = i then l.getD j default else l.getD k default := by
  unfold swL
  simp only [List.getD_eq_getElem?_getD, List.getElem?_set, List.length_set]
  by_cases h1 : j = k
  · subst h1
    simp [hj]
  · simp only [if_neg h1]
    rw [if_neg (Ne.symm h1)]
    by_cases h2 : i = k
    · subst h2
      simp [hi]
    · simp only [if_neg h2]
      rw [if_neg (Ne.symm h2)]
theorem swL_mem (l : List α) {i j : Nat} (hi : i < l.length) (hj : j < l.length) (x : α) : x ∈ swL l i j ↔ x ∈ l := by
  have key : ∀ (l : List α) (i j : Nat), i < l.length → j < l.length → x ∈ swL l i j → x ∈ l := by
    intro l i j hi hj h
    obtain ⟨k, hk, rfl⟩ := List.mem_iff_getElem.1 h
    rw [← getD_in _ hk, swL_get l hi hj]
    split
    · exact getD_mem hi
    · split
      · exact getD_mem hj
      · exact getD_mem (by rw [swL_len] at hk; exact hk)
  refine ⟨key l i j hi hj, fun h => ?_⟩
  obtain ⟨k, hk, rfl⟩ := List.mem_iff_getElem.1 h
  rw [← getD_in _ hk]
  have hm : ∀ q, q < l.length → (swL l i j).getD q default ∈ swL l i j := fun q hq => getD_mem (by rw [swL_len]; exact hq)
  by_cases h1 : k = i
  · subst h1
    have := hm j hj
    rwa [swL_get l hi hj, if_pos rfl] at this
  · by_cases h2 : k = j
    · subst h2
      have := hm i hi
      rw [swL_get l hi hj] at this
      by_cases h3 : i = k
      · exact absurd h3.symm h1
      · rwa [if_neg h3, if_pos rfl] at this
    · have := hm k hk
      rwa [swL_get l hi hj, if_neg h2, if_neg h1] at this
/-- The first i + 1 elements are in order but for the one at j, that may be less than some ahead of it. -/
def NearO (lt : α → α → Bool) (l : List α) (i j : Nat) : Prop := ∀ a b, a < b → b ≤ i → b ≠ j → lt (l.getD b default) (l.getD a default) = false
def OrdTo (lt : α → α → Bool) (l : List α) (i : Nat) : Prop := ∀ a b, a < b → b < i → lt (l.getD b default) (l.getD a default) = false
theorem OrdTo.start (l : List α) : OrdTo lt l 1 := fun a b h1 h2 => by omega
theorem OrdTo.near {l : List α} {i : Nat} (h : OrdTo lt l i) : NearO lt l i i := fun a b h1 h2 h3 => h a b h1 (by omega)
theorem NearO.zero {l : List α} {i : Nat} (h : NearO lt l i 0) : OrdTo lt l (i + 1) := fun a b h1 h2 => h a b h1 (by omega) (by omega)
theorem NearO.stop (hO : STO lt) {l : List α} {i j : Nat} (h : NearO lt l i (j + 1)) (hji : j + 1 ≤ i) (hl : lt (l.getD (j + 1) default) (l.getD j default) = false) : OrdTo lt l (i + 1) := by
  intro a b h1 h2
  by_cases hb : b = j + 1
  · subst hb
    by_cases ha : a = j
    · subst ha; exact hl
    · have h3 := h a j (by omega) (by omega) (by omega)
      cases hc : lt (l.getD (j + 1) default) (l.getD a default) with
      | false => rfl
      | true =>
        exfalso
        cases hd : lt (l.getD a default) (l.getD j default) with
        | true => rw [hO.trans hc hd] at hl; cases hl
        | false => rw [hO.tot hd h3] at hc; rw [hc] at hl; cases hl
  · exact h a b h1 (by omega) hb
theorem NearO.step (hO : STO lt) {l : List α} {i j : Nat} (h : NearO lt l i (j + 1)) (hji : j + 1 ≤ i) (hil : i < l.length) (hl : lt (l.getD (j + 1) default) (l.getD j default) = true) : NearO lt (swL l (j + 1) j) i j := by
  have hj1 : j + 1 < l.length := by omega
  have hj : j < l.length := by omega
  intro a b h1 h2 h3
  rw [swL_get l hj1 hj, swL_get l hj1 hj, if_neg h3]
  by_cases hb : b = j + 1
  · rw [if_pos hb]
    by_cases ha : a = j
    · rw [if_pos ha]; exact hO.asym hl
    · rw [if_neg ha, if_neg (by omega)]
      exact h a j (by omega) (by omega) (by omega)
  · rw [if_neg hb]
    by_cases ha : a = j
    · rw [if_pos ha]
      exact h (j + 1) b (by omega) h2 hb
    · rw [if_neg ha]
      by_cases ha2 : a = j + 1
      · rw [if_pos ha2]
        exact h j b (by omega) h2 hb
      · rw [if_neg ha2]
        exact h a b h1 h2 hb
theorem OrdTo.done {l : List α} (h : OrdTo lt l l.length) : l.Pairwise (fun a b => lt b a = false) := by
  rw [List.pairwise_iff_getElem]
  intro i j hi hj hij
  have := h i j hij hj
  rwa [getD_in l hj, getD_in l hi] at this
end
end Go.Proofs.Ytagkopemcabkpaa

/- Shapes with one cell more, all shapes of some cells: plain functions. No program is in sight. -/
namespace Go.Proofs.Ytagkopemcabkpaa
open Go.RowKit
set_option linter.unusedVariables false
/-- The neighbours of a cell, in the program's order, in the reference's. -/
def sidesV (c : C) : List C := [(c.1, c.2 - 1), (c.1 - 1, c.2), (c.1 + 1, c.2), (c.1, c.2 + 1)]
def sidesS (c : C) : List C := [(c.1 + 1, c.2), (c.1, c.2 + 1), (c.1 - 1, c.2), (c.1, c.2 - 1)]
theorem sides_same (c d : C) : d ∈ sidesV c ↔ d ∈ sidesS c := by
  simp only [sidesV, sidesS, List.mem_cons, List.not_mem_nil, or_false]
  constructor
  · rintro (h | h | h | h) <;> simp [h]
  · rintro (h | h | h | h) <;> simp [h]
/-- The list with one shape more, if there is one at place d. -/
def extStep (s : List C) (out : List (List C)) (d : C) : List (List C) := if hasC s d.1 d.2 then out else if isShape (cornI (s ++ [d])) then putG ltS out (cornI (s ++ [d])) else out
def extTo (f : C → List C) (s : List C) (k : Nat) : List (List C) := ((s.take k).flatMap f).foldl (extStep s) []
def extV (s : List C) : List (List C) := extTo sidesV s s.length
theorem extTo_succ (f : C → List C) (s : List C) (k : Nat) (hk : k < s.length) : extTo f s (k + 1) = (f s[k]).foldl (extStep s) (extTo f s k) := by
  unfold extTo
  rw [List.take_succ_eq_append_getElem hk, List.flatMap_append, List.foldl_append]
  congr 1
  simp
/-- What a list of shapes in order bears: they are shapes, in order. -/
def FineF (F : List (List C)) : Prop := IncG ltS F ∧ ∀ x ∈ F, isShape x = true
theorem FineF.nil : FineF [] := ⟨List.Pairwise.nil, by simp⟩
theorem FineF.put {F : List (List C)} (h : FineF F) {t : List C} (ht : isShape t = true) : FineF (putG ltS F t) := by
  obtain ⟨h1, h2⟩ := putG_inc ltS_sto h.1 t
  refine ⟨h1, fun x hx => ?_⟩
  rcases (h2 x).1 hx with h3 | h3
  · exact h.2 x h3
  · rw [h3]; exact ht
theorem FineF.step {F : List (List C)} (h : FineF F) (s : List C) (d : C) : FineF (extStep s F d) := by
  unfold extStep
  split
  · exact h
  · split
    · next hs => exact h.put hs
    · exact h
theorem FineF.fold {F : List (List C)} (h : FineF F) (s : List C) (l : List C) : FineF (l.foldl (extStep s) F) := by
  induction l generalizing F with
  | nil => exact h
  | cons a t ih => exact ih (h.step s a)
theorem FineF.len {F : List (List C)} (h : FineF F) : ∀ x ∈ F, x.length ≤ 8 := fun x hx => (shape_len (h.2 x hx)).2
theorem extTo_fine (f : C → List C) (s : List C) (k : Nat) : FineF (extTo f s k) := FineF.nil.fold s _
theorem extStep_len (s : List C) (F : List (List C)) (d : C) : (extStep s F d).length ≤ F.length + 1 := by
  unfold extStep
  split
  · omega
  · split
    · exact putG_len _ _
    · omega
theorem foldExt_len (s : List C) (l : List C) (F : List (List C)) : (l.foldl (extStep s) F).length ≤ F.length + l.length := by
  induction l generalizing F with
  | nil => simp
  | cons a t ih =>
    rw [List.foldl_cons]
    have := ih (extStep s F a)
    have := extStep_len s F a
    simp only [List.length_cons]
    omega
theorem extTo_len (f : C → List C) (hf : ∀ c, (f c).length = 4) (s : List C) : ∀ k, k ≤ s.length → (extTo f s k).length ≤ 4 * k
  | 0, _ => by simp [extTo]
  | k + 1, hk => by
    rw [extTo_succ f s k (by omega)]
    have := foldExt_len s (f s[k]) (extTo f s k)
    rw [hf] at this
    have := extTo_len f hf s k (by omega)
    omega
/-- What is in the list. -/
def extP (s : List C) (x : List C) (d : C) : Prop := hasC s d.1 d.2 = false ∧ isShape (cornI (s ++ [d])) = true ∧ x = cornI (s ++ [d])
theorem extStep_mem {F : List (List C)} (h : FineF F) (s : List C) (d : C) (x : List C) : x ∈ extStep s F d ↔ x ∈ F ∨ extP s x d := by
  unfold extStep extP
  cases h1 : hasC s d.1 d.2 with
  | true => simp
  | false =>
    cases h2 : isShape (cornI (s ++ [d])) with
    | true =>
      simp only [Bool.false_eq_true, if_false, if_true, true_and]
      exact (putG_inc ltS_sto h.1 _).2 x
    | false => simp
theorem foldExt_mem (s : List C) (l : List C) {F : List (List C)} (h : FineF F) (x : List C) : x ∈ l.foldl (extStep s) F ↔ x ∈ F ∨ ∃ d ∈ l, extP s x d := by
  induction l generalizing F with
  | nil => simp
  | cons a t ih =>
    rw [List.foldl_cons, ih (h.step s a), extStep_mem h]
    simp only [List.mem_cons]
    constructor
    · rintro ((h | h) | ⟨d, hd, h⟩)
      · exact .inl h
      · exact .inr ⟨a, .inl rfl, h⟩
      · exact .inr ⟨d, .inr hd, h⟩
    · rintro (h | ⟨d, rfl | hd, h⟩)
      · exact .inl (.inl h)
      · exact .inl (.inr h)
      · exact .inr ⟨d, hd, h⟩
theorem ext_same (s : List C) : extTo sidesS s s.length = extV s := by
  refine incG_eq ltS_sto _ _ (extTo_fine _ _ _).1 (extTo_fine _ _ _).1 fun x => ?_
  unfold extV extTo
  rw [foldExt_mem s _ FineF.nil, foldExt_mem s _ FineF.nil]
  simp only [List.not_mem_nil, false_or, List.mem_flatMap, List.take_length]
  constructor
  · rintro ⟨d, ⟨c, hc, hd⟩, h⟩
    exact ⟨d, ⟨c, hc, (sides_same c d).2 hd⟩, h⟩
  · rintro ⟨d, ⟨c, hc, hd⟩, h⟩
    exact ⟨d, ⟨c, hc, (sides_same c d).1 hd⟩, h⟩
/-- All shapes of k + 1 cells. -/
def growN (F : List (List C)) (k : Nat) : List (List C) := (F.take k).foldl (fun acc s => (extV s).foldl (putG ltS) acc) []
def fixV : Nat → List (List C)
  | 0 => [[(0, 0)]]
  | k + 1 => growN (fixV k) (fixV k).length
theorem growN_succ (F : List (List C)) (k : Nat) (hk : k < F.length) : growN F (k + 1) = (extV F[k]).foldl (putG ltS) (growN F k) := by
  unfold growN
  rw [List.take_succ_eq_append_getElem hk, List.foldl_append]
  rfl
theorem FineF.puts {F : List (List C)} (h : FineF F) {l : List (List C)} (hl : ∀ x ∈ l, isShape x = true) : FineF (l.foldl (putG ltS) F) := by
  induction l generalizing F with
  | nil => exact h
  | cons a t ih => exact ih (h.put (hl a (by simp))) (fun x hx => hl x (by simp [hx]))
theorem growN_fine (F : List (List C)) : ∀ k, k ≤ F.length → FineF (growN F k)
  | 0, _ => FineF.nil
  | k + 1, hk => by
    rw [growN_succ F k (by omega)]
    exact (growN_fine F k (by omega)).puts (extTo_fine _ _ _).2
theorem fixV_fine : ∀ k, FineF (fixV k)
  | 0 => ⟨List.pairwise_singleton _ _, by intro x hx; simp only [fixV, List.mem_singleton] at hx; rw [hx]; decide⟩
  | k + 1 => growN_fine _ _ (Nat.le_refl _)
theorem extV_len (s : List C) : (extV s).length ≤ 4 * s.length := extTo_len sidesV (fun _ => rfl) s s.length (Nat.le_refl _)
theorem growN_len (F : List (List C)) (hF : ∀ x ∈ F, isShape x = true) : ∀ k, k ≤ F.length → (growN F k).length ≤ 32 * k
  | 0, _ => by simp [growN]
  | k + 1, hk => by
    rw [growN_succ F k (by omega)]
    have h1 := foldlG_len (lt := ltS) (extV F[k]) (growN F k)
    have h2 := extV_len F[k]
    have h3 := (shape_len (hF _ (List.getElem_mem (by omega : k < F.length)))).2
    have := growN_len F hF k (by omega)
    omega
theorem fixV_len (k : Nat) : (fixV k).length ≤ 32 ^ k := by
  induction k with
  | zero => simp [fixV]
  | succ k ih =>
    have := growN_len (fixV k) (fixV_fine k).2 (fixV k).length (Nat.le_refl _)
    show (growN _ _).length ≤ _
    rw [Nat.pow_succ]
    omega
/-- The numbers that the walks meet: small cells. -/
theorem sidesV_small {c : C} (h : onB c = true) : ∀ d ∈ sidesV c, -1 ≤ d.1 ∧ d.1 ≤ 8 ∧ -1 ≤ d.2 ∧ d.2 ≤ 8 := by
  simp [onB] at h
  intro d hd
  simp only [sidesV, List.mem_cons, List.not_mem_nil, or_false] at hd
  rcases hd with rfl | rfl | rfl | rfl <;> (simp only; omega)
theorem app_small {s : List C} (hs : isShape s = true) {d : C} (hd : -1 ≤ d.1 ∧ d.1 ≤ 8 ∧ -1 ≤ d.2 ∧ d.2 ≤ 8) : ∀ c ∈ s ++ [d], small c := by
  intro c hc
  rcases List.mem_append.1 hc with h | h
  · exact shape_small hs c h
  · simp only [List.mem_singleton] at h
    subst h
    unfold small
    omega
end Go.Proofs.Ytagkopemcabkpaa

/- Shapes counted by growth: plain functions, the numbers up to six cells. No program is in sight. -/
namespace Go.Proofs.Ytagkopemcabkpaa
open Go.RowKit
set_option linter.unusedVariables false
def okY (y : C) : Bool := decide (y.2 > 0) || (y.2 == 0 && decide (y.1 ≥ 0))
def stepM (mk : List C × List C) (y : C) : List C × List C := if okY y && !hasC mk.2 y.1 y.2 then (mk.1 ++ [y], mk.2 ++ [y]) else mk
def more4 (x : C) (more known : List C) (j : Nat) : List C × List C := ((sidesS x).take j).foldl stepM (more, known)
def growC : Nat → List C → List C → Nat
  | 0, u, _ => u.length
  | l + 1, u, s => ((List.range u.length).map fun k => 1 + growC l (more4 (u.getD k default) (u.take k) s 4).1 (more4 (u.getD k default) (u.take k) s 4).2).sum
def termC : Nat → List C → List C → Nat → Nat
  | 0, _, _, _ => 1
  | l + 1, u, s, k => 1 + growC l (more4 (u.getD k default) (u.take k) s 4).1 (more4 (u.getD k default) (u.take k) s 4).2
def growK (l : Nat) (u s : List C) (k : Nat) : Nat := ((List.range k).map (termC l u s)).sum
theorem growK_succ (l : Nat) (u s : List C) (k : Nat) : growK l u s (k + 1) = growK l u s k + termC l u s k := by
  unfold growK
  rw [List.range_succ, List.map_append, List.sum_append]
  simp
theorem growK_all (l : Nat) (u s : List C) : growK l u s u.length = growC l u s := by
  cases l with
  | zero =>
    have h : ∀ n, ((List.range n).map (termC 0 u s)).sum = n := by
      intro n
      induction n with
      | zero => rfl
      | succ n ih =>
        rw [List.range_succ, List.map_append, List.sum_append, ih]
        rfl
    exact h u.length
  | succ l => rfl
theorem more4_succ (x : C) (a b : List C) (j : Nat) (h : j < 4) : more4 x a b (j + 1) = stepM (more4 x a b j) ((sidesS x).getD j default) := by
  unfold more4
  have hl : j < (sidesS x).length := h
  rw [List.take_succ_eq_append_getElem hl, List.foldl_append, getD_in _ hl]
  rfl
theorem stepM_len (mk : List C × List C) (y : C) : (stepM mk y).1.length ≤ mk.1.length + 1 ∧ (stepM mk y).2.length ≤ mk.2.length + 1 := by
  unfold stepM
  split <;> simp
theorem more4_len (x : C) (a b : List C) : ∀ j, j ≤ 4 → (more4 x a b j).1.length ≤ a.length + j ∧ (more4 x a b j).2.length ≤ b.length + j
  | 0, _ => by simp [more4]
  | j + 1, h => by
    rw [more4_succ x a b j (by omega)]
    have h1 := more4_len x a b j (by omega)
    have h2 := stepM_len (more4 x a b j) ((sidesS x).getD j default)
    omega
def near0 (r : Int) (c : C) : Prop := -r ≤ c.1 ∧ c.1 ≤ r ∧ -r ≤ c.2 ∧ c.2 ≤ r
theorem sidesS_near {r : Int} {x : C} (h : near0 r x) : ∀ y ∈ sidesS x, near0 (r + 1) y := by
  intro y hy
  unfold near0 at h ⊢
  simp only [sidesS, List.mem_cons, List.not_mem_nil, or_false] at hy
  rcases hy with rfl | rfl | rfl | rfl <;> (simp only; omega)
theorem more4_near {r : Int} {x : C} {a b : List C} (hx : near0 r x) (ha : ∀ c ∈ a, near0 (r + 1) c) (hb : ∀ c ∈ b, near0 (r + 1) c) : ∀ j, j ≤ 4 → (∀ c ∈ (more4 x a b j).1, near0 (r + 1) c) ∧ (∀ c ∈ (more4 x a b j).2, near0 (r + 1) c)
  | 0, _ => ⟨ha, hb⟩
  | j + 1, h => by
    rw [more4_succ x a b j (by omega)]
    obtain ⟨h1, h2⟩ := more4_near hx ha hb j (by omega)
    have hy : near0 (r + 1) ((sidesS x).getD j default) := sidesS_near hx _ (getD_mem (show j < (sidesS x).length by show j < 4; omega))
    unfold stepM
    split
    · refine ⟨fun c hc => ?_, fun c hc => ?_⟩
      · rcases List.mem_append.1 hc with h3 | h3
        · exact h1 c h3
        · simp only [List.mem_singleton] at h3; rw [h3]; exact hy
      · rcases List.mem_append.1 hc with h3 | h3
        · exact h2 c h3
        · simp only [List.mem_singleton] at h3; rw [h3]; exact hy
    · exact ⟨h1, h2⟩
theorem sum_le (f : Nat → Nat) (B : Nat) : ∀ n, (∀ k, k < n → f k ≤ B) → ((List.range n).map f).sum ≤ n * B
  | 0, _ => by simp
  | n + 1, h => by
    rw [List.range_succ, List.map_append, List.sum_append]
    have := sum_le f B n (fun k hk => h k (by omega))
    have := h n (by omega)
    simp only [List.map_cons, List.map_nil, List.sum_cons, List.sum_nil, Nat.add_zero, Nat.add_mul, Nat.one_mul]
    omega
theorem growC_le : ∀ (l : Nat) (u s : List C), u.length + 4 * l ≤ 24 → growC l u s ≤ 25 ^ (l + 1)
  | 0, u, s, h => by simp [growC]; omega
  | l + 1, u, s, h => by
    unfold growC
    have hb : ∀ k, k < u.length → 1 + growC l (more4 (u.getD k default) (u.take k) s 4).1 (more4 (u.getD k default) (u.take k) s 4).2 ≤ 1 + 25 ^ (l + 1) := by
      intro k hk
      have h1 := (more4_len (u.getD k default) (u.take k) s 4 (Nat.le_refl _)).1
      rw [List.length_take] at h1
      have := growC_le l (more4 (u.getD k default) (u.take k) s 4).1 (more4 (u.getD k default) (u.take k) s 4).2 (by omega)
      omega
    have h2 := sum_le _ _ u.length hb
    have h3 : u.length ≤ 24 := by omega
    have h4 : u.length * (1 + 25 ^ (l + 1)) ≤ 24 * (1 + 25 ^ (l + 1)) := Nat.mul_le_mul_right _ h3
    have h5 : 25 ≤ 25 ^ (l + 1) := by have := Nat.pow_le_pow_right (show 0 < 25 by omega) (show 1 ≤ l + 1 by omega); simpa using this
    have h6 : 25 ^ (l + 1 + 1) = 25 * 25 ^ (l + 1) := by rw [Nat.pow_succ]; omega
    omega
/-- The reference's number. -/
def cntS (n : Nat) : Int := if n = 1 then (growC 0 [(0, 0)] [(0, 0)] : Nat) else (growC (n - 1) [(0, 0)] [(0, 0)] : Nat) - (growC (n - 2) [(0, 0)] [(0, 0)] : Nat)
/-- A list taken apart and put together again, so that the kernel has it at hand. -/
def frcI {β : Type} (x : Int) (k : Int → β) : β := match x with
  | .ofNat 0 => k 0
  | .ofNat (m + 1) => k (.ofNat (m + 1))
  | .negSucc 0 => k (.negSucc 0)
  | .negSucc (m + 1) => k (.negSucc (m + 1))
def frcS {β : Type} (s : List C) (k : List C → β) : β := match s with
  | [] => k []
  | a :: t => frcI a.1 fun x => frcI a.2 fun y => frcS t fun t' => k ((x, y) :: t')
def frcL {α β : Type} (l : List α) (k : List α → β) : β := match l with
  | [] => k []
  | a :: t => frcL t fun t' => k (a :: t')
theorem frcI_eq {β : Type} (x : Int) (k : Int → β) : frcI x k = k x := by unfold frcI; split <;> rfl
theorem frcS_eq {β : Type} : ∀ (s : List C) (k : List C → β), frcS s k = k s
  | [], k => rfl
  | a :: t, k => by unfold frcS; rw [frcI_eq, frcI_eq, frcS_eq t]
theorem frcL_eq {α β : Type} : ∀ (s : List α) (k : List α → β), frcL s k = k s
  | [], k => rfl
  | a :: t, k => by unfold frcL; rw [frcL_eq t]
/-- Put in its place, from the front. -/
def insL {α : Type} [DecidableEq α] (lt : α → α → Bool) : List α → α → List α
  | [], n => [n]
  | a :: t, n => if lt n a then n :: a :: t else if a = n then a :: t else a :: insL lt t n
theorem insL_inc {α : Type} [DecidableEq α] [Inhabited α] {lt : α → α → Bool} (hO : STO lt) (n : α) : ∀ {l : List α}, IncG lt l → IncG lt (insL lt l n) ∧ ∀ x, x ∈ insL lt l n ↔ x ∈ l ∨ x = n
  | [], _ => ⟨List.pairwise_singleton _ _, fun x => by simp [insL]⟩
  | a :: t, h => by
    obtain ⟨h1, h2⟩ := List.pairwise_cons.1 h
    unfold insL
    cases hna : lt n a with
    | true =>
      simp only [if_true]
      refine ⟨List.pairwise_cons.2 ⟨fun x hx => ?_, h⟩, fun x => by simp only [List.mem_cons]; exact ⟨fun hh => hh.elim .inr .inl, fun hh => hh.elim .inr .inl⟩⟩
      rcases List.mem_cons.1 hx with hx | hx
      · rw [hx]; exact hna
      · exact hO.trans hna (h1 x hx)
    | false =>
      simp only [Bool.false_eq_true, if_false]
      by_cases han : a = n
      · rw [if_pos han]
        exact ⟨h, fun x => ⟨.inl, fun hh => by rcases hh with hh | hh; exact hh; rw [hh, ← han]; exact List.mem_cons_self⟩⟩
      · rw [if_neg han]
        obtain ⟨i1, i2⟩ := insL_inc hO n h2
        have hlt : lt a n = true := by
          cases hc : lt a n with
          | true => rfl
          | false => exact absurd (hO.tot hc hna) han
        refine ⟨List.pairwise_cons.2 ⟨fun x hx => ?_, i1⟩, fun x => ?_⟩
        · rcases (i2 x).1 hx with hx | hx
          · exact h1 x hx
          · rw [hx]; exact hlt
        · simp only [List.mem_cons, i2 x]
          constructor
          · rintro (h | h | h)
            · exact .inl (.inl h)
            · exact .inl (.inr h)
            · exact .inr h
          · rintro ((h | h) | h)
            · exact .inl h
            · exact .inr (.inl h)
            · exact .inr (.inr h)
theorem insL_eq {l : List (List C)} (h : FineF l) (n : List C) : insL ltS l n = putG ltS l n := by
  obtain ⟨a1, a2⟩ := insL_inc ltS_sto n h.1
  obtain ⟨b1, b2⟩ := putG_inc ltS_sto h.1 n
  exact incG_eq ltS_sto _ _ a1 b1 fun x => by rw [a2, b2]
def extL (s : List C) : List (List C) → List C → List (List C)
  | acc, [] => acc
  | acc, d :: t => if hasC s d.1 d.2 then extL s acc t else frcS (cornI (s ++ [d])) fun c => if isShape c then frcL (insL ltS acc c) fun acc' => extL s acc' t else extL s acc t
theorem extL_eq (s : List C) : ∀ (l : List C) {acc : List (List C)}, FineF acc → extL s acc l = l.foldl (extStep s) acc
  | [], acc, _ => rfl
  | d :: t, acc, h => by
    rw [List.foldl_cons]
    unfold extL
    cases h1 : hasC s d.1 d.2 with
    | true =>
      have he : extStep s acc d = acc := by unfold extStep; rw [h1]; rfl
      rw [he, if_pos rfl]
      exact extL_eq s t h
    | false =>
      rw [if_neg (by simp), frcS_eq]
      cases h2 : isShape (cornI (s ++ [d])) with
      | true =>
        have he : extStep s acc d = putG ltS acc (cornI (s ++ [d])) := by unfold extStep; rw [h1, h2]; rfl
        rw [he, if_pos rfl, frcL_eq, insL_eq h]
        exact extL_eq s t (h.put h2)
      | false =>
        have he : extStep s acc d = acc := by unfold extStep; rw [h1, h2]; rfl
        rw [he, if_neg (by simp)]
        exact extL_eq s t h
def putsF : List (List C) → List (List C) → List (List C)
  | [], acc => acc
  | a :: t, acc => frcL (insL ltS acc a) fun acc' => putsF t acc'
theorem putsF_eq : ∀ (l acc : List (List C)), FineF acc → (∀ x ∈ l, isShape x = true) → putsF l acc = l.foldl (putG ltS) acc
  | [], acc, _, _ => rfl
  | a :: t, acc, h, hl => by
    unfold putsF
    rw [frcL_eq, insL_eq h, putsF_eq t _ (h.put (hl a (by simp))) (fun x hx => hl x (by simp [hx]))]
    rfl
def growF : List (List C) → List (List C) → List (List C)
  | [], acc => acc
  | s :: t, acc => frcL (putsF (extL s [] (s.flatMap sidesV)) acc) fun acc' => growF t acc'
theorem extL_V (s : List C) : extL s [] (s.flatMap sidesV) = extV s := by
  rw [extL_eq s _ FineF.nil]
  unfold extV extTo
  rw [List.take_length]
theorem growF_eq : ∀ (F acc : List (List C)), FineF acc → growF F acc = F.foldl (fun acc s => (extV s).foldl (putG ltS) acc) acc
  | [], acc, _ => rfl
  | s :: t, acc, h => by
    unfold growF
    have hx : ∀ x ∈ extV s, isShape x = true := (extTo_fine sidesV s s.length).2
    rw [frcL_eq, extL_V, putsF_eq _ _ h hx, growF_eq t _ (h.puts hx)]
    rfl
def fixF : Nat → List (List C)
  | 0 => [[(0, 0)]]
  | k + 1 => frcL (fixF k) fun F => growF F []
theorem fixF_eq : ∀ k, fixF k = fixV k
  | 0 => rfl
  | k + 1 => by
    unfold fixF fixV
    rw [frcL_eq, fixF_eq k, growF_eq _ _ FineF.nil, growN, List.take_length]
end Go.Proofs.Ytagkopemcabkpaa

/-
  DERIVED: THE SHELF's CONTRACTS AT THIS DUMP, IN PLAIN WORDS (tools/lay-plain.mjs out of 'TryShelf.lean', which tools/lay-shelf.mjs wrote): THE SAME DECLARATIONS UNDER THE SAME NAMES: 'import', 'namespace', 'open', 'def', 'theorem' AND NOTHING ELSE: no command of the shelf's: FOR A HAND-IN. Each laying: the table of numbers ('.._ren') and one theorem, a field a fact of the dump's own or the kernel's comparison; each contract: ONE APPLICATION.
-/
namespace Go.Proofs
open Go.Shelf
def Try.lays191_ren : Go.Shelf.Ren := ⟨fun | 191 => 83 | 189 => 99 | 125 => 93 | 257 => 128 | 128 => 110 | 129 => 111 | 294 => 135 | 295 => 136 | 296 => 137 | 297 => 138 | 298 => 139 | 299 => 140 | 216 => 141 | 300 => 142 | 301 => 143 | 328 => 145 | 329 => 146 | 330 => 147 | 331 => 148 | 332 => 149 | 215 => 150 | 343 => 151 | n => n, fun | 28 => 24 | 0 => 0 | 3 => 3 | 46 => 73 | 51 => 105 | 53 => 107 | 4 => 4 | 183 => 129 | 182 => 128 | 131 => 114 | 5 => 5 | 9 => 9 | 218 => 137 | 222 => 124 | 228 => 140 | 229 => 135 | n => n, fun | n => n⟩
theorem Try.lays191 : Go.Proofs.Lays.n191 Try.prog Try.lays191_ren := {
  mixed := by kernel_rfl
  f125 := Try.func93.trans (congrArg some (by kernel_rfl))
  f128 := Try.func110.trans (congrArg some (by kernel_rfl))
  f129 := Try.func111.trans (congrArg some (by kernel_rfl))
  f189 := Try.func99.trans (congrArg some (by kernel_rfl))
  f191 := Try.func83.trans (congrArg some (by kernel_rfl))
  f215 := Try.func150.trans (congrArg some (by kernel_rfl))
  f216 := Try.func141.trans (congrArg some (by kernel_rfl))
  f257 := Try.func128.trans (congrArg some (by kernel_rfl))
  f294 := Try.func135.trans (congrArg some (by kernel_rfl))
  f295 := Try.func136.trans (congrArg some (by kernel_rfl))
  f296 := Try.func137.trans (congrArg some (by kernel_rfl))
  f297 := Try.func138.trans (congrArg some (by kernel_rfl))
  f298 := Try.func139.trans (congrArg some (by kernel_rfl))
  f299 := Try.func140.trans (congrArg some (by kernel_rfl))
  f300 := Try.func142.trans (congrArg some (by kernel_rfl))
  f301 := Try.func143.trans (congrArg some (by kernel_rfl))
  f328 := Try.func145.trans (congrArg some (by kernel_rfl))
  f329 := Try.func146.trans (congrArg some (by kernel_rfl))
  f330 := Try.func147.trans (congrArg some (by kernel_rfl))
  f331 := Try.func148.trans (congrArg some (by kernel_rfl))
  f332 := Try.func149.trans (congrArg some (by kernel_rfl))
  f343 := Try.func151.trans (congrArg some (by kernel_rfl))
  t0 := Try.underlying0
  a0 := Try.isAgg0
  z0 := Try.sizeOf0
  v0 := Try.zeroValue0
  t3 := Try.underlying3
  a3 := Try.isAgg3
  z3 := Try.sizeOf3
  v3 := Try.zeroValue3
  t4 := Try.underlying4
  a4 := Try.isAgg4
  z4 := Try.sizeOf4
  v4 := Try.zeroValue4
  t5 := Try.underlying5
  a5 := Try.isAgg5
  z5 := Try.sizeOf5
  v5 := Try.zeroValue5
  t9 := Try.underlying9
  a9 := Try.isAgg9
  z9 := Try.sizeOf9
  v9 := Try.zeroValue9
  t28 := Try.underlying24
  a28 := Try.isAgg24
  z28 := Try.sizeOf24
  v28 := Try.zeroValue24
  t46 := Try.underlying73
  a46 := Try.isAgg73
  z46 := Try.sizeOf73
  v46 := Try.zeroValue73
  t51 := Try.underlying105
  a51 := Try.isAgg105
  z51 := Try.sizeOf105
  v51 := Try.zeroValue105
  t53 := Try.underlying107
  a53 := Try.isAgg107
  z53 := Try.sizeOf107
  v53 := Try.zeroValue107
  t131 := Try.underlying114
  a131 := Try.isAgg114
  z131 := Try.sizeOf114
  v131 := Try.zeroValue114
  t182 := Try.underlying128
  a182 := Try.isAgg128
  z182 := Try.sizeOf128
  v182 := Try.zeroValue128
  t183 := Try.underlying129
  a183 := Try.isAgg129
  z183 := Try.sizeOf129
  v183 := Try.zeroValue129
  t218 := Try.underlying137
  a218 := Try.isAgg137
  z218 := Try.sizeOf137
  v218 := Try.zeroValue137
  t222 := Try.underlying124
  a222 := Try.isAgg124
  z222 := Try.sizeOf124
  v222 := Try.zeroValue124
  t228 := Try.underlying140
  a228 := Try.isAgg140
  z228 := Try.sizeOf140
  v228 := Try.zeroValue140
  t229 := Try.underlying135
  a229 := Try.isAgg135
  z229 := Try.sizeOf135
  v229 := Try.zeroValue135 }
open Go.Sort Go.RowKit in
theorem Try.sort_Ints (blk off cap : Nat) (zs : List Int) (w : World) (hH : Holds (Value.int .i64) w blk off zs.toArray) (hblk : blk < w.heap.size) (hsz : zs.length < 4611686018427387904) :
    Calls Try.prog 83 #[.slice (some ⟨blk, off, none⟩) zs.length cap] w fun e w' =>
      e = .returned (.tuple #[]) ∧ ∃ n os, w' = grow (putRow (Value.int .i64) (Sort.ahead w n) blk off (zs.mergeSort fun x y => decide (x ≤ y)).toArray) os := Any.sort_Ints Try.lays191 blk off cap zs w hH hblk hsz
def Try.laysGg6_ren : Go.Shelf.Ren := ⟨fun | 6 => 68 | 10 => 90 | 11 => 91 | 12 => 92 | 13 => 93 | 14 => 94 | 24 => 110 | 25 => 111 | 26 => 112 | 27 => 113 | 28 => 114 | 29 => 115 | 30 => 116 | 31 => 117 | 32 => 118 | 33 => 119 | 34 => 129 | 35 => 130 | 36 => 131 | 37 => 132 | 38 => 133 | 39 => 144 | n => n, fun | 20 => 20 | 26 => 67 | 35 => 88 | 0 => 0 | 37 => 90 | 3 => 3 | 41 => 73 | 44 => 96 | 49 => 105 | 51 => 107 | 4 => 4 | 54 => 110 | 53 => 109 | 58 => 114 | 5 => 5 | 9 => 9 | 60 => 120 | 64 => 124 | 66 => 134 | 67 => 135 | 17 => 17 | 32 => 85 | 33 => 86 | 82 => 155 | 12 => 12 | 75 => 148 | 76 => 149 | 77 => 150 | 78 => 151 | 79 => 152 | 80 => 153 | n => n, fun | n => n⟩
theorem Try.laysGg6 : Go.Proofs.LaysGg.n6 Try.prog Try.laysGg6_ren := {
  mixed := by kernel_rfl
  f6 := Try.func68.trans (congrArg some (by kernel_rfl))
  f10 := Try.func90.trans (congrArg some (by kernel_rfl))
  f11 := Try.func91.trans (congrArg some (by kernel_rfl))
  f12 := Try.func92.trans (congrArg some (by kernel_rfl))
  f13 := Try.func93.trans (congrArg some (by kernel_rfl))
  f14 := Try.func94.trans (congrArg some (by kernel_rfl))
  f24 := Try.func110.trans (congrArg some (by kernel_rfl))
  f25 := Try.func111.trans (congrArg some (by kernel_rfl))
  f26 := Try.func112.trans (congrArg some (by kernel_rfl))
  f27 := Try.func113.trans (congrArg some (by kernel_rfl))
  f28 := Try.func114.trans (congrArg some (by kernel_rfl))
  f29 := Try.func115.trans (congrArg some (by kernel_rfl))
  f30 := Try.func116.trans (congrArg some (by kernel_rfl))
  f31 := Try.func117.trans (congrArg some (by kernel_rfl))
  f32 := Try.func118.trans (congrArg some (by kernel_rfl))
  f33 := Try.func119.trans (congrArg some (by kernel_rfl))
  f34 := Try.func129.trans (congrArg some (by kernel_rfl))
  f35 := Try.func130.trans (congrArg some (by kernel_rfl))
  f36 := Try.func131.trans (congrArg some (by kernel_rfl))
  f37 := Try.func132.trans (congrArg some (by kernel_rfl))
  f38 := Try.func133.trans (congrArg some (by kernel_rfl))
  f39 := Try.func144.trans (congrArg some (by kernel_rfl))
  t0 := Try.underlying0
  a0 := Try.isAgg0
  z0 := Try.sizeOf0
  v0 := Try.zeroValue0
  i0 := by kernel_rfl
  t3 := Try.underlying3
  a3 := Try.isAgg3
  z3 := Try.sizeOf3
  v3 := Try.zeroValue3
  i3 := by kernel_rfl
  t4 := Try.underlying4
  a4 := Try.isAgg4
  z4 := Try.sizeOf4
  v4 := Try.zeroValue4
  i4 := by kernel_rfl
  t5 := Try.underlying5
  a5 := Try.isAgg5
  z5 := Try.sizeOf5
  v5 := Try.zeroValue5
  i5 := by kernel_rfl
  t9 := Try.underlying9
  a9 := Try.isAgg9
  z9 := Try.sizeOf9
  v9 := Try.zeroValue9
  i9 := by kernel_rfl
  t12 := Try.underlying12
  a12 := Try.isAgg12
  z12 := Try.sizeOf12
  v12 := Try.zeroValue12
  i12 := by kernel_rfl
  t17 := Try.underlying17
  a17 := Try.isAgg17
  z17 := Try.sizeOf17
  v17 := Try.zeroValue17
  i17 := by kernel_rfl
  t20 := Try.underlying20
  a20 := Try.isAgg20
  z20 := Try.sizeOf20
  v20 := Try.zeroValue20
  i20 := by kernel_rfl
  t26 := Try.underlying67
  a26 := Try.isAgg67
  z26 := Try.sizeOf67
  v26 := Try.zeroValue67
  i26 := by kernel_rfl
  t32 := Try.underlying85
  a32 := Try.isAgg85
  z32 := Try.sizeOf85
  v32 := Try.zeroValue85
  i32 := by kernel_rfl
  t33 := Try.underlying86
  a33 := Try.isAgg86
  z33 := Try.sizeOf86
  v33 := Try.zeroValue86
  i33 := by kernel_rfl
  t35 := Try.underlying88
  a35 := Try.isAgg88
  z35 := Try.sizeOf88
  v35 := Try.zeroValue88
  i35 := by kernel_rfl
  t37 := Try.underlying90
  a37 := Try.isAgg90
  z37 := Try.sizeOf90
  v37 := Try.zeroValue90
  i37 := by kernel_rfl
  t41 := Try.underlying73
  a41 := Try.isAgg73
  z41 := Try.sizeOf73
  v41 := Try.zeroValue73
  i41 := by kernel_rfl
  t44 := Try.underlying96
  a44 := Try.isAgg96
  z44 := Try.sizeOf96
  v44 := Try.zeroValue96
  i44 := by kernel_rfl
  t49 := Try.underlying105
  a49 := Try.isAgg105
  z49 := Try.sizeOf105
  v49 := Try.zeroValue105
  i49 := by kernel_rfl
  t51 := Try.underlying107
  a51 := Try.isAgg107
  z51 := Try.sizeOf107
  v51 := Try.zeroValue107
  i51 := by kernel_rfl
  t53 := Try.underlying109
  a53 := Try.isAgg109
  z53 := Try.sizeOf109
  v53 := Try.zeroValue109
  i53 := by kernel_rfl
  t54 := Try.underlying110
  a54 := Try.isAgg110
  z54 := Try.sizeOf110
  v54 := Try.zeroValue110
  i54 := by kernel_rfl
  t58 := Try.underlying114
  a58 := Try.isAgg114
  z58 := Try.sizeOf114
  v58 := Try.zeroValue114
  i58 := by kernel_rfl
  t60 := Try.underlying120
  a60 := Try.isAgg120
  z60 := Try.sizeOf120
  v60 := Try.zeroValue120
  i60 := by kernel_rfl
  t64 := Try.underlying124
  a64 := Try.isAgg124
  z64 := Try.sizeOf124
  v64 := Try.zeroValue124
  i64 := by kernel_rfl
  t66 := Try.underlying134
  a66 := Try.isAgg134
  z66 := Try.sizeOf134
  v66 := Try.zeroValue134
  i66 := by kernel_rfl
  t67 := Try.underlying135
  a67 := Try.isAgg135
  z67 := Try.sizeOf135
  v67 := Try.zeroValue135
  i67 := by kernel_rfl
  t75 := Try.underlying148
  a75 := Try.isAgg148
  z75 := Try.sizeOf148
  v75 := Try.zeroValue148
  i75 := by kernel_rfl
  t76 := Try.underlying149
  a76 := Try.isAgg149
  z76 := Try.sizeOf149
  v76 := Try.zeroValue149
  i76 := by kernel_rfl
  t77 := Try.underlying150
  a77 := Try.isAgg150
  z77 := Try.sizeOf150
  v77 := Try.zeroValue150
  i77 := by kernel_rfl
  t78 := Try.underlying151
  a78 := Try.isAgg151
  z78 := Try.sizeOf151
  v78 := Try.zeroValue151
  i78 := by kernel_rfl
  t79 := Try.underlying152
  a79 := Try.isAgg152
  z79 := Try.sizeOf152
  v79 := Try.zeroValue152
  i79 := by kernel_rfl
  t80 := Try.underlying153
  a80 := Try.isAgg153
  z80 := Try.sizeOf153
  v80 := Try.zeroValue153
  i80 := by kernel_rfl
  t82 := Try.underlying155
  a82 := Try.isAgg155
  z82 := Try.sizeOf155
  v82 := Try.zeroValue155
  i82 := by kernel_rfl }
open Go.RowKit Go.Sort in
theorem Try.sort_Ints_none (p : Option Addr) (cap : Nat) (w : World) :
    Calls Try.prog 83 #[.slice p 0 cap] w fun e w' => e = .returned (.tuple #[]) ∧ w' = w := Any.sort_Ints_none Try.lays191 p cap w
end Go.Proofs

/- Cells put in order: the library's sort at twelve cells or fewer, with the program's own test. -/
namespace Go.Proofs.Ytagkopemcabkpaa
open Go.RowKit Go.Shelf
set_option linter.unusedVariables false
attribute [local go_sem ↓] Go.wp_at_zero Go.wp_at_succ

theorem sto_default (l : List C) {i : Nat} (h : i < l.length) : l.getD i default = l[i] := getD_in l h
set_option maxHeartbeats 800000 in
/-- The test: does cell i come before cell j? -/
theorem lessCells (Bs base g n c : Nat) (l : List C) (i j : Nat) (w : World) (ho : w.ownsRow base 55 2 (.slice (some ⟨g, 0, none⟩) n c) n (vC l)) (hB : w.cell? ⟨Bs, 0, none⟩ = some (.slice (some ⟨g, 0, none⟩) n c)) (hi : i < n) (hj : j < n) (b : Bool)
    (hb : b = befC (l.getD i default) (l.getD j default)) : Calls Try.prog 69 #[.int .i64 (i : Int), .int .i64 (j : Int), .pointer (some ⟨Bs, 0, none⟩)] w (Ret w (.bool b)) := by
  have hl : l.length = n := by have := own_len ho; rw [vC_length] at this; omega
  have hg := (own_lt ho g rfl).2
  obtain ⟨g1, o1, e1, _, a1, a2⟩ := RdC.at_ (Rd.of_own ho) (show i < l.length by omega)
  obtain ⟨g2, o2, e2, _, b1, b2⟩ := RdC.at_ (Rd.of_own ho) (show j < l.length by omega)
  simp only [Option.some.injEq, Addr.mk.injEq, and_true] at e1 e2
  obtain ⟨rfl, rfl⟩ := e1
  obtain ⟨h1, rfl⟩ := e2
  rw [Nat.zero_add] at a1 a2 b1 b2
  rw [← h1] at b1 b2
  rw [sto_default l (by omega), sto_default l (by omega)] at hb
  obtain ⟨x, hx⟩ : ∃ x, l[i].1 = x := ⟨_, rfl⟩
  obtain ⟨y, hy⟩ : ∃ y, l[i].2 = y := ⟨_, rfl⟩
  obtain ⟨p, hp⟩ : ∃ p, l[j].1 = p := ⟨_, rfl⟩
  obtain ⟨q, hq⟩ : ∃ q, l[j].2 = q := ⟨_, rfl⟩
  rw [show l[i] = (x, y) from Prod.ext hx hy, show l[j] = (p, q) from Prod.ext hp hq] at hb
  rw [hx] at a1
  rw [hy] at a2
  rw [hp] at b1
  rw [hq] at b2
  have HV := Lib.hid hb.symm
  have hBl := World.block_lt_of_cell? w _ hB
  have hi0 : (0 : Int) ≤ (i : Int) := by omega
  have hi1 : (i : Int) < (n : Int) := by omega
  have hj0 : (0 : Int) ≤ (j : Int) := by omega
  have hj1 : (j : Int) < (n : Int) := by omega
  clear ho hx hy hp hq hb h1 hl
  go_enter Try.func69, Try.ntmps69
  go_wp2_with fail
  (refine wp_region_below (by kernel_rfl) (by kernel_rfl) ?_; (repeat (first | go_big_quiet_skip | (refine quietV (v := ?_) (by rfl) rfl (fun w' hbw => ?_) ?_; rotate_left; ((try dsimp only at hbw); have hbc := (bcell hbw).1; have hbf := (bcell hbw).2; go_simp; first | done | with_reducible rfl | exact callsBB (before_i x y p q _) HV.out hbw); simp only [List.setIfInBounds_toArray, List.set_cons_zero, List.set_cons_succ]))); refine wpQuiet_nil ?_; intro wq hbq)
  go_wp2_with fail
  go_ret
  exact ⟨rfl, hbq⟩
theorem own_put {w : World} {base g n c : Nat} {l : List C} (ho : w.ownsRow base 55 2 (.slice (some ⟨g, 0, none⟩) n c) n (vC l)) (k : Nat) (v : C) :
    (w.setCells g (0 + k * 2) [.int .i64 v.1, .int .i64 v.2]).ownsRow base 55 2 (.slice (some ⟨g, 0, none⟩) n c) n (vC (l.set k v)) := by
  have h := ((ho.stored (k * 2) (.int .i64 v.1)).1.stored (k * 2 + 1) (.int .i64 v.2)).1
  rw [vC_set_list] at h
  rw [Nat.zero_add]
  exact h
theorem grown_alloc1 {w w' : World} {o : Obj} {row : Option Nat} (h : (w.alloc o).grownBy w' row) : w.grownBy w' row :=
  ⟨h.os, h.tape, h.output, by have := h.size; simp at this; omega, fun k hk hne => (h.block k (by simp; omega) hne).trans (Below.heap_alloc w o k hk)⟩
theorem grown_of_alloc (w : World) (o : Obj) (r : Option Nat) : w.grownBy (w.alloc o) r := ⟨rfl, rfl, rfl, by simp, fun k hk _ => Below.heap_alloc w o k hk⟩
theorem grown_cells {a w : World} {g o : Nat} (h : a.grownBy w (some g)) (x y : Value) : a.grownBy (w.setCells g o [x, y]) (some g) := grown_set (grown_set h rfl x) rfl y
theorem infoCI : ∃ ie, Try.prog.info? 55 = some ie ∧ ie.size = 2 := by
  obtain ⟨i0, hi, _, hz1, _⟩ := info_parts infoC
  exact ⟨i0, hi, hz1⟩
theorem swapCells (sf : Nat) (gS : Bool) (hx : ∀ args W, (callFunc sf args).run Try.prog W = ((Extern.ReflectliteSwapper.swap gS args).run Try.prog W).andThen fun v w' => .ok (.value v) w') (hagg : ∀ w, (isAgg 55).run Try.prog w = .ok true w)
    (base g n c : Nat) (l : List C) (i j : Nat) (w : World) (ho : w.ownsRow base 55 2 (.slice (some ⟨g, 0, none⟩) n c) n (vC l)) (hi : i < n) (hj : j < n) :
    ∃ w', (callFunc sf #[.int .i64 (i : Int), .int .i64 (j : Int), .slice (some ⟨g, 0, none⟩) n c, typeHandle Try.prog 55]).run Try.prog w = .ok (.value (.tuple #[])) w' ∧
      w'.ownsRow base 55 2 (.slice (some ⟨g, 0, none⟩) n c) n (vC (swL l i j)) ∧ ∀ a, World.grownBy a w (some g) → World.grownBy a w' (some g) := by
  have hl : l.length = n := by have := own_len ho; rw [vC_length] at this; omega
  obtain ⟨ie, hie, hsz⟩ := infoCI
  have hcell : ∀ k (hk : k < n), ∀ u v, ([.int .i64 (l.getD k default).1, .int .i64 (l.getD k default).2] : List Value)[u]? = some v → w.cell? ⟨g, 0 + k * 2 + u, none⟩ = some v := by
    intro k hk u v h
    obtain ⟨g1, o1, e1, _, a1, a2⟩ := RdC.at_ (Rd.of_own ho) (show k < l.length by omega)
    simp only [Option.some.injEq, Addr.mk.injEq, and_true] at e1
    obtain ⟨rfl, rfl⟩ := e1
    rw [sto_default l (by omega)] at h
    match u, h with
    | 0, h => simp at h; rw [← h]; exact a1
    | 1, h => simp at h; rw [← h]; exact a2
    | u + 2, h => simp at h
  have hfro : ∀ o, w.frozen? ⟨g, o, none⟩ = false := fun o => ho.frozenAt o
  have hr := Lib.run_swap_cells (P := Try.prog) gS 55 ie hie hagg g 0 n c i j hi hj [.int .i64 (l.getD i default).1, .int .i64 (l.getD i default).2] [.int .i64 (l.getD j default).1, .int .i64 (l.getD j default).2]
    (by rw [hsz]; rfl) (by rw [hsz]; rfl) (by simp [Value.oneCell']) (by simp [Value.oneCell']) w (by rw [hsz]; exact hcell i hi) (by rw [hsz]; exact hcell j hj) (fun k _ => hfro _) (fun k _ => hfro _)
  rw [hsz] at hr
  refine ⟨_, ?_, own_put (own_put ho i (l.getD j default)) j (l.getD i default), fun a h => grown_cells (grown_cells h _ _) _ _⟩
  rw [hx, hr]
  rfl
/-- The row in order. -/
def SrtP (w : World) (base g n c : Nat) (l : List C) (e : Ending) (w' : World) : Prop :=
  e = .returned (.tuple #[]) ∧ ∃ l', l'.length = n ∧ (∀ x, x ∈ l' ↔ x ∈ l) ∧ l'.Pairwise (fun a b => befC b a = false) ∧ w'.ownsRow base 55 2 (.slice (some ⟨g, 0, none⟩) n c) n (vC l') ∧ w.grownBy w' (some g)
/-- What is asked of the exchange. -/
def Swaps (sf : Nat) (th : Value) (base g n c : Nat) : Prop := ∀ (w : World) (l : List C) (i j : Nat), w.ownsRow base 55 2 (.slice (some ⟨g, 0, none⟩) n c) n (vC l) → i < n → j < n →
  ∃ w', (callFunc sf #[.int .i64 (i : Int), .int .i64 (j : Int), .slice (some ⟨g, 0, none⟩) n c, th]).run Try.prog w = .ok (.value (.tuple #[])) w' ∧
      w'.ownsRow base 55 2 (.slice (some ⟨g, 0, none⟩) n c) n (vC (swL l i j)) ∧ ∀ a, World.grownBy a w (some g) → World.grownBy a w' (some g)
set_option maxHeartbeats 3200000 in
theorem insSort (sf : Nat) (th : Value) (Bs base g n c : Nat) (hsw : Swaps sf th base g n c) (l0 : List C) (w : World) (ho : w.ownsRow base 55 2 (.slice (some ⟨g, 0, none⟩) n c) n (vC l0)) (hB : w.cell? ⟨Bs, 0, none⟩ = some (.slice (some ⟨g, 0, none⟩) n c)) (hBg : Bs ≠ g) (hn : 1 ≤ n) (hn12 : n ≤ 12) :
    Calls Try.prog 112 #[.agg #[.func (.func 69) #[] #[.pointer (some ⟨Bs, 0, none⟩)], .func (.func sf) #[] #[.slice (some ⟨g, 0, none⟩) n c, th]], .int .i64 0, .int .i64 (n : Int)] w (SrtP w base g n c l0) := by
  have hl0 : l0.length = n := by have := own_len ho; rw [vC_length] at this; omega
  have hgl := (own_lt ho g rfl).2
  have HL := Lib.hid hl0
  have HO := Lib.hid ho
  have HBC := Lib.hid hB
  have HSW := Lib.hid hsw
  have HBB := Lib.hid (Blk.new w 96 #[.func (.func 69) #[] #[.pointer (some ⟨Bs, 0, none⟩)], .func (.func sf) #[] #[.slice (some ⟨g, 0, none⟩) n c, th]])
  clear hsw ho hB hl0
  go_enter Try.func112, Try.ntmps112
  go_wp2
  go_loopw [6] (fun e6 wr => ∃ (i : Nat) (l : List C), 1 ≤ i ∧ i ≤ n ∧ e6 = .int .i64 i ∧ l.length = n ∧ (∀ x, x ∈ l ↔ x ∈ l0) ∧ OrdTo befC l i ∧ wr.ownsRow base 55 2 (.slice (some ⟨g, 0, none⟩) n c) n (vC l) ∧ (w.alloc (.cells #[.func (.func 69) #[] #[.pointer (some ⟨Bs, 0, none⟩)], .func (.func sf) #[] #[.slice (some ⟨g, 0, none⟩) n c, th]] 96)).grownBy wr (some g)) (fun e6 _ => n - (intOf e6).toNat)
  case atStart => exact ⟨1, l0, by omega, by omega, by simp, HL.out, fun x => Iff.rfl, OrdTo.start l0, HO.out.alloc _, World.grownBy.refl _ _⟩
  case round =>
    obtain ⟨i, l, hi1, hin, rfl, hll, hmem, hord, hown, hg⟩ := hrel
    have HLL := Lib.hid hll
    have HM := Lib.hid hmem
    have HOR := Lib.hid hord
    have HOW := Lib.hid hown
    have HG := Lib.hid hg
    clear hll hmem hord hown hg
    by_cases hlt : i < n
    · have hiI : (i : Int) < (n : Int) := by omega
      go_wp2
      go_loopw [7] (fun e7 wr => ∃ (j : Nat) (l : List C), j ≤ i ∧ e7 = .int .i64 j ∧ l.length = n ∧ (∀ x, x ∈ l ↔ x ∈ l0) ∧ NearO befC l i j ∧ wr.ownsRow base 55 2 (.slice (some ⟨g, 0, none⟩) n c) n (vC l) ∧ (w.alloc (.cells #[.func (.func 69) #[] #[.pointer (some ⟨Bs, 0, none⟩)], .func (.func sf) #[] #[.slice (some ⟨g, 0, none⟩) n c, th]] 96)).grownBy wr (some g)) (fun e7 _ => (intOf e7).toNat)
      case atStart => exact ⟨i, l, Nat.le_refl _, rfl, HLL.out, HM.out, HOR.out.near, HOW.out, HG.out⟩
      case round =>
        clear HLL HM HOR HOW HG
        obtain ⟨j, l, hji, rfl, hll, hmem, hnear, hown, hg⟩ := hrel
        have HLL := Lib.hid hll
        have HM := Lib.hid hmem
        have HN := Lib.hid hnear
        have HOW := Lib.hid hown
        have HG := Lib.hid hg
        clear hll hmem hnear hown hg
        by_cases hj0 : 0 < j
        · obtain ⟨p, hp⟩ : ∃ p, j = p + 1 := ⟨j - 1, by omega⟩
          have hjI : (j : Int) > 0 := by omega
          have hpI : (j : Int) - 1 = (p : Int) := by omega
          have hpw : IntKind.i64.wrap (p : Int) = (p : Int) := Go.IntWalk.i64_in _ (by omega)
          have HP := Lib.hid hp
          have hBB := HBB.out.grown HG.out (fun e => by injection e with e; omega)
          have b0 : wr.cell? ⟨w.heap.size, 0, none⟩ = some (.func (.func 69) #[] #[.pointer (some ⟨Bs, 0, none⟩)]) := by simpa using hBB.cell 0
          have b1 : wr.cell? ⟨w.heap.size, 1, none⟩ = some (.func (.func sf) #[] #[.slice (some ⟨g, 0, none⟩) n c, th]) := by simpa using hBB.cell 1
          have bl := hBB.lt
          have HBC2 := Lib.hid (keep_grown HG.out (keep_alloc HBC.out) (by simpa using hBg))
          have HBW := Lib.hid hBB
          have hjn : j < n := by omega
          have hpn : p < n := by omega
          clear hBB hp
          cases hbf : befC (l.getD j default) (l.getD p default) with
          | true =>
            have HBF := Lib.hid hbf
            clear hbf
            go_wp2_with fail
            refine (lessCells Bs base g n c l j p _ HOW.out HBC2.out hjn hpn true HBF.out.symm).mono ?_
            rintro e w1 ⟨rfl, hb1⟩
            have hBB1 := HBW.out.below hb1
            have c1 : w1.cell? ⟨w.heap.size, 1, none⟩ = some (.func (.func sf) #[] #[.slice (some ⟨g, 0, none⟩) n c, th]) := by simpa using hBB1.cell 1
            have cl := hBB1.lt
            obtain ⟨w2, hrun, ho2, hg2⟩ := HSW.out w1 l j p (own_keep HOW.out hb1) hjn hpn
            have HO2 := Lib.hid ho2
            have HG2 := Lib.hid (hg2 _ (grown_below HG.out hb1))
            have HN2 : Hid (NearO befC (swL l j p) i p) := by
              have h1 := HN.out
              rw [HP.out] at h1 ⊢
              exact h1.step befC_sto (by omega) (by rw [HLL.out]; exact hlt) (by rw [← HP.out]; exact HBF.out)
            clear hBB1 ho2 hg2 b0 b1 bl
            go_wp2_with fail
            exact ⟨⟨p, swL l j p, by omega, rfl, by rw [swL_len]; exact HLL.out, fun x => (swL_mem l (by rw [HLL.out]; exact hjn) (by rw [HLL.out]; exact hpn) x).trans (HM.out x), HN2.out, HO2.out, HG2.out⟩, by simp [intOf]; omega⟩
          | false =>
            have HBF := Lib.hid hbf
            clear hbf
            go_wp2_with fail
            refine (lessCells Bs base g n c l j p _ HOW.out HBC2.out hjn hpn false HBF.out.symm).mono ?_
            rintro e w1 ⟨rfl, hb1⟩
            have HO2 : Hid (OrdTo befC l (i + 1)) := by
              have h1 := HN.out
              rw [HP.out] at h1
              exact h1.stop befC_sto (by have := HP.out; omega) (by rw [← HP.out]; exact HBF.out)
            go_wp2_with fail
            exact ⟨⟨i + 1, l, by omega, by omega, by go_num, HLL.out, HM.out, HO2.out, own_keep HOW.out hb1, grown_below HG.out hb1⟩, by simp [intOf]; omega⟩
        · obtain rfl : j = 0 := by omega
          have HO2 := Lib.hid (HN.out.zero)
          clear hj0
          go_wp2_with fail
          exact ⟨⟨i + 1, l, by omega, by omega, by go_num, HLL.out, HM.out, HO2.out, HOW.out, HG.out⟩, by simp [intOf]; omega⟩
    · obtain rfl : i = n := by omega
      have hiI : ¬ (i : Int) < (i : Int) := by omega
      go_wp2
      go_end0
      exact ⟨rfl, l, HLL.out, HM.out, OrdTo.done (by rw [HLL.out]; exact HOR.out), HOW.out, grown_alloc1 HG.out⟩
/-- One cell or none: nothing is asked. -/
theorem insSort1 (S : Value) (F : Value) (base g n c : Nat) (l0 : List C) (w : World) (ho : w.ownsRow base 55 2 (.slice (some ⟨g, 0, none⟩) n c) n (vC l0)) (hn : n ≤ 1) :
    Calls Try.prog 112 #[.agg #[F, S], .int .i64 0, .int .i64 (n : Int)] w (SrtP w base g n c l0) := by
  have hl0 : l0.length = n := by have := own_len ho; rw [vC_length] at this; omega
  have HL := Lib.hid hl0
  have HO := Lib.hid ho
  have hnI : ¬ (1 : Int) < (n : Int) := by omega
  clear ho hl0
  go_enter Try.func112, Try.ntmps112
  go_wp2
  go_loopw [6] (fun e6 wr => e6 = .int .i64 1 ∧ wr = w.alloc (.cells #[F, S] 96)) (fun e6 _ => 0)
  case atStart => exact ⟨by simp, rfl⟩
  case round =>
    obtain ⟨rfl, rfl⟩ := hrel
    go_wp2
    go_end0
    refine ⟨rfl, l0, HL.out, fun x => Iff.rfl, ?_, HO.out.alloc _, grown_of_alloc _ _ _⟩
    rcases (by omega : n = 0 ∨ n = 1) with rfl | rfl
    · rw [List.eq_nil_of_length_eq_zero HL.out]; exact List.Pairwise.nil
    · obtain ⟨a, ha⟩ := List.length_eq_one_iff.1 HL.out
      rw [ha]; exact List.pairwise_singleton _ _
theorem pdqSmall (D : Value) (F S : Value) (hD : D = .agg #[F, S]) (base g n c : Nat) (lim : Int) (l0 : List C) (w : World) (hn12 : n ≤ 12)
    (hi : ∀ w', Below w.heap.size w w' → Calls Try.prog 112 #[.agg #[F, S], .int .i64 0, .int .i64 (n : Int)] w' (SrtP w' base g n c l0)) :
    Calls Try.prog 94 #[D, .int .i64 0, .int .i64 (n : Int), .int .i64 lim] w (SrtP w base g n c l0) := by
  subst hD
  have HI := Lib.hid hi
  have hnI : (n : Int) ≤ 12 := by omega
  clear hi
  go_enter Try.func94, Try.ntmps94
  go_wp2
  refine wp_loop_rounds 1 ?_
  rw [rounds_succ]
  go_wp2_with fail
  refine (HI.out _ (by (repeat (first | with_reducible exact Below.refl _ _ | with_reducible assumption | with_reducible apply bel_alloc | with_reducible apply bel_drew | with_reducible apply bel_drewN | ((with_reducible refine bel_set ?_ ?_); rotate_left; (simp <;> omega)) | (with_reducible refine bel_trans ?_ (by with_reducible assumption)))))).mono ?_
  rintro e w1 ⟨rfl, l', h1, h2, h3, h4, h5⟩
  have HR : Hid (SrtP w base g n c l0 (.returned (.tuple #[])) w1) := ⟨rfl, l', h1, h2, h3, h4, grown_alloc1 h5⟩
  clear h1 h2 h3 h4 h5
  go_wp2_with fail
  (try simp only [Exit.inBlock, Exit.then])
  refine bodyPost_ret (results_none rfl _ _ _) rfl ?_
  exact HR.out
noncomputable def tiS : TypeInfo := (Try.prog.info? 30).get (by kernel_rfl)
noncomputable def tiC : TypeInfo := (Try.prog.info? 55).get (by kernel_rfl)
theorem swapK2 (n : Nat) (h2 : 2 ≤ n) : Lib.swapperK n tiC 25 = 9 := by
  have a : tiC.hasPointers = false := by kernel_rfl
  have b : tiC.bytes = 16 := by kernel_rfl
  have c : (n == 0) = false := by simp; omega
  have d : (n == 1) = false := by simp; omega
  simp [Lib.swapperK, a, b, c, d]
set_option maxRecDepth 100000 in
/-- The library's sort of a slice of one to twelve cells, with the program's test. -/
theorem sortCells (Bs base g n c : Nat) (l0 : List C) (w : World) (ho : w.ownsRow base 55 2 (.slice (some ⟨g, 0, none⟩) n c) n (vC l0)) (hB : w.cell? ⟨Bs, 0, none⟩ = some (.slice (some ⟨g, 0, none⟩) n c)) (hBg : Bs ≠ g) (hn : 1 ≤ n) (hn12 : n ≤ 12) :
    Calls Try.prog 68 #[.iface 30 (.slice (some ⟨g, 0, none⟩) n c), .func (.func 69) #[] #[.pointer (some ⟨Bs, 0, none⟩)]] w (SrtP w base g n c l0) := by
  have hagg : ∀ w, (isAgg 55).run Try.prog w = .ok true w := fun _ => by kernel_rfl
  have fin : ∀ (W : World), W = sliceWorld Try.prog Try.laysGg6_ren 30 (some ⟨g, 0, none⟩) n c w → W.ownsRow base 55 2 (.slice (some ⟨g, 0, none⟩) n c) n (vC l0) ∧ W.cell? ⟨Bs, 0, none⟩ = some (.slice (some ⟨g, 0, none⟩) n c) ∧
      ∀ w', W.grownBy w' (some g) → w.grownBy w' (some g) := by
    intro W hW
    subst hW
    unfold sliceWorld
    exact ⟨(ho.alloc _).alloc _, keep_alloc (keep_alloc hB), fun w' h => grown_alloc1 (grown_alloc1 h)⟩
  obtain ⟨h1, h2, h3⟩ := fin _ rfl
  have hpost : ∀ e w', SrtP (sliceWorld Try.prog Try.laysGg6_ren 30 (some ⟨g, 0, none⟩) n c w) base g n c l0 e w' → e = .returned (.tuple #[]) ∧ (∃ l', l'.length = n ∧ (∀ x, x ∈ l' ↔ x ∈ l0) ∧ l'.Pairwise (fun a b => befC b a = false) ∧ w'.ownsRow base 55 2 (.slice (some ⟨g, 0, none⟩) n c) n (vC l') ∧ w.grownBy w' (some g)) :=
    fun e w' ⟨he, l', a1, a2, a3, a4, a5⟩ => ⟨he, l', a1, a2, a3, a4, h3 _ a5⟩
  by_cases hn2 : 2 ≤ n
  · refine (Any.sort_Slice_of_pdq Try.laysGg6 30 55 tiS tiC (by kernel_rfl) (by kernel_rfl) (by kernel_rfl) (by kernel_rfl) 25 (fun _ => by kernel_rfl) (some ⟨g, 0, none⟩) n c (by omega) 109 (by rw [swapK2 n hn2]; kernel_rfl) (.func 69) #[] #[.pointer (some ⟨Bs, 0, none⟩)] w
      (fun w' => ∃ l', l'.length = n ∧ (∀ x, x ∈ l' ↔ x ∈ l0) ∧ l'.Pairwise (fun a b => befC b a = false) ∧ w'.ownsRow base 55 2 (.slice (some ⟨g, 0, none⟩) n c) n (vC l') ∧ w.grownBy w' (some g)) ?_).mono (fun e w' h => ⟨h.1, h.2⟩)
    have hbd : sliceBound Try.prog 55 tiC 25 (some ⟨g, 0, none⟩) n c = #[.slice (some ⟨g, 0, none⟩) n c, typeHandle Try.prog 55] := by
      unfold sliceBound
      rw [swapK2 n hn2]
      rfl
    rw [hbd]
    have hx : ∀ args W, (callFunc 109 args).run Try.prog W = ((Extern.ReflectliteSwapper.swap false args).run Try.prog W).andThen fun v w' => .ok (.value v) w' := fun args W => run_callFunc_extern Try.func109 (by kernel_rfl) (by kernel_rfl) (by kernel_rfl) (e := Extern.ReflectliteSwapper.swap false) (by kernel_rfl) args W
    refine (pdqSmall _ _ _ rfl base g n c _ l0 _ hn12 fun w' hb => ?_).mono hpost
    exact insSort _ _ Bs base g n c (fun w l i j a b c => swapCells _ false hx hagg base g n _ l i j w a b c) l0 w' (own_keep h1 hb) ((hb.cell (World.block_lt_of_cell? _ _ h2)).trans h2) hBg hn hn12
  · have hn1 : n = 1 := by omega
    subst hn1
    refine (Any.sort_Slice_of_pdq Try.laysGg6 30 55 tiS tiC (by kernel_rfl) (by kernel_rfl) (by kernel_rfl) (by kernel_rfl) 25 (fun _ => by kernel_rfl) (some ⟨g, 0, none⟩) 1 c (by omega) 102 (by kernel_rfl) (.func 69) #[] #[.pointer (some ⟨Bs, 0, none⟩)] w
      (fun w' => ∃ l', l'.length = 1 ∧ (∀ x, x ∈ l' ↔ x ∈ l0) ∧ l'.Pairwise (fun a b => befC b a = false) ∧ w'.ownsRow base 55 2 (.slice (some ⟨g, 0, none⟩) 1 c) 1 (vC l') ∧ w.grownBy w' (some g)) ?_).mono (fun e w' h => ⟨h.1, h.2⟩)
    refine (pdqSmall _ _ _ rfl base g 1 c _ l0 _ (by omega) fun w' hb => ?_).mono hpost
    exact insSort1 _ _ base g 1 c l0 w' (own_keep h1 hb) (Nat.le_refl _)
end Go.Proofs.Ytagkopemcabkpaa

/- Cells put in order, each once: the program, at one to twelve cells. -/
namespace Go.Proofs.Ytagkopemcabkpaa
open Go.RowKit
set_option linter.unusedVariables false
attribute [local go_sem ↓] Go.wp_at_zero Go.wp_at_succ

theorem keepG_C (l : List C) (k : Nat) : keepG l k = (k == 0 || !decide (l.getD (k - 1) default = l.getD k default)) := by
  unfold keepG
  generalize l.getD (k - 1) default = a
  generalize l.getD k default = b
  congr 1
theorem ded_fin {l xs : List C} (hp : l.Pairwise (fun a b => befC b a = false)) (hm : ∀ x, x ∈ l ↔ x ∈ xs) : dedG l l.length = sortC xs := dedG_eq befC_sto hp hm
set_option maxRecDepth 100000 in
set_option maxHeartbeats 3200000 in
theorem SortCells_i (A : Option Addr) (n c : Nat) (xs : List C) (w : World) (hr : Rd w A (vC xs)) (hl : xs.length = n) (hn : 1 ≤ n) (hn12 : n ≤ 12) :
    Calls Try.prog 31 #[.slice A n c] w (RetS w 55 2 (vC (sortC xs))) := by
  have HL := Lib.hid hl
  have HR := Lib.hid hr
  clear hl hr
  go_enter Try.func31, Try.ntmps31
  go_wp2_with (at_builtin; go_must (refine app_C _ rfl _ _ rfl w.heap.size none 0 0 [] rfl (own_nil _ _ _ _) _ _ _ xs rfl HR.out HL.out (by omega) (by omega) ?_); intro D c2 w1 ho1 hg1 hat1; simp only [Nat.zero_add, List.nil_append] at ho1; obtain ⟨g, hD, hbg, hgl⟩ := own_at ho1 (by omega); subst hD; have HO1 := Lib.hid ho1; have HB1 := Lib.hid (bel_app (Below.refl w.heap.size w) hg1 (fun g h => by cases h)); have HBX := Lib.hid (Blk.new w1 30 #[.slice (some ⟨g, 0, none⟩) n c2]); clear ho1 hg1 hat1)
  have hwl := HB1.out.size
  refine (sortCells w1.heap.size w.heap.size g n c2 xs _ (HO1.out.alloc _) (HBX.out.cell 0) (by omega) hn hn12).mono ?_
  rintro e w2 ⟨rfl, l, hll, hlm, hlp, ho2, hg2⟩
  have hb2 : Below w.heap.size w w2 := bel_app (A := some ⟨g, 0, none⟩) (bel_alloc HB1.out _) hg2 (fun k e => by simp only [ob, Option.map_some, Option.some.injEq] at e; omega)
  have HV : Hid (dedG l n = sortC xs) := by have := ded_fin hlp hlm; rwa [hll] at this
  have hBX := HBX.out.grown hg2 (fun e => by injection e with e; omega)
  have b0 : w2.cell? ⟨w1.heap.size, 0, none⟩ = some (.slice (some ⟨g, 0, none⟩) n c2) := by simpa using hBX.cell 0
  have bl := hBX.lt
  have HBY := Lib.hid hBX
  have HLL := Lib.hid hll
  have HRL := Lib.hid (Rd.of_own ho2)
  have hg3 := (own_lt ho2 g rfl).2
  have hsz2 := hb2.size
  clear hll hlm hlp ho2 hg2 hBX
  go_wp2_with fail
  go_loopw [15, 4] (fun e15 e4 wr => ∃ (k q cq : Nat) (D : Option Addr), k ≤ n ∧ q ≤ k ∧ e15 = .int .i64 k ∧ e4 = .slice D q cq ∧ wr.ownsRow w2.heap.size 55 2 (.slice D q cq) q (vC (dedG l k)) ∧ Below w2.heap.size w2 wr) (fun e15 _ _ => n - (intOf e15).toNat)
  case atStart => exact ⟨0, 0, 0, none, by omega, by omega, rfl, rfl, own_nil _ _ _ _, Below.refl _ _⟩
  case round =>
    obtain ⟨k, q, cq, D, hk, hq, rfl, rfl, hown, hb⟩ := hrel
    by_cases hlt : k < n
    · have hkl : k < l.length := by rw [HLL.out]; exact hlt
      have hrw := HRL.out.below hb
      obtain ⟨g', off, he, _, a1, a2⟩ := RdC.at_ hrw hkl
      simp only [Option.some.injEq, Addr.mk.injEq, and_true] at he
      obtain ⟨rfl, rfl⟩ := he
      rw [Nat.zero_add] at a1 a2
      have hgd : l.getD k default = l[k] := getD_in l hkl
      have hst : dedG l (k + 1) = dedG l k ++ (if keepG l k then [l.getD k default] else []) := rfl
      obtain ⟨x, hx⟩ : ∃ x, l[k].1 = x := ⟨_, rfl⟩
      obtain ⟨y, hy⟩ : ∃ y, l[k].2 = y := ⟨_, rfl⟩
      have hxy : l[k] = (x, y) := Prod.ext hx hy
      rw [hx] at a1
      rw [hy] at a2
      rw [hxy] at hgd
      rw [hgd] at hst
      have HO := Lib.hid hown
      have hbs := hb.size
      have KEEP : Hid (keepG l k = true → dedG l (k + 1) = dedG l k ++ [(x, y)]) := fun h => by rw [hst, h]; rfl
      have SKIP : Hid (keepG l k = false → dedG l (k + 1) = dedG l k) := fun h => by rw [hst, h]; simp
      have hka : keepG l k = (k == 0 || !decide (l.getD (k - 1) default = (x, y))) := by rw [keepG_C, hgd]
      have HKA := Lib.hid hka
      have hglw : g < wr.heap.size := Nat.lt_of_lt_of_le hg3 hb.size
      have hB := HBY.out.below hb
      have d0 : wr.cell? ⟨w1.heap.size, 0, none⟩ = some (.slice (some ⟨g, 0, none⟩) n c2) := by simpa using hB.cell 0
      have dl := hB.lt
      have hk1 : (0 : Int) ≤ (k : Int) := by omega
      have hk2 : (k : Int) < (n : Int) := by omega
      clear hx hy hxy hst hgd hka hown hB b0 bl
      by_cases hk0 : k = 0
      · have e0 : ((k : Int) == 0) = true := by simp [hk0]
        have HN := Lib.hid (KEEP.out (by rw [HKA.out, hk0]; rfl))
        clear KEEP SKIP HKA hk0
        go_wp2_with fail
        (refine wp_region_below (by kernel_rfl) (by kernel_rfl) ?_; (repeat (first | go_big_quiet_skip | (refine quietV (v := ?_) (by rfl) rfl (fun w' hbw => ?_) ?_; rotate_left; ((try dsimp only at hbw); have hbc := (bcell hbw).1; have hbf := (bcell hbw).2; go_simp; first | done | with_reducible rfl | fail); simp only [List.setIfInBounds_toArray, List.set_cons_zero, List.set_cons_succ]))); refine wpQuiet_nil ?_; intro wq hbq)
        have hbz := hbq.size
        simp only [World.size_alloc] at hbz
        have hCB := (Blk.new wr 55 #[.int .i64 x, .int .i64 y]).below hbq
        have z0 : wq.cell? ⟨wr.heap.size, 0, none⟩ = some (.int .i64 x) := by simpa using hCB.cell 0
        have z1 : wq.cell? ⟨wr.heap.size, 1, none⟩ = some (.int .i64 y) := by simpa using hCB.cell 1
        have zl := hCB.lt
        clear hCB
        go_wp2_with (at_builtin; go_must (refine app_C _ rfl _ _ rfl w2.heap.size _ _ _ _ rfl (own_keep (own_keep (HO.out.alloc _) hbq) (bel_alloc (Below.refl _ _) _)) _ _ _ [(x, y)] rfl (rd_newC _ _ _ _) rfl (by omega) (by simp; omega) ?_); intro D2 cp2 w8 ho8 hg8 hat8; have HO8 := Lib.hid ho8; have HG8 := Lib.hid hg8; clear ho8 hg8 hat8)
        exact ⟨⟨k + 1, q + 1, cp2, D2, by omega, by omega, by go_num, rfl, by rw [HN.out]; exact HO8.out, bel_app (bel_alloc (bel_trans (bel_alloc hb _) hbq) _) HG8.out (fun g' hg1 => ((own_lt HO.out) g' hg1).1)⟩, by simp [intOf]; omega⟩
      · obtain ⟨j, hjk⟩ : ∃ j, k = j + 1 := ⟨k - 1, by omega⟩
        have hjl : j < l.length := by omega
        obtain ⟨g', off', he, _, c1, c3⟩ := RdC.at_ hrw hjl
        simp only [Option.some.injEq, Addr.mk.injEq, and_true] at he
        obtain ⟨rfl, rfl⟩ := he
        rw [Nat.zero_add] at c1 c3
        obtain ⟨p, hp⟩ : ∃ p, l[j].1 = p := ⟨_, rfl⟩
        obtain ⟨r, hr⟩ : ∃ r, l[j].2 = r := ⟨_, rfl⟩
        have hgj : l.getD (k - 1) default = (p, r) := by rw [hjk, Nat.add_sub_cancel, getD_in l hjl]; exact Prod.ext hp hr
        rw [hp] at c1
        rw [hr] at c3
        have e0 : ((k : Int) == 0) = false := by simp; omega
        have hj1 : (k : Int) - 1 = (j : Int) := by omega
        have hj0 : (0 : Int) ≤ (j : Int) := by omega
        have hjw : IntKind.i64.wrap (j : Int) = (j : Int) := Go.IntWalk.i64_in _ (by omega)
        have hjm : (j : Int) < (n : Int) := by omega
        have hkk : (k == 0) = false := by simpa using hk0
        have hkz : ¬ k = 0 := hk0
        have HKK := Lib.hid hkk
        have HGJ := Lib.hid hgj
        clear hp hr hgj hjk hkk hk0
        by_cases hsame : p = x ∧ r = y
        · obtain ⟨rfl, rfl⟩ := hsame
          have HN := Lib.hid (SKIP.out (by rw [HKA.out, HKK.out, HGJ.out]; simp))
          have hne : (p == p && r == r) = true := by simp
          clear KEEP SKIP HKA
          go_wp2_with fail
          (refine wp_region_below (by kernel_rfl) (by kernel_rfl) ?_; (repeat (first | go_big_quiet_skip | (refine quietV (v := ?_) (by rfl) rfl (fun w' hbw => ?_) ?_; rotate_left; ((try dsimp only at hbw); have hbc := (bcell hbw).1; have hbf := (bcell hbw).2; go_simp; first | done | with_reducible rfl | fail); simp only [List.setIfInBounds_toArray, List.set_cons_zero, List.set_cons_succ]))); refine wpQuiet_nil ?_; intro wq hbq)
          go_wp2_with fail
          exact ⟨⟨k + 1, q, cq, D, by omega, by omega, by go_num, rfl, by rw [HN.out]; exact own_keep (HO.out.alloc _) hbq, bel_trans (bel_alloc hb _) hbq⟩, by simp [intOf]; omega⟩
        · have hne : (p == x && r == y) = false := by
            rw [Bool.and_eq_false_iff, beq_eq_false_iff_ne, beq_eq_false_iff_ne]
            by_cases h1 : p = x
            · exact .inr fun h2 => hsame ⟨h1, h2⟩
            · exact .inl h1
          have HN := Lib.hid (KEEP.out (by
            rw [HKA.out, HKK.out, HGJ.out, Bool.false_or, decide_eq_false (fun e => hsame (by injection e with e1 e2; exact ⟨e1, e2⟩))]
            rfl))
          clear KEEP SKIP HKA hsame
          go_wp2_with fail
          (refine wp_region_below (by kernel_rfl) (by kernel_rfl) ?_; (repeat (first | go_big_quiet_skip | (refine quietV (v := ?_) (by rfl) rfl (fun w' hbw => ?_) ?_; rotate_left; ((try dsimp only at hbw); have hbc := (bcell hbw).1; have hbf := (bcell hbw).2; go_simp; first | done | with_reducible rfl | fail); simp only [List.setIfInBounds_toArray, List.set_cons_zero, List.set_cons_succ]))); refine wpQuiet_nil ?_; intro wq hbq)
          have hbz := hbq.size
          simp only [World.size_alloc] at hbz
          have hCB := (Blk.new wr 55 #[.int .i64 x, .int .i64 y]).below hbq
          have z0 : wq.cell? ⟨wr.heap.size, 0, none⟩ = some (.int .i64 x) := by simpa using hCB.cell 0
          have z1 : wq.cell? ⟨wr.heap.size, 1, none⟩ = some (.int .i64 y) := by simpa using hCB.cell 1
          have zl := hCB.lt
          clear hCB
          go_wp2_with (at_builtin; go_must (refine app_C _ rfl _ _ rfl w2.heap.size _ _ _ _ rfl (own_keep (own_keep (HO.out.alloc _) hbq) (bel_alloc (Below.refl _ _) _)) _ _ _ [(x, y)] rfl (rd_newC _ _ _ _) rfl (by omega) (by simp; omega) ?_); intro D2 cp2 w8 ho8 hg8 hat8; have HO8 := Lib.hid ho8; have HG8 := Lib.hid hg8; clear ho8 hg8 hat8)
          exact ⟨⟨k + 1, q + 1, cp2, D2, by omega, by omega, by go_num, rfl, by rw [HN.out]; exact HO8.out, bel_app (bel_alloc (bel_trans (bel_alloc hb _) hbq) _) HG8.out (fun g' hg1 => ((own_lt HO.out) g' hg1).1)⟩, by simp [intOf]; omega⟩
    · obtain rfl : k = n := by omega
      rw [HV.out] at hown
      have HO := Lib.hid (own_base hown hsz2)
      have hk1 : ¬ (k : Int) < (k : Int) := by omega
      clear hown
      go_wp2
      go_ret
      exact ⟨_, _, _, rfl, HO.out, bel_trans hb2 hb⟩
end Go.Proofs.Ytagkopemcabkpaa

/- Cells moved, moved to their corner, the neighbours of a cell: the program. -/
namespace Go.Proofs.Ytagkopemcabkpaa
open Go.RowKit
set_option linter.unusedVariables false
attribute [local go_sem ↓] Go.wp_at_zero Go.wp_at_succ

theorem copyCells_i2 (A : Option Addr) (n c : Nat) (xs : List C) (w : World) (hr : Rd w A (vC xs)) (hl : xs.length = n) (hn : n ≤ 1048576) :
    Calls Try.prog 122 #[.slice A n c] w (RetS w 55 2 (vC xs)) := by
  have HL := Lib.hid hl
  clear hl
  go_enter Try.func122, Try.ntmps122
  go_wp2_with (at_builtin; go_must (refine app_C _ rfl _ _ rfl w.heap.size none 0 0 [] rfl (own_nil _ _ _ _) _ _ _ xs rfl hr HL.out (by omega) (by omega) ?_); intro A' c' w' hown' hg' hat'; simp only [Nat.zero_add, List.nil_append] at hown'; have HO := Lib.hid hown'; have HB := Lib.hid (bel_app (Below.refl w.heap.size w) hg' (fun g h => by cases h)); clear hown' hg' hat')
  go_ret
  exact ⟨_, _, _, rfl, HO.out, HB.out⟩
set_option maxHeartbeats 800000 in
theorem moved_i (A : Option Addr) (n c : Nat) (xs : List C) (x y : Int) (w : World) (hr : Rd w A (vC xs)) (hl : xs.length = n) (hn : n ≤ 1048576) (hs : ∀ d ∈ xs, small d) (hx : -1000 ≤ x ∧ x ≤ 1000) (hy : -1000 ≤ y ∧ y ≤ 1000) :
    Calls Try.prog 134 #[.slice A n c, .int .i64 x, .int .i64 y] w (RetS w 55 2 (vC (mv xs x y))) := by
  have HL := Lib.hid hl
  have HS := Lib.hid hs
  obtain ⟨hx1, hx2⟩ := hx
  obtain ⟨hy1, hy2⟩ := hy
  clear hl hs
  go_enter Try.func134, Try.ntmps134
  go_wp2
  go_loopw [12, 7] (fun e12 e7 wr => ∃ (k cq : Nat) (D : Option Addr), k ≤ n ∧ e12 = .int .i64 k ∧ e7 = .slice D k cq ∧ wr.ownsRow w.heap.size 55 2 (.slice D k cq) k (vC (mv (xs.take k) x y)) ∧ Below w.heap.size w wr) (fun e12 _ _ => n - (intOf e12).toNat)
  case atStart => exact ⟨0, 0, none, Nat.zero_le _, rfl, rfl, own_nil _ _ _ _, Below.refl _ _⟩
  case round =>
    obtain ⟨k, cq, D, hk, rfl, rfl, hown, hb⟩ := hrel
    by_cases hlt : k < n
    · have hkl : k < xs.length := by rw [HL.out]; exact hlt
      have hk0 : (0 : Int) ≤ (k : Int) := by omega
      have hk1 : (k : Int) < (n : Int) := by omega
      obtain ⟨g, off, rfl, hg, d1, d2⟩ := RdC.at_ (hr.below hb) hkl
      have hst := mv_take xs x y k hkl
      have hsm := HS.out _ (List.getElem_mem hkl)
      obtain ⟨p, hp⟩ : ∃ p, xs[k].1 = p := ⟨_, rfl⟩
      obtain ⟨q, hq⟩ : ∃ q, xs[k].2 = q := ⟨_, rfl⟩
      unfold small at hsm
      rw [hp, hq] at hsm hst
      rw [hp] at d1
      rw [hq] at d2
      have e1 : IntKind.i64.wrap (p + x) = p + x := Go.IntWalk.i64_in _ (by omega)
      have e2 : IntKind.i64.wrap (q + y) = q + y := Go.IntWalk.i64_in _ (by omega)
      have HST := Lib.hid hst
      have HO := Lib.hid hown
      have hbs := hb.size
      have HRN : Hid (Rd ((wr.alloc (.cells #[.int .i64 p, .int .i64 q] 55)).alloc (.cells #[.int .i64 (p + x), .int .i64 (q + y)] 55)) (some ⟨wr.heap.size + 1, 0, none⟩) (vC [(p + x, q + y)])) := by
        have := rd_newC (wr.alloc (.cells #[.int .i64 p, .int .i64 q] 55)) 55 (p + x) (q + y)
        rw [show (wr.alloc (.cells #[.int .i64 p, .int .i64 q] 55)).heap.size = wr.heap.size + 1 from by simp] at this
        exact this
      clear hst hown hp hq hsm
      go_wp2_with (at_builtin; go_must (refine app_C _ rfl _ _ rfl w.heap.size _ _ _ _ rfl ((HO.out.alloc _).alloc _) _ _ _ [(p + x, q + y)] rfl HRN.out rfl (by omega) (by simp; omega) ?_); intro D2 cp2 w8 ho8 hg8 hat8; have HO8 := Lib.hid ho8; have HG8 := Lib.hid hg8; clear ho8 hg8 hat8)
      exact ⟨⟨k + 1, cp2, D2, by omega, by go_num, rfl, by rw [HST.out]; exact HO8.out, bel_app (bel_alloc (bel_alloc hb _) _) HG8.out (fun g' hg1 => ((own_lt HO.out) g' hg1).1)⟩, by simp [intOf]; omega⟩
    · obtain rfl : k = n := by omega
      rw [List.take_of_length_le (by rw [HL.out]; omega)] at hown
      have HO := Lib.hid hown
      have hk1 : ¬ (k : Int) < (k : Int) := by omega
      clear hown
      go_wp2
      go_ret
      exact ⟨_, _, _, rfl, HO.out, hb⟩
set_option maxHeartbeats 1600000 in
theorem corner_i (A : Option Addr) (n c : Nat) (xs : List C) (w : World) (hr : Rd w A (vC xs)) (hl : xs.length = n) (hn1 : 1 ≤ n) (hn : n ≤ 12) (hs : ∀ d ∈ xs, small d) :
    Calls Try.prog 121 #[.slice A n c] w (RetS w 55 2 (vC (cornI xs))) := by
  have h0 : 0 < xs.length := by omega
  have hsm := minC_small h0 hs
  have hms : ∀ k, k ≤ n → (-1000 ≤ minTo (·.1) xs k ∧ minTo (·.1) xs k ≤ 1000) ∧ (-1000 ≤ minTo (·.2) xs k ∧ minTo (·.2) xs k ≤ 1000) := by
    intro k hk
    obtain ⟨a, ha, e1⟩ := minTo_at (·.1) xs h0 k (by omega)
    obtain ⟨b, hb, e2⟩ := minTo_at (·.2) xs h0 k (by omega)
    have h1 := hs a ha
    have h2 := hs b hb
    unfold small at h1 h2
    rw [e1, e2]
    exact ⟨h1.1, h2.2⟩
  have hV : cornI xs = sortC (mv xs (-(minTo (·.1) xs n)) (-(minTo (·.2) xs n))) := by unfold cornI minC; rw [hl]
  have HV := Lib.hid hV
  have HL := Lib.hid hl
  have HS := Lib.hid hs
  have HMS := Lib.hid hms
  have HR := Lib.hid hr
  obtain ⟨g0, o0, hA, hg0, z1, z2⟩ := RdC.at_ hr h0
  subst hA
  obtain ⟨u, hu⟩ : ∃ u, xs[0].1 = u := ⟨_, rfl⟩
  obtain ⟨v, hv⟩ : ∃ v, xs[0].2 = v := ⟨_, rfl⟩
  rw [hu] at z1
  rw [hv] at z2
  simp only [Nat.zero_mul, Nat.add_zero] at z1 z2
  have H1 : Hid (minTo (·.1) xs 0 = u) := by show (xs.getD 0 default).1 = u; rw [getD_in xs h0, hu]
  have H2 : Hid (minTo (·.2) xs 0 = v) := by show (xs.getD 0 default).2 = v; rw [getD_in xs h0, hv]
  have hn0 : (0 : Int) < (n : Int) := by omega
  have hn00 : 0 < n := by omega
  clear hl hs hms hr hV hu hv hsm
  go_enter Try.func121, Try.ntmps121
  go_wp2_with fail
  (refine wp_region_below (by kernel_rfl) (by kernel_rfl) ?_; (repeat (first | go_big_quiet_skip | (refine quietV (v := ?_) (by rfl) rfl (fun w' hbw => ?_) ?_; rotate_left; ((try dsimp only at hbw); have hbc := (bcell hbw).1; have hbf := (bcell hbw).2; go_simp; first | done | with_reducible rfl | fail); simp only [List.setIfInBounds_toArray, List.set_cons_zero, List.set_cons_succ]))); refine wpQuiet_nil ?_; intro wq hbq)
  clear z1 z2
  go_wp2_with fail
  go_loopw [17, 3, 4] (fun e17 e3 e4 wr => ∃ (k : Nat) (px py : Int), k ≤ n ∧ e17 = .int .i64 k ∧ e3 = .int .i64 px ∧ e4 = .int .i64 py ∧ minTo (·.1) xs k = px ∧ minTo (·.2) xs k = py ∧ Below w.heap.size w wr) (fun e17 _ _ _ => n - (intOf e17).toNat)
  case atStart => exact ⟨0, u, v, Nat.zero_le _, rfl, rfl, rfl, H1.out, H2.out, hbq⟩
  case round =>
    obtain ⟨k, px, py, hk, rfl, rfl, rfl, hpx, hpy, hb⟩ := hrel
    have HPX := Lib.hid hpx
    have HPY := Lib.hid hpy
    clear hpx hpy
    by_cases hlt : k < n
    · have hkl : k < xs.length := by rw [HL.out]; exact hlt
      have hk0 : (0 : Int) ≤ (k : Int) := by omega
      have hk1 : (k : Int) < (n : Int) := by omega
      obtain ⟨g, off, he, hg, d1, d2⟩ := RdC.at_ (HR.out.below hb) hkl
      simp only [Option.some.injEq, Addr.mk.injEq, and_true] at he
      obtain ⟨rfl, rfl⟩ := he
      obtain ⟨p, hp⟩ : ∃ p, xs[k].1 = p := ⟨_, rfl⟩
      obtain ⟨q, hq⟩ : ∃ q, xs[k].2 = q := ⟨_, rfl⟩
      rw [hp] at d1
      rw [hq] at d2
      have S1 : Hid (minTo (·.1) xs (k + 1) = if p < px then p else px) := by show minTo (·.1) xs (k + 1) = _; unfold minTo; rw [getD_in xs hkl, hp, HPX.out]
      have S2 : Hid (minTo (·.2) xs (k + 1) = if q < py then q else py) := by show minTo (·.2) xs (k + 1) = _; unfold minTo; rw [getD_in xs hkl, hq, HPY.out]
      clear hp hq
      by_cases h1 : p < px
      · by_cases h2 : q < py
        · have T1 : Hid (minTo (·.1) xs (k + 1) = p) := by show _ = _; rw [S1.out]; exact if_pos h1
          have T2 : Hid (minTo (·.2) xs (k + 1) = q) := by show _ = _; rw [S2.out]; exact if_pos h2
          go_wp2_with fail
          (refine wp_region_below (by kernel_rfl) (by kernel_rfl) ?_; (repeat (first | go_big_quiet_skip | (refine quietV (v := ?_) (by rfl) rfl (fun w' hbw => ?_) ?_; rotate_left; ((try dsimp only at hbw); have hbc := (bcell hbw).1; have hbf := (bcell hbw).2; go_simp; first | done | with_reducible rfl | fail); simp only [List.setIfInBounds_toArray, List.set_cons_zero, List.set_cons_succ]))); refine wpQuiet_nil ?_; intro wq hbq)
          go_wp2_with fail
          exact ⟨⟨k + 1, p, q, by omega, by go_num, by first | rfl | (simp <;> omega), by first | rfl | (simp <;> omega), T1.out, T2.out, bel_trans (bel_alloc hb _) hbq⟩, by simp [intOf]; omega⟩
        · have T1 : Hid (minTo (·.1) xs (k + 1) = p) := by show _ = _; rw [S1.out]; exact if_pos h1
          have T2 : Hid (minTo (·.2) xs (k + 1) = py) := by show _ = _; rw [S2.out]; exact if_neg h2
          go_wp2_with fail
          (refine wp_region_below (by kernel_rfl) (by kernel_rfl) ?_; (repeat (first | go_big_quiet_skip | (refine quietV (v := ?_) (by rfl) rfl (fun w' hbw => ?_) ?_; rotate_left; ((try dsimp only at hbw); have hbc := (bcell hbw).1; have hbf := (bcell hbw).2; go_simp; first | done | with_reducible rfl | fail); simp only [List.setIfInBounds_toArray, List.set_cons_zero, List.set_cons_succ]))); refine wpQuiet_nil ?_; intro wq hbq)
          go_wp2_with fail
          exact ⟨⟨k + 1, p, py, by omega, by go_num, by first | rfl | (simp <;> omega), by first | rfl | (simp <;> omega), T1.out, T2.out, bel_trans (bel_alloc hb _) hbq⟩, by simp [intOf]; omega⟩
      · by_cases h2 : q < py
        · have T1 : Hid (minTo (·.1) xs (k + 1) = px) := by show _ = _; rw [S1.out]; exact if_neg h1
          have T2 : Hid (minTo (·.2) xs (k + 1) = q) := by show _ = _; rw [S2.out]; exact if_pos h2
          go_wp2_with fail
          (refine wp_region_below (by kernel_rfl) (by kernel_rfl) ?_; (repeat (first | go_big_quiet_skip | (refine quietV (v := ?_) (by rfl) rfl (fun w' hbw => ?_) ?_; rotate_left; ((try dsimp only at hbw); have hbc := (bcell hbw).1; have hbf := (bcell hbw).2; go_simp; first | done | with_reducible rfl | fail); simp only [List.setIfInBounds_toArray, List.set_cons_zero, List.set_cons_succ]))); refine wpQuiet_nil ?_; intro wq hbq)
          go_wp2_with fail
          exact ⟨⟨k + 1, px, q, by omega, by go_num, by first | rfl | (simp <;> omega), by first | rfl | (simp <;> omega), T1.out, T2.out, bel_trans (bel_alloc hb _) hbq⟩, by simp [intOf]; omega⟩
        · have T1 : Hid (minTo (·.1) xs (k + 1) = px) := by show _ = _; rw [S1.out]; exact if_neg h1
          have T2 : Hid (minTo (·.2) xs (k + 1) = py) := by show _ = _; rw [S2.out]; exact if_neg h2
          go_wp2_with fail
          (refine wp_region_below (by kernel_rfl) (by kernel_rfl) ?_; (repeat (first | go_big_quiet_skip | (refine quietV (v := ?_) (by rfl) rfl (fun w' hbw => ?_) ?_; rotate_left; ((try dsimp only at hbw); have hbc := (bcell hbw).1; have hbf := (bcell hbw).2; go_simp; first | done | with_reducible rfl | fail); simp only [List.setIfInBounds_toArray, List.set_cons_zero, List.set_cons_succ]))); refine wpQuiet_nil ?_; intro wq hbq)
          go_wp2_with fail
          exact ⟨⟨k + 1, px, py, by omega, by go_num, by first | rfl | (simp <;> omega), by first | rfl | (simp <;> omega), T1.out, T2.out, bel_trans (bel_alloc hb _) hbq⟩, by simp [intOf]; omega⟩
    · obtain rfl : k = n := by omega
      have hk1 : ¬ (k : Int) < (k : Int) := by omega
      have hms := HMS.out k (Nat.le_refl _)
      rw [HPX.out, HPY.out] at hms
      obtain ⟨⟨q1, q2⟩, q3, q4⟩ := hms
      have e1 : IntKind.i64.wrap (-px) = -px := Go.IntWalk.i64_in _ (by omega)
      have e2 : IntKind.i64.wrap (-py) = -py := Go.IntWalk.i64_in _ (by omega)
      go_wp2_with fail
      refine (moved_i _ k c xs (-px) (-py) _ (HR.out.below hb) HL.out (by omega) HS.out (by omega) (by omega)).mono ?_
      rintro e w1 ⟨D, m, cD, rfl, ho, hb1⟩
      have hm : m = k := by have := own_len ho; rw [vC_length, mv_len, HL.out] at this; omega
      subst hm
      have HO := Lib.hid ho
      clear ho
      go_wp2_with fail
      refine (SortCells_i D m cD _ _ (Rd.of_own HO.out) (by rw [mv_len]; exact HL.out) hn1 hn).mono ?_
      rintro e w2 ⟨E, m2, cE, rfl, ho2, hb2⟩
      rw [← HPX.out, ← HPY.out, ← HV.out] at ho2
      have HO2 := Lib.hid (own_base (base' := w.heap.size) ho2 (by have := hb.size; have := hb1.size; omega))
      clear ho2
      go_wp2_with fail
      go_ret
      exact ⟨_, _, _, rfl, HO2.out, bel_trans (bel_trans hb hb1) hb2⟩
end Go.Proofs.Ytagkopemcabkpaa

/- Slices of shapes: read, owned. -/
namespace Go.Proofs.Ytagkopemcabkpaa
open Go.RowKit
set_option linter.unusedVariables false
/-- A slice header whose memory is a block of cells that reads as f. -/
def CRow (w : World) (x : H) (f : List C) : Prop := f.length = x.2.1 ∧ Rd w x.1 (vC f) ∧ ∀ g, ob x.1 = some g → ∃ cur z, w.heap[g]? = some (.cells cur 55 z)
/-- A slice of shapes that reads as F. -/
structure RdF (w : World) (A : Option Addr) (n : Nat) (hs : List H) (F : List (List C)) : Prop where
  top : Rd w A (vS hs)
  hlen : hs.length = n
  flen : F.length = n
  row : ∀ (i : Nat) x f, hs[i]? = some x → F[i]? = some f → CRow w x f
/-- .. and whose own block is the call's own. -/
structure OwnF (base : Nat) (w : World) (A : Option Addr) (n c : Nat) (hs : List H) (F : List (List C)) : Prop where
  own : w.ownsRow base 30 1 (.slice A n c) n (vS hs)
  flen : F.length = n
  row : ∀ (i : Nat) x f, hs[i]? = some x → F[i]? = some f → CRow w x f
section
variable {w w' : World} {x : H} {f : List C} {A : Option Addr} {n c base : Nat} {hs : List H} {F : List (List C)}
theorem CRow.lt (h : CRow w x f) : ∀ g, ob x.1 = some g → g < w.heap.size := fun g e => by
  obtain ⟨cur, z, h1⟩ := h.2.2 g e
  exact (Array.getElem?_eq_some_iff.1 h1).1
theorem CRow.below (h : CRow w x f) (hb : Below w.heap.size w w') : CRow w' x f :=
  ⟨h.1, h.2.1.below hb, fun g e => by obtain ⟨cur, z, h1⟩ := h.2.2 g e; exact ⟨cur, z, (hb.block g (Array.getElem?_eq_some_iff.1 h1).1).trans h1⟩⟩
theorem CRow.of_own (h : w.ownsRow base 55 2 (.slice A n c) n (vC f)) : CRow w (A, n, c) f := by
  refine ⟨by have := own_len h; rw [vC_length] at this; show f.length = n; omega, Rd.of_own h, fun g e => ?_⟩
  rcases h.2 with ⟨hv, _⟩ | ⟨g', cap, cur, hv, _, hg, _⟩
  · injection hv with hA
    subst hA
    simp [ob] at e
  · injection hv with hA
    subst hA
    simp only [ob, Option.map_some, Option.some.injEq] at e
    subst e
    exact ⟨cur, _, hg⟩
/-- A row of cells lies apart from a block of headers. -/
theorem CRow.apart (h : CRow w x f) {A : Option Addr} {n c base : Nat} {vs : List Value} {sz : Nat} (ho : w.ownsRow base 30 sz (.slice A n c) n vs) : ∀ g, ob x.1 = some g → ob A ≠ some g := by
  intro g e ea
  obtain ⟨cur, z, h1⟩ := h.2.2 g e
  rcases ho.2 with ⟨hv, _⟩ | ⟨g', cap, cur', hv, _, hg, _⟩
  · injection hv with hA
    subst hA
    simp [ob] at ea
  · injection hv with hA
    subst hA
    simp only [ob, Option.map_some, Option.some.injEq] at ea
    subst ea
    rw [h1] at hg
    injection hg with hg
    injection hg with _ h3
    exact absurd h3 (by decide)
theorem CRow.grown {row : Option Nat} (h : CRow w x f) (hg : w.grownBy w' row) (hn : ∀ g, ob x.1 = some g → row ≠ some g) : CRow w' x f :=
  ⟨h.1, h.2.1.grown hg (fun g e r => hn g (by simpa using e) r.symm), fun g e => by
    obtain ⟨cur, z, h1⟩ := h.2.2 g e
    exact ⟨cur, z, (hg.block g (Array.getElem?_eq_some_iff.1 h1).1 (fun r => hn g e r.symm)).trans h1⟩⟩
theorem OwnF.hlen (h : OwnF base w A n c hs F) : hs.length = n := by have := own_len h.own; rw [vS_length] at this; omega
theorem OwnF.rd (h : OwnF base w A n c hs F) : RdF w A n hs F := ⟨Rd.of_own h.own, h.hlen, h.flen, h.row⟩
theorem RdF.below (h : RdF w A n hs F) (hb : Below w.heap.size w w') : RdF w' A n hs F := ⟨h.top.below hb, h.hlen, h.flen, fun i x f a b => (h.row i x f a b).below hb⟩
theorem OwnF.below (h : OwnF base w A n c hs F) (hb : Below w.heap.size w w') : OwnF base w' A n c hs F := ⟨own_keep h.own hb, h.flen, fun i x f a b => (h.row i x f a b).below hb⟩
theorem OwnF.mono {base' : Nat} (h : OwnF base w A n c hs F) (hb : base' ≤ base) : OwnF base' w A n c hs F := ⟨own_base h.own hb, h.flen, h.row⟩
theorem OwnF.nil (base : Nat) (w : World) : OwnF base w none 0 0 [] [] := ⟨own_nil _ _ _ _, rfl, fun i x f a => by simp at a⟩
theorem OwnF.none_ (h : w.ownsRow base 30 1 (.slice A 0 c) 0 []) : OwnF base w A 0 c [] [] := ⟨h, rfl, fun i x f a => by simp at a⟩
theorem RdF.at_ (h : RdF w A n hs F) {k : Nat} (hk : k < n) : ∃ (x : H) (f : List C) (g off : Nat), hs[k]? = some x ∧ F[k]? = some f ∧ A = some ⟨g, off, none⟩ ∧ g < w.heap.size ∧ w.cell? ⟨g, off + k, none⟩ = some (.slice x.1 x.2.1 x.2.2) ∧ CRow w x f := by
  have a : k < hs.length := by rw [h.hlen]; exact hk
  have b : k < F.length := by rw [h.flen]; exact hk
  obtain ⟨g, off, e, hg, c1⟩ := RdS.at_ h.top a
  exact ⟨hs[k], F[k], g, off, List.getElem?_eq_getElem a, List.getElem?_eq_getElem b, e, hg, c1, h.row k _ _ (List.getElem?_eq_getElem a) (List.getElem?_eq_getElem b)⟩
end
/-- A result that is a slice of shapes of the call's own. -/
def RetF (w : World) (F : List (List C)) (e : Ending) (w' : World) : Prop :=
  ∃ A n c hs, e = .returned (.slice A n c) ∧ OwnF w.heap.size w' A n c hs F ∧ Below w.heap.size w w'
/-- The place in an ordered list. -/
theorem countP_cut {α : Type} {p : α → Bool} {F : List α} {k : Nat} (hk : k ≤ F.length) (h1 : ∀ (t : Nat) x, t < k → F[t]? = some x → p x = true) (h2 : ∀ (t : Nat) x, k ≤ t → F[t]? = some x → p x = false) : F.countP p = k := by
  have e : F.countP p = (F.take k).countP p + (F.drop k).countP p := by rw [← List.countP_append, List.take_append_drop]
  have e1 : (F.take k).countP p = k := by
    have : (F.take k).countP p = (F.take k).length := by
      rw [List.countP_eq_length]
      intro x hx
      obtain ⟨i, hi, rfl⟩ := List.mem_iff_getElem.1 hx
      rw [List.length_take] at hi
      exact h1 i _ (by omega) (by rw [List.getElem_take]; exact List.getElem?_eq_getElem (by omega))
    rw [this, List.length_take]
    omega
  have e2 : (F.drop k).countP p = 0 := by
    rw [List.countP_eq_zero]
    intro x hx
    obtain ⟨i, hi, rfl⟩ := List.mem_iff_getElem.1 hx
    rw [List.length_drop] at hi
    rw [List.getElem_drop]
    simpa using h2 (k + i) _ (by omega) (List.getElem?_eq_getElem (by omega))
  omega
end Go.Proofs.Ytagkopemcabkpaa

/- Shapes compared: both sides. -/
namespace Go.Proofs.Ytagkopemcabkpaa
open Go.RowKit
set_option linter.unusedVariables false
attribute [local go_sem ↓] Go.wp_at_zero Go.wp_at_succ
set_option maxHeartbeats 1600000 in
theorem CompareShapes_i (A B : Option Addr) (n c m d : Nat) (xs ys : List C) (w : World) (hr : Rd w A (vC xs)) (hr2 : Rd w B (vC ys)) (hl : xs.length = n) (hl2 : ys.length = m) (hn : n ≤ 1099511627776) (hm : m ≤ 1099511627776) :
    Calls Try.prog 125 #[.slice A n c, .slice B m d] w (Ret w (.int .i64 (cmpS xs ys))) := by
  rcases Nat.lt_trichotomy n m with hlt | heq | hgt
  · have HV : Hid (cmpS xs ys = -1) := cmpS_len (by omega)
    have h1 : (n : Int) < (m : Int) := by omega
    have h2 : ((n : Int) != (m : Int)) = true := by rw [bne_iff_ne]; omega
    clear hl hl2
    go_enter Try.func125, Try.ntmps125
    go_wp2
    go_ret
    exact ⟨by rw [HV.out]; rfl, (by (repeat (first | with_reducible exact Below.refl _ _ | with_reducible assumption | with_reducible apply bel_alloc | with_reducible apply bel_drew | with_reducible apply bel_drewN | ((with_reducible refine bel_set ?_ ?_); rotate_left; (simp <;> omega)) | (with_reducible refine bel_trans ?_ (by with_reducible assumption)))))⟩
  · subst heq
    have HLL : Hid (xs.length = ys.length) := hl.trans hl2.symm
    have HL := Lib.hid hl
    have HL2 := Lib.hid hl2
    have h1 : decide ((n : Int) < (n : Int)) = false := by simp
    clear hl hl2
    go_enter Try.func125, Try.ntmps125
    go_wp2
    go_loopw [20] (fun e5 wr => ∃ k : Nat, k ≤ n ∧ e5 = .int .i64 k ∧ xs.take k = ys.take k ∧ Below w.heap.size w wr) (fun e5 _ => n - (intOf e5).toNat)
    case atStart => exact ⟨0, Nat.zero_le _, rfl, rfl, Below.refl _ _⟩
    case round =>
      obtain ⟨k, hk, rfl, htk, hb⟩ := hrel
      have HT := Lib.hid htk
      clear htk
      by_cases hkn : k < n
      · have hk1 : k < xs.length := by rw [HL.out]; exact hkn
        have hk2 : k < ys.length := by rw [HL2.out]; exact hkn
        have hk0 : (0 : Int) ≤ (k : Int) := by omega
        have hkI : (k : Int) < (n : Int) := by omega
        obtain ⟨g1, o1, rfl, hg1, a1, a2⟩ := RdC.at_ (hr.below hb) hk1
        obtain ⟨g2, o2, rfl, hg2, b1, b2⟩ := RdC.at_ (hr2.below hb) hk2
        obtain ⟨x, hx⟩ : ∃ x, xs[k].1 = x := ⟨_, rfl⟩
        obtain ⟨y, hy⟩ : ∃ y, xs[k].2 = y := ⟨_, rfl⟩
        obtain ⟨p, hp⟩ : ∃ p, ys[k].1 = p := ⟨_, rfl⟩
        obtain ⟨q, hq⟩ : ∃ q, ys[k].2 = q := ⟨_, rfl⟩
        have hxy : xs[k] = (x, y) := Prod.ext hx hy
        have hpq : ys[k] = (p, q) := Prod.ext hp hq
        rw [hx] at a1
        rw [hy] at a2
        rw [hp] at b1
        rw [hq] at b2
        have HAT := Lib.hid (cmpS_at HLL.out hk1 HT.out (x, y) (p, q) hxy hpq)
        have HST : Hid ((x, y) = (p, q) → xs.take (k + 1) = ys.take (k + 1)) := fun e => take_eq_step hk1 hk2 HT.out (by rw [hxy, hpq, e])
        clear hx hy hp hq hxy hpq
        cases h3 : befC (x, y) (p, q) with
        | true =>
          have HV := Lib.hid (HAT.out.1 h3)
          have H3 := Lib.hid h3
          clear h3
          go_wp2_with fail
          (refine wp_region_below (by kernel_rfl) (by kernel_rfl) ?_; (repeat (first | go_big_quiet_skip | (refine quietV (v := ?_) (by rfl) rfl (fun w' hbw => ?_) ?_; rotate_left; ((try dsimp only at hbw); have hbc := (bcell hbw).1; have hbf := (bcell hbw).2; go_simp; first | done | with_reducible rfl | exact callsBB (before_i x y p q _) H3.out hbw); simp only [List.setIfInBounds_toArray, List.set_cons_zero, List.set_cons_succ]))); refine wpQuiet_nil ?_; intro wq hbq)
          go_wp2_with fail
          go_ret
          exact ⟨by rw [HV.out]; rfl, (by (repeat (first | with_reducible exact Below.refl _ _ | with_reducible assumption | with_reducible apply bel_alloc | with_reducible apply bel_drew | with_reducible apply bel_drewN | ((with_reducible refine bel_set ?_ ?_); rotate_left; (simp <;> omega)) | (with_reducible refine bel_trans ?_ (by with_reducible assumption)))))⟩
        | false =>
          have H3 := Lib.hid h3
          cases h4 : befC (p, q) (x, y) with
          | true =>
            have HV := Lib.hid (HAT.out.2 h4)
            have H4 := Lib.hid h4
            clear h3 h4
            go_wp2_with fail
            (refine wp_region_below (by kernel_rfl) (by kernel_rfl) ?_; (repeat (first | go_big_quiet_skip | (refine quietV (v := ?_) (by rfl) rfl (fun w' hbw => ?_) ?_; rotate_left; ((try dsimp only at hbw); have hbc := (bcell hbw).1; have hbf := (bcell hbw).2; go_simp; first | done | with_reducible rfl | exact callsBB (before_i x y p q _) H3.out hbw); simp only [List.setIfInBounds_toArray, List.set_cons_zero, List.set_cons_succ]))); refine wpQuiet_nil ?_; intro wq hbq)
            have c1 := (hbq.cell hg1).trans a1
            have c2 := (hbq.cell hg1).trans a2
            have c3 := (hbq.cell hg2).trans b1
            have c4 := (hbq.cell hg2).trans b2
            have hg3 : g1 < wq.heap.size := Nat.lt_of_lt_of_le hg1 hbq.size
            have hg4 : g2 < wq.heap.size := Nat.lt_of_lt_of_le hg2 hbq.size
            clear a1 a2 b1 b2 hg1 hg2
            go_wp2_with fail
            (refine wp_region_below (by kernel_rfl) (by kernel_rfl) ?_; (repeat (first | go_big_quiet_skip | (refine quietV (v := ?_) (by rfl) rfl (fun w' hbw => ?_) ?_; rotate_left; ((try dsimp only at hbw); have hbc := (bcell hbw).1; have hbf := (bcell hbw).2; go_simp; first | done | with_reducible rfl | exact callsBB (before_i p q x y _) H4.out hbw); simp only [List.setIfInBounds_toArray, List.set_cons_zero, List.set_cons_succ]))); refine wpQuiet_nil ?_; intro wz hbz)
            go_wp2_with fail
            go_ret
            exact ⟨by rw [HV.out]; rfl, bel_trans (bel_trans hb hbq) hbz⟩
          | false =>
            have HE := Lib.hid (befC_sto.tot h3 h4)
            have H4 := Lib.hid h4
            clear h3 h4
            go_wp2_with fail
            (refine wp_region_below (by kernel_rfl) (by kernel_rfl) ?_; (repeat (first | go_big_quiet_skip | (refine quietV (v := ?_) (by rfl) rfl (fun w' hbw => ?_) ?_; rotate_left; ((try dsimp only at hbw); have hbc := (bcell hbw).1; have hbf := (bcell hbw).2; go_simp; first | done | with_reducible rfl | exact callsBB (before_i x y p q _) H3.out hbw); simp only [List.setIfInBounds_toArray, List.set_cons_zero, List.set_cons_succ]))); refine wpQuiet_nil ?_; intro wq hbq)
            have c1 := (hbq.cell hg1).trans a1
            have c2 := (hbq.cell hg1).trans a2
            have c3 := (hbq.cell hg2).trans b1
            have c4 := (hbq.cell hg2).trans b2
            have hg3 : g1 < wq.heap.size := Nat.lt_of_lt_of_le hg1 hbq.size
            have hg4 : g2 < wq.heap.size := Nat.lt_of_lt_of_le hg2 hbq.size
            clear a1 a2 b1 b2 hg1 hg2
            go_wp2_with fail
            (refine wp_region_below (by kernel_rfl) (by kernel_rfl) ?_; (repeat (first | go_big_quiet_skip | (refine quietV (v := ?_) (by rfl) rfl (fun w' hbw => ?_) ?_; rotate_left; ((try dsimp only at hbw); have hbc := (bcell hbw).1; have hbf := (bcell hbw).2; go_simp; first | done | with_reducible rfl | exact callsBB (before_i p q x y _) H4.out hbw); simp only [List.setIfInBounds_toArray, List.set_cons_zero, List.set_cons_succ]))); refine wpQuiet_nil ?_; intro wz hbz)
            go_wp2_with fail
            exact ⟨⟨k + 1, by omega, by go_num, HST.out HE.out, bel_trans (bel_trans hb hbq) hbz⟩, by simp [intOf]; omega⟩
      · have hkn2 : k = n := by omega
        have HV : Hid (cmpS xs ys = 0) := by
          show cmpS xs ys = 0
          rw [take_eq_all HLL.out (by rw [HL.out]; omega) HT.out]
          exact cmpS_eq _
        subst hkn2
        have hk1 : ¬ (k : Int) < (k : Int) := by omega
        go_wp2
        go_ret
        exact ⟨by rw [HV.out]; rfl, hb⟩
  · have HV : Hid (cmpS xs ys = 1) := cmpS_len2 (by omega)
    have h1 : decide ((n : Int) < (m : Int)) = false := by simp; omega
    have h2 : ((n : Int) != (m : Int)) = true := by rw [bne_iff_ne]; omega
    have h3 : (n : Int) > (m : Int) := by omega
    clear hl hl2
    go_enter Try.func125, Try.ntmps125
    go_wp2
    go_ret
    exact ⟨by rw [HV.out]; rfl, (by (repeat (first | with_reducible exact Below.refl _ _ | with_reducible assumption | with_reducible apply bel_alloc | with_reducible apply bel_drew | with_reducible apply bel_drewN | ((with_reducible refine bel_set ?_ ?_); rotate_left; (simp <;> omega)) | (with_reducible refine bel_trans ?_ (by with_reducible assumption)))))⟩
set_option maxHeartbeats 1600000 in
theorem CompareShapes_s (A B : Option Addr) (n c m d : Nat) (xs ys : List C) (w : World) (hr : Rd w A (vC xs)) (hr2 : Rd w B (vC ys)) (hl : xs.length = n) (hl2 : ys.length = m) (hn : n ≤ 1099511627776) (hm : m ≤ 1099511627776) :
    Calls Try.prog 95 #[.slice A n c, .slice B m d] w (Ret w (.int .i64 (cmpS xs ys))) := by
  rcases Nat.lt_trichotomy n m with hlt | heq | hgt
  · have HV : Hid (cmpS xs ys = -1) := cmpS_len (by omega)
    have h1 : (n : Int) < (m : Int) := by omega
    have h2 : ((n : Int) != (m : Int)) = true := by rw [bne_iff_ne]; omega
    clear hl hl2
    go_enter Try.func95, Try.ntmps95
    go_wp2
    go_ret
    exact ⟨by rw [HV.out]; rfl, (by (repeat (first | with_reducible exact Below.refl _ _ | with_reducible assumption | with_reducible apply bel_alloc | with_reducible apply bel_drew | with_reducible apply bel_drewN | ((with_reducible refine bel_set ?_ ?_); rotate_left; (simp <;> omega)) | (with_reducible refine bel_trans ?_ (by with_reducible assumption)))))⟩
  · subst heq
    have HLL : Hid (xs.length = ys.length) := hl.trans hl2.symm
    have HL := Lib.hid hl
    have HL2 := Lib.hid hl2
    have h1 : decide ((n : Int) < (n : Int)) = false := by simp
    clear hl hl2
    go_enter Try.func95, Try.ntmps95
    go_wp2
    go_loopw [5] (fun e5 wr => ∃ k : Nat, k ≤ n ∧ e5 = .int .i64 k ∧ xs.take k = ys.take k ∧ Below w.heap.size w wr) (fun e5 _ => n - (intOf e5).toNat)
    case atStart => exact ⟨0, Nat.zero_le _, rfl, rfl, Below.refl _ _⟩
    case round =>
      obtain ⟨k, hk, rfl, htk, hb⟩ := hrel
      have HT := Lib.hid htk
      clear htk
      by_cases hkn : k < n
      · have hk1 : k < xs.length := by rw [HL.out]; exact hkn
        have hk2 : k < ys.length := by rw [HL2.out]; exact hkn
        have hk0 : (0 : Int) ≤ (k : Int) := by omega
        have hkI : (k : Int) < (n : Int) := by omega
        obtain ⟨g1, o1, rfl, hg1, a1, a2⟩ := RdC.at_ (hr.below hb) hk1
        obtain ⟨g2, o2, rfl, hg2, b1, b2⟩ := RdC.at_ (hr2.below hb) hk2
        obtain ⟨x, hx⟩ : ∃ x, xs[k].1 = x := ⟨_, rfl⟩
        obtain ⟨y, hy⟩ : ∃ y, xs[k].2 = y := ⟨_, rfl⟩
        obtain ⟨p, hp⟩ : ∃ p, ys[k].1 = p := ⟨_, rfl⟩
        obtain ⟨q, hq⟩ : ∃ q, ys[k].2 = q := ⟨_, rfl⟩
        have hxy : xs[k] = (x, y) := Prod.ext hx hy
        have hpq : ys[k] = (p, q) := Prod.ext hp hq
        rw [hx] at a1
        rw [hy] at a2
        rw [hp] at b1
        rw [hq] at b2
        have HAT := Lib.hid (cmpS_at HLL.out hk1 HT.out (x, y) (p, q) hxy hpq)
        have HST : Hid ((x, y) = (p, q) → xs.take (k + 1) = ys.take (k + 1)) := fun e => take_eq_step hk1 hk2 HT.out (by rw [hxy, hpq, e])
        clear hx hy hp hq hxy hpq
        by_cases hsame : x = p ∧ y = q
        · obtain ⟨rfl, rfl⟩ := hsame
          go_wp2_with fail
          (refine wp_region_below (by kernel_rfl) (by kernel_rfl) ?_; (repeat (first | go_big_quiet_skip | (refine quietV (v := ?_) (by rfl) rfl (fun w' hbw => ?_) ?_; rotate_left; ((try dsimp only at hbw); have hbc := (bcell hbw).1; have hbf := (bcell hbw).2; go_simp; first | done | with_reducible rfl | fail); simp only [List.setIfInBounds_toArray, List.set_cons_zero, List.set_cons_succ]))); refine wpQuiet_nil ?_; intro wq hbq)
          go_wp2_with fail
          exact ⟨⟨k + 1, by omega, by go_num, HST.out (by simp), bel_trans hb hbq⟩, by simp [intOf]; omega⟩
        · have hne : (x == p && y == q) = false := by
            rw [Bool.and_eq_false_iff, beq_eq_false_iff_ne, beq_eq_false_iff_ne]
            by_cases h1 : x = p
            · exact .inr fun h2 => hsame ⟨h1, h2⟩
            · exact .inl h1
          cases h3 : befC (x, y) (p, q) with
          | true =>
            have HV := Lib.hid (HAT.out.1 h3)
            have H3 := Lib.hid h3
            clear h3 hsame
            go_wp2_with fail
            (refine wp_region_below (by kernel_rfl) (by kernel_rfl) ?_; (repeat (first | go_big_quiet_skip | (refine quietV (v := ?_) (by rfl) rfl (fun w' hbw => ?_) ?_; rotate_left; ((try dsimp only at hbw); have hbc := (bcell hbw).1; have hbf := (bcell hbw).2; go_simp; first | done | with_reducible rfl | fail); simp only [List.setIfInBounds_toArray, List.set_cons_zero, List.set_cons_succ]))); refine wpQuiet_nil ?_; intro wq hbq)
            have c1 := (hbq.cell hg1).trans a1
            have c2 := (hbq.cell hg1).trans a2
            have c3 := (hbq.cell hg2).trans b1
            have c4 := (hbq.cell hg2).trans b2
            have hg3 : g1 < wq.heap.size := Nat.lt_of_lt_of_le hg1 hbq.size
            have hg4 : g2 < wq.heap.size := Nat.lt_of_lt_of_le hg2 hbq.size
            clear a1 a2 b1 b2 hg1 hg2
            go_wp2_with fail
            (refine wp_region_below (by kernel_rfl) (by kernel_rfl) ?_; (repeat (first | go_big_quiet_skip | (refine quietV (v := ?_) (by rfl) rfl (fun w' hbw => ?_) ?_; rotate_left; ((try dsimp only at hbw); have hbc := (bcell hbw).1; have hbf := (bcell hbw).2; go_simp; first | done | with_reducible rfl | exact callsBB (l2Before_s x y p q _) H3.out hbw); simp only [List.setIfInBounds_toArray, List.set_cons_zero, List.set_cons_succ]))); refine wpQuiet_nil ?_; intro wz hbz)
            go_wp2_with fail
            go_ret
            exact ⟨by rw [HV.out]; rfl, bel_trans (bel_trans hb hbq) hbz⟩
          | false =>
            have HV : Hid (cmpS xs ys = 1) := HAT.out.2 (by
              cases h4 : befC (p, q) (x, y) with
              | true => rfl
              | false => exact absurd (befC_sto.tot h3 h4) (fun e => hsame (by injection e with e1 e2; exact ⟨e1, e2⟩)))
            have H3 := Lib.hid h3
            clear h3 hsame
            go_wp2_with fail
            (refine wp_region_below (by kernel_rfl) (by kernel_rfl) ?_; (repeat (first | go_big_quiet_skip | (refine quietV (v := ?_) (by rfl) rfl (fun w' hbw => ?_) ?_; rotate_left; ((try dsimp only at hbw); have hbc := (bcell hbw).1; have hbf := (bcell hbw).2; go_simp; first | done | with_reducible rfl | fail); simp only [List.setIfInBounds_toArray, List.set_cons_zero, List.set_cons_succ]))); refine wpQuiet_nil ?_; intro wq hbq)
            have c1 := (hbq.cell hg1).trans a1
            have c2 := (hbq.cell hg1).trans a2
            have c3 := (hbq.cell hg2).trans b1
            have c4 := (hbq.cell hg2).trans b2
            have hg3 : g1 < wq.heap.size := Nat.lt_of_lt_of_le hg1 hbq.size
            have hg4 : g2 < wq.heap.size := Nat.lt_of_lt_of_le hg2 hbq.size
            clear a1 a2 b1 b2 hg1 hg2
            go_wp2_with fail
            (refine wp_region_below (by kernel_rfl) (by kernel_rfl) ?_; (repeat (first | go_big_quiet_skip | (refine quietV (v := ?_) (by rfl) rfl (fun w' hbw => ?_) ?_; rotate_left; ((try dsimp only at hbw); have hbc := (bcell hbw).1; have hbf := (bcell hbw).2; go_simp; first | done | with_reducible rfl | exact callsBB (l2Before_s x y p q _) H3.out hbw); simp only [List.setIfInBounds_toArray, List.set_cons_zero, List.set_cons_succ]))); refine wpQuiet_nil ?_; intro wz hbz)
            go_wp2_with fail
            go_ret
            exact ⟨by rw [HV.out]; rfl, bel_trans (bel_trans hb hbq) hbz⟩
      · have hkn2 : k = n := by omega
        have HV : Hid (cmpS xs ys = 0) := by
          show cmpS xs ys = 0
          rw [take_eq_all HLL.out (by rw [HL.out]; omega) HT.out]
          exact cmpS_eq _
        subst hkn2
        have hk1 : ¬ (k : Int) < (k : Int) := by omega
        go_wp2
        go_ret
        exact ⟨by rw [HV.out]; rfl, hb⟩
  · have HV : Hid (cmpS xs ys = 1) := cmpS_len2 (by omega)
    have h1 : decide ((n : Int) < (m : Int)) = false := by simp; omega
    have h2 : ((n : Int) != (m : Int)) = true := by rw [bne_iff_ne]; omega
    have h3 : (n : Int) > (m : Int) := by omega
    clear hl hl2
    go_enter Try.func95, Try.ntmps95
    go_wp2
    go_ret
    exact ⟨by rw [HV.out]; rfl, (by (repeat (first | with_reducible exact Below.refl _ _ | with_reducible assumption | with_reducible apply bel_alloc | with_reducible apply bel_drew | with_reducible apply bel_drewN | ((with_reducible refine bel_set ?_ ?_); rotate_left; (simp <;> omega)) | (with_reducible refine bel_trans ?_ (by with_reducible assumption)))))⟩
set_option maxHeartbeats 800000 in
theorem EqualShapes_i (A B : Option Addr) (n c m d : Nat) (xs ys : List C) (w : World) (hr : Rd w A (vC xs)) (hr2 : Rd w B (vC ys)) (hl : xs.length = n) (hl2 : ys.length = m) (hn : n ≤ 1099511627776) (hm : m ≤ 1099511627776) :
    Calls Try.prog 126 #[.slice A n c, .slice B m d] w (Ret w (.bool (decide (xs = ys)))) := by
  by_cases heq : n = m
  · subst heq
    have HLL : Hid (xs.length = ys.length) := hl.trans hl2.symm
    have HL := Lib.hid hl
    have HL2 := Lib.hid hl2
    have h1 : ((n : Int) != (n : Int)) = false := by simp
    clear hl hl2
    go_enter Try.func126, Try.ntmps126
    go_wp2
    go_loopw [13] (fun e5 wr => ∃ k : Nat, k ≤ n ∧ e5 = .int .i64 k ∧ xs.take k = ys.take k ∧ Below w.heap.size w wr) (fun e5 _ => n - (intOf e5).toNat)
    case atStart => exact ⟨0, Nat.zero_le _, rfl, rfl, Below.refl _ _⟩
    case round =>
      obtain ⟨k, hk, rfl, htk, hb⟩ := hrel
      have HT := Lib.hid htk
      clear htk
      by_cases hkn : k < n
      · have hk1 : k < xs.length := by rw [HL.out]; exact hkn
        have hk2 : k < ys.length := by rw [HL2.out]; exact hkn
        have hk0 : (0 : Int) ≤ (k : Int) := by omega
        have hkI : (k : Int) < (n : Int) := by omega
        obtain ⟨g1, o1, rfl, hg1, a1, a2⟩ := RdC.at_ (hr.below hb) hk1
        obtain ⟨g2, o2, rfl, hg2, b1, b2⟩ := RdC.at_ (hr2.below hb) hk2
        obtain ⟨x, hx⟩ : ∃ x, xs[k].1 = x := ⟨_, rfl⟩
        obtain ⟨y, hy⟩ : ∃ y, xs[k].2 = y := ⟨_, rfl⟩
        obtain ⟨p, hp⟩ : ∃ p, ys[k].1 = p := ⟨_, rfl⟩
        obtain ⟨q, hq⟩ : ∃ q, ys[k].2 = q := ⟨_, rfl⟩
        have hxy : xs[k] = (x, y) := Prod.ext hx hy
        have hpq : ys[k] = (p, q) := Prod.ext hp hq
        rw [hx] at a1
        rw [hy] at a2
        rw [hp] at b1
        rw [hq] at b2
        have HST : Hid ((x, y) = (p, q) → xs.take (k + 1) = ys.take (k + 1)) := fun e => take_eq_step hk1 hk2 HT.out (by rw [hxy, hpq, e])
        have HNE : Hid ((x, y) ≠ (p, q) → xs ≠ ys) := fun e h => e (by subst h; rw [← hxy, ← hpq])
        clear hx hy hp hq hxy hpq
        by_cases hsame : x = p ∧ y = q
        · obtain ⟨rfl, rfl⟩ := hsame
          go_wp2_with fail
          (refine wp_region_below (by kernel_rfl) (by kernel_rfl) ?_; (repeat (first | go_big_quiet_skip | (refine quietV (v := ?_) (by rfl) rfl (fun w' hbw => ?_) ?_; rotate_left; ((try dsimp only at hbw); have hbc := (bcell hbw).1; have hbf := (bcell hbw).2; go_simp; first | done | with_reducible rfl | fail); simp only [List.setIfInBounds_toArray, List.set_cons_zero, List.set_cons_succ]))); refine wpQuiet_nil ?_; intro wq hbq)
          go_wp2_with fail
          exact ⟨⟨k + 1, by omega, by go_num, HST.out (by simp), bel_trans hb hbq⟩, by simp [intOf]; omega⟩
        · have hne : (x == p && y == q) = false := by
            rw [Bool.and_eq_false_iff, beq_eq_false_iff_ne, beq_eq_false_iff_ne]
            by_cases h1 : x = p
            · exact .inr fun h2 => hsame ⟨h1, h2⟩
            · exact .inl h1
          have HV : Hid (decide (xs = ys) = false) := decide_eq_false (HNE.out (fun e => hsame (by injection e with e1 e2; exact ⟨e1, e2⟩)))
          clear hsame
          go_wp2_with fail
          (refine wp_region_below (by kernel_rfl) (by kernel_rfl) ?_; (repeat (first | go_big_quiet_skip | (refine quietV (v := ?_) (by rfl) rfl (fun w' hbw => ?_) ?_; rotate_left; ((try dsimp only at hbw); have hbc := (bcell hbw).1; have hbf := (bcell hbw).2; go_simp; first | done | with_reducible rfl | fail); simp only [List.setIfInBounds_toArray, List.set_cons_zero, List.set_cons_succ]))); refine wpQuiet_nil ?_; intro wq hbq)
          go_wp2_with fail
          go_ret
          exact ⟨by rw [HV.out]; rfl, bel_trans hb hbq⟩
      · have hkn2 : k = n := by omega
        have HV : Hid (decide (xs = ys) = true) := decide_eq_true (take_eq_all HLL.out (by rw [HL.out]; omega) HT.out)
        subst hkn2
        have hk1 : ¬ (k : Int) < (k : Int) := by omega
        go_wp2
        go_ret
        exact ⟨by rw [HV.out]; rfl, hb⟩
  · have HV : Hid (decide (xs = ys) = false) := decide_eq_false (fun e => heq (by rw [← hl, ← hl2, e]))
    have h2 : ((n : Int) != (m : Int)) = true := by rw [bne_iff_ne]; omega
    clear hl hl2
    go_enter Try.func126, Try.ntmps126
    go_wp2
    go_ret
    exact ⟨by rw [HV.out]; rfl, (by (repeat (first | with_reducible exact Below.refl _ _ | with_reducible assumption | with_reducible apply bel_alloc | with_reducible apply bel_drew | with_reducible apply bel_drewN | ((with_reducible refine bel_set ?_ ?_); rotate_left; (simp <;> omega)) | (with_reducible refine bel_trans ?_ (by with_reducible assumption)))))⟩
set_option maxHeartbeats 800000 in
theorem EqualShapes_s (A B : Option Addr) (n c m d : Nat) (xs ys : List C) (w : World) (hr : Rd w A (vC xs)) (hr2 : Rd w B (vC ys)) (hl : xs.length = n) (hl2 : ys.length = m) (hn : n ≤ 1099511627776) (hm : m ≤ 1099511627776) :
    Calls Try.prog 28 #[.slice A n c, .slice B m d] w (Ret w (.bool (decide (xs = ys)))) := by
  by_cases heq : n = m
  · subst heq
    have HLL : Hid (xs.length = ys.length) := hl.trans hl2.symm
    have HL := Lib.hid hl
    have HL2 := Lib.hid hl2
    have h1 : ((n : Int) != (n : Int)) = false := by simp
    clear hl hl2
    go_enter Try.func28, Try.ntmps28
    go_wp2
    go_loopw [5] (fun e5 wr => ∃ k : Nat, k ≤ n ∧ e5 = .int .i64 k ∧ xs.take k = ys.take k ∧ Below w.heap.size w wr) (fun e5 _ => n - (intOf e5).toNat)
    case atStart => exact ⟨0, Nat.zero_le _, rfl, rfl, Below.refl _ _⟩
    case round =>
      obtain ⟨k, hk, rfl, htk, hb⟩ := hrel
      have HT := Lib.hid htk
      clear htk
      by_cases hkn : k < n
      · have hk1 : k < xs.length := by rw [HL.out]; exact hkn
        have hk2 : k < ys.length := by rw [HL2.out]; exact hkn
        have hk0 : (0 : Int) ≤ (k : Int) := by omega
        have hkI : (k : Int) < (n : Int) := by omega
        obtain ⟨g1, o1, rfl, hg1, a1, a2⟩ := RdC.at_ (hr.below hb) hk1
        obtain ⟨g2, o2, rfl, hg2, b1, b2⟩ := RdC.at_ (hr2.below hb) hk2
        obtain ⟨x, hx⟩ : ∃ x, xs[k].1 = x := ⟨_, rfl⟩
        obtain ⟨y, hy⟩ : ∃ y, xs[k].2 = y := ⟨_, rfl⟩
        obtain ⟨p, hp⟩ : ∃ p, ys[k].1 = p := ⟨_, rfl⟩
        obtain ⟨q, hq⟩ : ∃ q, ys[k].2 = q := ⟨_, rfl⟩
        have hxy : xs[k] = (x, y) := Prod.ext hx hy
        have hpq : ys[k] = (p, q) := Prod.ext hp hq
        rw [hx] at a1
        rw [hy] at a2
        rw [hp] at b1
        rw [hq] at b2
        have HST : Hid ((x, y) = (p, q) → xs.take (k + 1) = ys.take (k + 1)) := fun e => take_eq_step hk1 hk2 HT.out (by rw [hxy, hpq, e])
        have HNE : Hid ((x, y) ≠ (p, q) → xs ≠ ys) := fun e h => e (by subst h; rw [← hxy, ← hpq])
        clear hx hy hp hq hxy hpq
        by_cases hsame : x = p ∧ y = q
        · obtain ⟨rfl, rfl⟩ := hsame
          go_wp2_with fail
          (refine wp_region_below (by kernel_rfl) (by kernel_rfl) ?_; (repeat (first | go_big_quiet_skip | (refine quietV (v := ?_) (by rfl) rfl (fun w' hbw => ?_) ?_; rotate_left; ((try dsimp only at hbw); have hbc := (bcell hbw).1; have hbf := (bcell hbw).2; go_simp; first | done | with_reducible rfl | fail); simp only [List.setIfInBounds_toArray, List.set_cons_zero, List.set_cons_succ]))); refine wpQuiet_nil ?_; intro wq hbq)
          go_wp2_with fail
          exact ⟨⟨k + 1, by omega, by go_num, HST.out (by simp), bel_trans hb hbq⟩, by simp [intOf]; omega⟩
        · have hne : (x == p && y == q) = false := by
            rw [Bool.and_eq_false_iff, beq_eq_false_iff_ne, beq_eq_false_iff_ne]
            by_cases h1 : x = p
            · exact .inr fun h2 => hsame ⟨h1, h2⟩
            · exact .inl h1
          have HV : Hid (decide (xs = ys) = false) := decide_eq_false (HNE.out (fun e => hsame (by injection e with e1 e2; exact ⟨e1, e2⟩)))
          clear hsame
          go_wp2_with fail
          (refine wp_region_below (by kernel_rfl) (by kernel_rfl) ?_; (repeat (first | go_big_quiet_skip | (refine quietV (v := ?_) (by rfl) rfl (fun w' hbw => ?_) ?_; rotate_left; ((try dsimp only at hbw); have hbc := (bcell hbw).1; have hbf := (bcell hbw).2; go_simp; first | done | with_reducible rfl | fail); simp only [List.setIfInBounds_toArray, List.set_cons_zero, List.set_cons_succ]))); refine wpQuiet_nil ?_; intro wq hbq)
          go_wp2_with fail
          go_ret
          exact ⟨by rw [HV.out]; rfl, bel_trans hb hbq⟩
      · have hkn2 : k = n := by omega
        have HV : Hid (decide (xs = ys) = true) := decide_eq_true (take_eq_all HLL.out (by rw [HL.out]; omega) HT.out)
        subst hkn2
        have hk1 : ¬ (k : Int) < (k : Int) := by omega
        go_wp2
        go_ret
        exact ⟨by rw [HV.out]; rfl, hb⟩
  · have HV : Hid (decide (xs = ys) = false) := decide_eq_false (fun e => heq (by rw [← hl, ← hl2, e]))
    have h2 : ((n : Int) != (m : Int)) = true := by rw [bne_iff_ne]; omega
    clear hl hl2
    go_enter Try.func28, Try.ntmps28
    go_wp2
    go_ret
    exact ⟨by rw [HV.out]; rfl, (by (repeat (first | with_reducible exact Below.refl _ _ | with_reducible assumption | with_reducible apply bel_alloc | with_reducible apply bel_drew | with_reducible apply bel_drewN | ((with_reducible refine bel_set ?_ ?_); rotate_left; (simp <;> omega)) | (with_reducible refine bel_trans ?_ (by with_reducible assumption)))))⟩
end Go.Proofs.Ytagkopemcabkpaa

/- The place of a shape in an ordered list: the library's search with the program's own test. -/
namespace Go.Proofs.Ytagkopemcabkpaa
open Go.RowKit
set_option linter.unusedVariables false
attribute [local go_sem ↓] Go.wp_at_zero Go.wp_at_succ

theorem world_lt {w : World} {a : Addr} {v : Value} (h : w.cell? a = some v) : a.block < w.heap.size := World.block_lt_of_cell? w a h
set_option maxHeartbeats 800000 in
/-- The test: is the shape at place i not less than the one that is sought? -/
theorem putTest (b2 b3 : Nat) (A : Option Addr) (n c : Nat) (hs : List H) (F : List (List C)) (B : Option Addr) (m d : Nat) (f : List C) (i : Nat) (w : World) (hr : RdF w A n hs F) (hf : CRow w (B, m, d) f)
    (c2 : w.cell? ⟨b2, 0, none⟩ = some (.slice A n c)) (c3 : w.cell? ⟨b3, 0, none⟩ = some (.slice B m d)) (hi : i < n) (hl : ∀ x ∈ F, x.length ≤ 1048576) (hm : m ≤ 1048576) (b : Bool) (hv : b = !ltS (F.getD i default) f) :
    Calls Try.prog 124 #[.int .i64 (i : Int), .pointer (some ⟨b2, 0, none⟩), .pointer (some ⟨b3, 0, none⟩)] w (Ret w (.bool b)) := by
  obtain ⟨x, t, g, off, hsx, hfx, rfl, hg, c1, hrow⟩ := hr.at_ hi
  have ht : F.getD i default = t := by rw [List.getD_eq_getElem?_getD, hfx]; rfl
  have htl := hl t (List.mem_of_getElem? hfx)
  obtain ⟨C1, m1, k1⟩ := x
  have h1 : t.length = m1 := hrow.1
  have H1 := Lib.hid h1
  have HR := Lib.hid hrow
  have HF := Lib.hid hf
  have HB := Lib.hid (world_lt c2)
  have HB3 := Lib.hid (world_lt c3)
  have hb2 := HB.out
  have hb3 := HB3.out
  have hm1 : m1 ≤ 1048576 := by omega
  have hi0 : (0 : Int) ≤ (i : Int) := by omega
  have hi1 : (i : Int) < (n : Int) := by omega
  dsimp only at c1
  obtain ⟨v, hve⟩ : ∃ v, cmpS t f = v := ⟨_, rfl⟩
  have hb : b = decide (v ≥ 0) := by rw [hv, ht, ← hve, cmpS_neg]
  have HV := Lib.hid hve
  subst hb
  clear hv hve ht htl hsx hfx hrow hf h1 hr hl
  go_enter Try.func124, Try.ntmps124
  go_wp2_with fail
  (refine wp_region_below (by kernel_rfl) (by kernel_rfl) ?_; (repeat (first | go_big_quiet_skip | (refine quietV (v := ?_) (by rfl) rfl (fun w' hbw => ?_) ?_; rotate_left; ((try dsimp only at hbw); have hbc := (bcell hbw).1; have hbf := (bcell hbw).2; go_simp; first | done | with_reducible rfl | exact callsB (v := .int .i64 v) (by rw [← HV.out]; exact CompareShapes_i C1 B m1 k1 m d t f _ (HR.out.2.1.below hbw) (HF.out.2.1.below hbw) H1.out HF.out.1 (by omega) (by omega)) hbw); simp only [List.setIfInBounds_toArray, List.set_cons_zero, List.set_cons_succ]))); refine wpQuiet_nil ?_; intro wq hbq)
  go_wp2_with fail
  go_ret
  exact ⟨rfl, hbq⟩
set_option maxHeartbeats 1600000 in
theorem putSearch (b2 b3 : Nat) (A : Option Addr) (n c : Nat) (hs : List H) (F : List (List C)) (B : Option Addr) (m d : Nat) (f : List C) (w : World) (hr : RdF w A n hs F) (hf : CRow w (B, m, d) f)
    (c2 : w.cell? ⟨b2, 0, none⟩ = some (.slice A n c)) (c3 : w.cell? ⟨b3, 0, none⟩ = some (.slice B m d)) (hl : ∀ x ∈ F, x.length ≤ 1048576) (hm : m ≤ 1048576) (hn : n ≤ 1099511627776) (hi : IncG ltS F) :
    Calls Try.prog 123 #[.int .i64 (n : Int), .func (.func 124) #[] #[.pointer (some ⟨b2, 0, none⟩), .pointer (some ⟨b3, 0, none⟩)]] w (Ret w (.int .i64 (F.countP (fun x => ltS x f) : Nat))) := by
  have HL := Lib.hid hl
  have HI := Lib.hid hi
  have HR := Lib.hid hr
  have HF := Lib.hid hf
  have HN := Lib.hid hr.flen
  have HC2 := Lib.hid c2
  have HC3 := Lib.hid c3
  clear hl hi hr hf c2 c3
  go_enter Try.func123, Try.ntmps123
  go_wp2
  go_loopw [5, 6] (fun e5 e6 wr => ∃ (lo hi : Nat), e5 = .int .i64 lo ∧ e6 = .int .i64 hi ∧ lo ≤ hi ∧ hi ≤ n ∧ (∀ t, t < lo → ltS (F.getD t default) f = true) ∧ (∀ t, hi ≤ t → t < n → ltS (F.getD t default) f = false) ∧ Below w.heap.size w wr) (fun e5 e6 _ => (intOf e6).toNat - (intOf e5).toNat)
  case atStart => exact ⟨0, n, rfl, rfl, Nat.zero_le _, Nat.le_refl _, fun t h => absurd h (by omega), fun t h1 h2 => by omega, Below.refl _ _⟩
  case round =>
    obtain ⟨lo, hi, rfl, rfl, hlh, hin, hlow, hhigh, hb⟩ := hrel
    have HLO := Lib.hid hlow
    have HHI := Lib.hid hhigh
    clear hlow hhigh
    by_cases hlt : lo < hi
    · have hltI : (lo : Int) < (hi : Int) := by omega
      obtain ⟨k, hk⟩ : ∃ k, (lo + hi) / 2 = k := ⟨_, rfl⟩
      have hkI : ((lo : Int) + (hi : Int)) / 2 = (k : Int) := by rw [← hk]; simp
      have hk1 : lo ≤ k := by omega
      have hk2 : k < hi := by omega
      have HK := Lib.hid hk
      clear hk
      cases ht : ltS (F.getD k default) f with
      | true =>
        have HT := Lib.hid ht
        clear ht
        go_wp2_with fail
        refine (putTest b2 b3 A n c hs F B m d f k _ (HR.out.below hb) (HF.out.below hb) ((hb.cell (world_lt HC2.out)).trans HC2.out) ((hb.cell (world_lt HC3.out)).trans HC3.out) (by omega) HL.out hm false (by rw [HT.out]; rfl)).mono ?_
        rintro e w1 ⟨rfl, hb1⟩
        go_wp2_with fail
        refine ⟨⟨k + 1, hi, by go_num, rfl, by omega, hin, fun t h => ?_, HHI.out, bel_trans hb hb1⟩, by simp [intOf]; omega⟩
        cases he : ltS (F.getD t default) f with
        | true => rfl
        | false =>
          exfalso
          rcases Nat.lt_or_ge t k with h1 | h1
          · have := incG_get ltS_sto HI.out h1 (by rw [HN.out]; omega)
            rw [ltS_sto.trans this HT.out] at he
            cases he
          · obtain rfl : t = k := by omega
            rw [HT.out] at he
            cases he
      | false =>
        have HT := Lib.hid ht
        clear ht
        go_wp2_with fail
        refine (putTest b2 b3 A n c hs F B m d f k _ (HR.out.below hb) (HF.out.below hb) ((hb.cell (world_lt HC2.out)).trans HC2.out) ((hb.cell (world_lt HC3.out)).trans HC3.out) (by omega) HL.out hm true (by rw [HT.out]; rfl)).mono ?_
        rintro e w1 ⟨rfl, hb1⟩
        go_wp2_with fail
        refine ⟨⟨lo, k, rfl, rfl, hk1, by omega, HLO.out, fun t h1 h2 => ?_, bel_trans hb hb1⟩, by simp [intOf]; omega⟩
        cases he : ltS (F.getD t default) f with
        | false => rfl
        | true =>
          exfalso
          rcases Nat.lt_or_ge k t with h3 | h3
          · have := incG_get ltS_sto HI.out h3 (by rw [HN.out]; omega)
            have h4 := ltS_sto.trans this he
            rw [HT.out] at h4
            cases h4
          · obtain rfl : t = k := by omega
            rw [HT.out] at he
            cases he
    · obtain rfl : lo = hi := by omega
      have hltI : ¬ (lo : Int) < (lo : Int) := by omega
      have HV : Hid (F.countP (fun x => ltS x f) = lo) := countP_cut (by rw [HN.out]; exact hin)
        (fun t x h1 h2 => by have := HLO.out t h1; rwa [List.getD_eq_getElem?_getD, h2] at this)
        (fun t x h1 h2 => by have := HHI.out t h1 (by have := (List.getElem?_eq_some_iff.1 h2).1; rw [HN.out] at this; exact this); rwa [List.getD_eq_getElem?_getD, h2] at this)
      go_wp2
      go_ret
      exact ⟨by rw [HV.out]; rfl, hb⟩
end Go.Proofs.Ytagkopemcabkpaa

/- A region that draws its order: operations that read and quiet calls, and a chain of operations that make or write memory. The quiet ones may be taken first. -/
namespace Go.Proofs.Ytagkopemcabkpaa
open Go.RowKit
/-- w' is w with more memory. -/
abbrev Ext (w w' : World) : Prop := Below w.heap.size w w'
section
variable {P : Program} {ops : Array Oper} {md : Region.Mode} {C : World → Prop} {Q : Exit → Act → World → Prop}
/-- In every world of the class o yields v and leaves that world, with more memory at most. -/
def Qt (P : Program) (ops : Array Oper) (C : World → Prop) (o : Oper) (v : Value) (a : Act) : Prop :=
  (Region.wanted o (yielded ops a.tmps) = true ∧ ∀ w, C w → o.quietAt P a (Ext w) w v) ∨ (Region.wanted o (yielded ops a.tmps) = false ∧ v = undef)
theorem Qt.same {o : Oper} {v : Value} {a a' : Act} (hy : Qt P ops C o v a) (he : execOp a'.eval o = execOp a.eval o)
    (hw : Region.wanted o (yielded ops a'.tmps) = Region.wanted o (yielded ops a.tmps)) : Qt P ops C o v a' := by
  unfold Qt Oper.quietAt at *
  rw [he, hw]
  exact hy
theorem Qt.wpOp {i : Nat} {o : Oper} {v : Value} {a : Act} {w : World} (hi : ops[i]? = some o) (hC : C w) (hy : Qt P ops C o v a) {K : Act → World → Prop} (h : ∀ w', Ext w w' → K (a.put o.dst v) w') : wpOp P ops Q i K a w := by
  unfold Go.wpOp
  simp only [hi]
  rcases hy with ⟨hw, hv⟩ | ⟨hw, rfl⟩
  · rw [if_pos hw]
    refine .inl ?_
    have h3 := hv w hC
    unfold Oper.quietAt at h3
    unfold Oper.wp
    generalize (execOp a.eval o).run P w = r at *
    cases r with
    | ok n w' =>
      cases n <;> simp only [Oper.quietUpon] at h3 <;> simp only [Oper.upon]
      case value u => rw [h3.1, h3.2]; exact h _ (Below.refl _ _)
      case skip => rw [h3.1, ← h3.2]; exact h _ (Below.refl _ _)
      case enter f args =>
        rw [h3.1]
        exact h3.2.mono fun e w'' he => by obtain ⟨he, hw''⟩ := he; subst he; exact h _ hw''
    | halt x w' => simp only [Oper.quietUpon] at h3
  · rw [if_neg (by rw [hw]; simp)]
    exact h _ (Below.refl _ _)
theorem wpOp_putQt {j : Nat} {oi oj : Oper} {v : Value} (hj : ops[j]? = some oj) (hap : oi.apart ops oj = true)
    (hsi : ∀ cs b, oi.op ≠ .select cs b) (hsj : ∀ cs b, oj.op ≠ .select cs b) (hQ : ∀ c a w, Q (.panic c) (a.put oi.dst v) w → Q (.panic c) a w) {K : Act → World → Prop} {a : Act} {w : World}
    (hy : Qt P ops C oi v a) (h : wpOp P ops Q j K (a.put oi.dst v) w) : wpOp P ops Q j (fun a' w' => Qt P ops C oi v a' ∧ K (a'.put oi.dst v) w') a w := by
  obtain ⟨h1, h2, h3⟩ := Oper.apart_spec hap
  have keep : ∀ (b : Act), Qt P ops C oi v b → ∀ u, Qt P ops C oi v (b.put oj.dst u) := fun b hb u => hb.same (execOp_put oi hsi b oj.dst u h3) (wanted_put oi b oj.dst u h3)
  have swap : ∀ (b : Act) u, Qt P ops C oi v b → K ((b.put oi.dst v).put oj.dst u) = K ((b.put oj.dst u).put oi.dst v) := fun b u _ => by rw [Act.put_comm b v u h2]
  unfold wpOp at *
  simp only [hj] at *
  rw [wanted_put oj a oi.dst v h1] at h
  by_cases hw : Region.wanted oj (yielded ops a.tmps) = true
  · rw [if_pos hw] at h ⊢
    rcases h with h | ⟨hasks, hlets⟩
    · refine .inl ?_
      unfold Oper.wp at *
      rw [execOp_put oj hsj a oi.dst v h1] at h
      generalize (execOp a.eval oj).run P w = r at *
      cases r with
      | ok n w' =>
        cases n <;> simp only [Oper.upon] at h ⊢
        case value u => exact ⟨keep a hy u, by rw [← swap a u hy]; exact h⟩
        case skip => exact ⟨keep a hy _, by rw [← swap a _ hy]; exact h⟩
        case defer d =>
          have hyd : Qt P ops C oi v { a with defers := d :: a.defers } := hy.same rfl rfl
          refine ⟨keep _ hyd _, ?_⟩
          rw [← swap _ _ hyd, ← Act.put_defers]
          exact h
        case enter f args =>
          refine Calls.mono h fun e w'' he => ?_
          cases e with
          | returned u => exact ⟨keep a hy u, by rw [← swap a u hy]; exact he⟩
          | panicked c => exact hQ _ _ _ he
          | outgrown => exact he
        case row row args => exact Rows.mono h fun u w'' he => ⟨keep a hy u, by rw [← swap a u hy]; exact he⟩
      | halt x w' =>
        cases x <;> simp only [Oper.upon] at h ⊢
        case panic u => exact hQ _ _ _ h
    · exact .inr ⟨by unfold Oper.asks at *; rw [execOp_put oj hsj a oi.dst v h1] at hasks; exact hasks, hlets⟩
  · rw [if_neg hw] at h ⊢
    exact ⟨keep a hy _, by rw [← swap a _ hy]; exact h⟩

/-- Whatever order is picked; more memory may come at any time; the class holds throughout. -/
def wpRg (P : Program) (md : Region.Mode) (ops : Array Oper) (C : World → Prop) (Q : Exit → Act → World → Prop) (f : Nat) (listed : Array Bool) (a : Act) (w : World) : Prop :=
  match f with
  | 0 => Region.ready md ops listed = [] ∧ ∀ w', C w' → Ext w w' → Q .normal a w'
  | f + 1 => (Region.ready md ops listed = [] → ∀ w', C w' → Ext w w' → Q .normal a w') ∧
    ∀ i ∈ Region.ready md ops listed, ∀ w', C w' → Ext w w' → wpOp P ops Q i (fun a' w'' => C w'' ∧ wpRg P md ops C Q f (listed.setIfInBounds i true) a' w'') a w'
theorem wpRg_ext {f : Nat} {listed : Array Bool} {a : Act} {w w1 : World} (h : wpRg P md ops C Q f listed a w) (he : Ext w w1) : wpRg P md ops C Q f listed a w1 := by
  cases f with
  | zero => exact ⟨h.1, fun w' hc h1 => h.2 w' hc (bel_trans he h1)⟩
  | succ f => exact ⟨fun hr w' hc h1 => h.1 hr w' hc (bel_trans he h1), fun i hi w' hc h1 => h.2 i hi w' hc (bel_trans he h1)⟩
theorem wpAny_of_wpRg (f : Nat) : ∀ (listed : Array Bool) (a : Act) (w : World), C w → wpRg P md ops C Q f listed a w → wpAny P md ops Q f listed a w := by
  induction f with
  | zero => intro listed a w hc h; exact ⟨h.1, h.2 w hc (Below.refl _ _)⟩
  | succ f ih =>
    intro listed a w hc h
    exact ⟨fun hr => h.1 hr w hc (Below.refl _ _), fun i hi => wpOp_mono (fun a' w' h' => ih _ a' w' h'.1 h'.2) (h.2 i hi w hc (Below.refl _ _))⟩
theorem wpRg_first {i : Nat} {oi : Oper} {v : Value} (hCE : ∀ w w', C w → Ext w w' → C w') (hi : ops[i]? = some oi) (hsel : ∀ (j : Nat) (o : Oper) cs b, ops[j]? = some o → o.op ≠ .select cs b)
    (hQ : ∀ c a w, Q (.panic c) (a.put oi.dst v) w → Q (.panic c) a w) (f : Nat) :
    ∀ (listed : Array Bool) (a : Act) (w : World),
      (∀ j oj, ops[j]? = some oj → j ≠ i → listed.getD j true = false → (∀ e ∈ oj.after, Region.binds md e = true → e.on ≠ i) → oi.apart ops oj = true) →
      i ∈ Region.ready md ops listed → Qt P ops C oi v a →
      wpRg P md ops C Q f (listed.setIfInBounds i true) (a.put oi.dst v) w → wpRg P md ops C Q (f + 1) listed a w := by
  induction f with
  | zero =>
    intro listed a w _ hr hy H
    refine ⟨fun e => absurd e (List.ne_nil_of_mem hr), fun j hj w' hc he => ?_⟩
    rcases Decidable.em (j = i) with e | e
    · subst e
      exact hy.wpOp hi hc fun w'' h2 => ⟨hCE _ _ hc h2, wpRg_ext H (bel_trans he h2)⟩
    · have := ready_mono hj e
      rw [H.1] at this
      cases this
  | succ f ih =>
    intro listed a w hfree hr hy H
    refine ⟨fun e => absurd e (List.ne_nil_of_mem hr), fun j hj w' hc he => ?_⟩
    rcases Decidable.em (j = i) with e | e
    · subst e
      exact hy.wpOp hi hc fun w'' h2 => ⟨hCE _ _ hc h2, wpRg_ext H (bel_trans he h2)⟩
    · obtain ⟨hjun, oj, hoj, hall⟩ := mem_ready.1 hj
      have hnot : ∀ e ∈ oj.after, Region.binds md e = true → e.on ≠ i := by
        intro e he hb heq
        have h1 := hall e he hb
        rw [heq, getD_both (mem_ready.1 hr).1] at h1
        cases h1
      have h2 := wpOp_putQt hoj (hfree j oj hoj e hjun hnot) (fun cs b => hsel i oi cs b hi) (fun cs b => hsel j oj cs b hoj) hQ hy (H.2 j (ready_mono hj e) w' hc he)
      refine wpOp_mono (fun a' w'' h3 => ⟨h3.2.1, ?_⟩) h2
      refine ih (listed.setIfInBounds j true) a' w'' (fun k ok hk hki hun' hno => ?_) (ready_mono hr (Ne.symm e)) h3.1 ?_
      · refine hfree k ok hk hki ?_ hno
        rcases Decidable.em (j = k) with ejk | ejk
        · rw [← ejk]; exact hjun
        · rwa [getD_set_ne true ejk] at hun'
      · rw [Array.setIfInBounds_comm _ _ e]
        exact h3.2.2

/-- The walk: quiet operations. -/
def wpHead (P : Program) (ops : Array Oper) (C : World → Prop) (L : Act → Prop) : List Oper → Act → Prop
  | [], a => L a
  | o :: rest, a => ∃ v, Qt P ops C o v a ∧ wpHead P ops C L rest (a.put o.dst v)
/-- The walk: the others, one behind the other; more memory may come before each. -/
def wpTail (P : Program) (ops : Array Oper) (C : World → Prop) (Q : Exit → Act → World → Prop) : List Oper → Act → World → Prop
  | [], a, w => ∀ w', C w' → Ext w w' → Q .normal a w'
  | o :: rest, a, w => ∀ w', C w' → Ext w w' → Region.wanted o (yielded ops a.tmps) = true ∧ o.wp P a w' (fun a' w'' => C w'' ∧ wpTail P ops C Q rest a' w'') Q
theorem wpTail_drawn {l : List Oper} {a : Act} {w : World} (h : wpTail P ops C Q l a w) : wpTail P ops C Q l a { w with drawn := w.drawn + 1 } := by
  cases l with
  | nil => exact fun w' hc he => h w' hc ⟨he.os, he.tape, he.output, he.size, he.block⟩
  | cons o r => exact fun w' hc he => h w' hc ⟨he.os, he.tape, he.output, he.size, he.block⟩
theorem wpRg_of_tail (l : List Oper) : ∀ (k : Nat) (listed : Array Bool) (a : Act) (w : World), (∀ j, l[j]? = ops[k + j]?) → Region.seqB md ops l.length k listed = true → wpTail P ops C Q l a w → wpRg P md ops C Q l.length listed a w := by
  induction l with
  | nil => intro k listed a w _ hB h; exact ⟨by simpa [Region.seqB] using hB, h⟩
  | cons o l ih =>
    intro k listed a w hl hB h
    have h0 : ops[k]? = some o := by simpa using (hl 0).symm
    simp only [List.length_cons, Region.seqB, Bool.and_eq_true, decide_eq_true_eq] at hB
    refine ⟨fun e => (by rw [hB.1] at e; cases e), fun i hi w' hc he => ?_⟩
    obtain rfl : i = k := by rw [hB.1] at hi; simpa using hi
    obtain ⟨hw, h1⟩ := h w' hc he
    unfold wpOp
    simp only [h0]
    rw [if_pos hw]
    exact .inl (Oper.wp_mono (fun a' w'' h2 => ⟨h2.1, ih (i + 1) _ a' w'' (fun j => by have := hl (j + 1); simpa [Nat.add_assoc, Nat.add_comm 1 j] using this) hB.2 h2.2⟩) h1)
theorem wpRg_of_head {g n : Nat} {L : Act → Prop} {w : World} (hCE : ∀ w w', C w → Ext w w' → C w') (hsel : Region.noSelect ops = true) (hQ : ∀ (d : Option Tmp) v c a w, Q (.panic c) (a.put d v) w → Q (.panic c) a w)
    (hL : ∀ listed a, Region.seqB md ops g n listed = true → L a → wpRg P md ops C Q g listed a w) (l : List Oper) :
    ∀ (k : Nat) (listed : Array Bool) (a : Act), (∀ j, j < l.length → l[j]? = ops[k + j]?) → k + l.length = n → Region.lexHead md ops g l.length k listed = true → wpHead P ops C L l a → wpRg P md ops C Q (l.length + g) listed a w := by
  induction l with
  | nil =>
    intro k listed a _ hk hB h
    have e : k = n := by simpa using hk
    rw [e] at hB
    rw [List.length_nil, Nat.zero_add]
    exact hL _ _ (by simpa [Region.lexHead] using hB) h
  | cons o l ih =>
    intro k listed a hl hk hB h
    have h0 : ops[k]? = some o := by simpa using (hl 0 (by simp)).symm
    simp only [List.length_cons, Region.lexHead, Bool.and_eq_true] at hB hk
    have hr : k ∈ Region.ready md ops listed := by simpa using hB.1.1
    obtain ⟨v, hy, hK⟩ := h
    rw [List.length_cons, Nat.add_right_comm]
    refine wpRg_first hCE h0 (Region.noSelect_spec hsel) (hQ _ _) _ listed a w (Region.free_spec h0 hB.1.2) hr hy ?_
    refine ih (k + 1) _ _ (fun j hj => ?_) (by omega) hB.2 hK
    have := hl (j + 1) (by simp; omega)
    simpa [Nat.add_assoc, Nat.add_comm 1 j] using this
end
section
variable {P : Program} {C : World → Prop} {ops : Array Oper}
theorem wp_region_tail {id : Nat} {Q : Exit → Act → World → Prop} {a : Act} {w : World} {l : List Oper} (n : Nat) (hm : P.follows .mixedOrders = true) (hB : (Region.noSelect l.toArray && decide (n < l.length) && Region.lexHead .any l.toArray (l.length - n) n 0 (Array.replicate l.length false)) = true)
    (hQ : ∀ (d : Option Tmp) v c a w, Q (.panic c) (a.put d v) w → Q (.panic c) a w) (hC : C { w with drawn := w.drawn + 1 }) (hCE : ∀ w w', C w → Ext w w' → C w')
    (h : wpHead P l.toArray C (fun a' => wpTail P l.toArray C Q (l.drop n) a' w) (l.take n) a) : (Code.region id l.toArray true).wp P Q a w := by
  simp only [Bool.and_eq_true, decide_eq_true_eq] at hB
  obtain ⟨⟨hsel, hn⟩, hlex⟩ := hB
  have htl : (l.take n).length = n := by simp; omega
  have hdl : (l.drop n).length = l.length - n := by simp
  refine wp_region_any hm (wpAny_of_wpRg _ _ _ _ hC ?_)
  have H := wpRg_of_head (md := .any) (g := l.length - n) (n := n) (w := { w with drawn := w.drawn + 1 }) hCE hsel hQ (fun listed a' hs hL => by
    have h4 : wpTail P l.toArray C Q (l.drop n) a' { w with drawn := w.drawn + 1 } := wpTail_drawn hL
    have h3 := wpRg_of_tail (ops := l.toArray) (md := .any) (l.drop n) n listed a' { w with drawn := w.drawn + 1 } (fun j => by simp [List.getElem?_drop]) (by rw [hdl]; exact hs) h4
    rwa [hdl] at h3) (l.take n) 0 (Array.replicate l.length false) a (fun j hj => by rw [htl] at hj; simp [hj]) (by simpa using htl) (by rw [htl]; exact hlex) h
  rw [htl, show n + (l.length - n) = l.length by omega] at H
  simpa using H
theorem headV {L : Act → Prop} {o : Oper} {rest : List Oper} {ts : Array Value} {ds : List Deferred} {v : Value} {d : Nat} (hw : Region.wanted o (yielded ops ts) = true) (hd : o.dst = some d) (h1 : ∀ w', C w' → o.quietAt P { tmps := ts, defers := ds } (Ext w') w' v)
    (h2 : wpHead P ops C L rest { tmps := ts.setIfInBounds d v, defers := ds }) : wpHead P ops C L (o :: rest) { tmps := ts, defers := ds } :=
  ⟨v, .inl ⟨hw, h1⟩, by rw [hd]; exact h2⟩
theorem headSkip {L : Act → Prop} {o : Oper} {rest : List Oper} {ts : Array Value} {ds : List Deferred} {d : Nat} (hw : Region.wanted o (yielded ops ts) = false) (hd : o.dst = some d)
    (h2 : wpHead P ops C L rest { tmps := ts.setIfInBounds d undef, defers := ds }) : wpHead P ops C L (o :: rest) { tmps := ts, defers := ds } :=
  ⟨undef, .inr ⟨hw, rfl⟩, by rw [hd]; exact h2⟩
theorem tailV {Q : Exit → Act → World → Prop} {o : Oper} {rest : List Oper} {a : Act} {w : World} (hw : Region.wanted o (yielded ops a.tmps) = true) (h : ∀ w', C w' → Ext w w' → o.wp P a w' (fun a' w'' => C w'' ∧ wpTail P ops C Q rest a' w'') Q) : wpTail P ops C Q (o :: rest) a w :=
  fun w' hc he => ⟨hw, h w' hc he⟩
theorem tailK {Q : Exit → Act → World → Prop} {o : Oper} {rest : List Oper} {a : Act} {w : World} (hw : Region.wanted o (yielded ops a.tmps) = true)
    (h : ∀ w', C w' → Ext w w' → ∀ K : Act → World → Prop, (∀ a' w'', C w'' → wpTail P ops C Q rest a' w'' → K a' w'') → o.wp P a w' K Q) : wpTail P ops C Q (o :: rest) a w :=
  fun w' hc he => ⟨hw, h w' hc he _ fun _ _ h1 h2 => ⟨h1, h2⟩⟩
theorem wp_region_tailN {id : Nat} {Q : Exit → Act → World → Prop} {a : Act} {w : World} {l : List Oper} (n : Nat) (hm : P.follows .mixedOrders = true) (hB : (Region.noSelect l.toArray && decide (n < l.length) && Region.lexHead .any l.toArray (l.length - n) n 0 (Array.replicate l.length false)) = true)
    (hC : C { w with drawn := w.drawn + 1 }) (hCE : ∀ w w', C w → Ext w w' → C w')
    (h : wpHead P l.toArray C (fun a' => wpTail P l.toArray C (NoPanic Q) (l.drop n) a' w) (l.take n) a) : (Code.region id l.toArray true).wp P Q a w :=
  wp_region_noPanic (wp_region_tail n hm hB (fun _ _ _ _ _ h => h) hC hCE h)
/-- A call's contract in a quiet place. -/
theorem callsX {f : FuncId} {args : Array Value} {w' : World} {v : Value} (h : Calls P f args w' (Ret w' v)) : Calls P f args w' (fun e w'' => e = .returned v ∧ Ext w' w'') := h.mono fun _ _ h2 => ⟨h2.1, h2.2⟩
/-- The class for an append onto a row of the call's own: all else is as it was. -/
def Gr (w : World) (A : Option Addr) (w' : World) : Prop := w.grownBy w' (ob A)
theorem Gr.drawn (w : World) (A : Option Addr) : Gr w A { w with drawn := w.drawn + 1 } := ⟨rfl, rfl, rfl, Nat.le_refl _, fun _ _ _ => rfl⟩
theorem Gr.ext {w : World} {A : Option Addr} {w1 w2 : World} (h : Gr w A w1) (he : Ext w1 w2) : Gr w A w2 :=
  ⟨he.os.trans h.os, he.tape.trans h.tape, he.output.trans h.output, Nat.le_trans h.size he.size, fun k hk hne => (he.block k (Nat.lt_of_lt_of_le hk h.size)).trans (h.block k hk hne)⟩
theorem Gr.trans {w : World} {A : Option Addr} {w1 w2 : World} (h : Gr w A w1) (k : w1.grownBy w2 (ob A)) : Gr w A w2 :=
  ⟨k.os.trans h.os, k.tape.trans h.tape, k.output.trans h.output, Nat.le_trans h.size k.size, fun b hb hne => (k.block b (Nat.lt_of_lt_of_le hb h.size) hne).trans (h.block b hb hne)⟩
theorem Gr.cells {w w' : World} {A : Option Addr} (h : Gr w A w') : ∀ b o, b < w.heap.size → some b ≠ ob A → w'.cell? ⟨b, o, none⟩ = w.cell? ⟨b, o, none⟩ := fun b _ hb hne => World.cell?_of_block (h.block b hb hne)
/-- The class where nothing that was there is written. -/
def ExC (w w' : World) : Prop := Below w.heap.size w w'
theorem ExC.drawn (w : World) : ExC w { w with drawn := w.drawn + 1 } := ⟨rfl, rfl, rfl, Nat.le_refl _, fun _ _ => rfl⟩
theorem ExC.ext {w w1 w2 : World} (h : ExC w w1) (he : Ext w1 w2) : ExC w w2 := bel_trans h he
theorem ExC.cells {w w' : World} (h : ExC w w') : ∀ b o, b < w.heap.size → w'.cell? ⟨b, o, none⟩ = w.cell? ⟨b, o, none⟩ := (bcell h).1
theorem Gr.cell {w w' : World} {A : Option Addr} {b : Nat} (h : Gr w A w') (hb : b < w.heap.size) (hne : some b ≠ ob A) (o : Nat) : w'.cell? ⟨b, o, none⟩ = w.cell? ⟨b, o, none⟩ :=
  World.cell?_of_block (h.block b hb hne)
end
end Go.Proofs.Ytagkopemcabkpaa

/- A shape put into an ordered list, once: the program. -/
namespace Go.Proofs.Ytagkopemcabkpaa
open Go.RowKit
set_option linter.unusedVariables false
attribute [local go_sem ↓] Go.wp_at_zero Go.wp_at_succ

theorem infoF : (Try.prog.info? 30).map (fun i => (i.zero, i.size, i.bytes)) = some (some (.slice none 0 0), 1, 24) := by kernel_rfl
section
variable (w : World) {ops : Array Oper} {rest : List Oper} {o : Oper} {a : Act} {Q : Exit → Act → World → Prop}
theorem app_F (hgd : o.guard = none) (s x : Operand) (ho : o.op = .call { callee := .builtin .append, args := #[s, x], argTypes := #[46, 46] })
    (base : Nat) (A : Option Addr) (n c : Nat) (l : List H) (hs : a.eval s = .slice A n c) (hown : w.ownsRow base 30 1 (.slice A n c) n (vS l))
    (A2 : Option Addr) (m c2 : Nat) (l2 : List H) (hx : a.eval x = .slice A2 m c2) (hr : Rd w A2 (vS l2)) (hl : l2.length = m) (hb : n + m ≤ 1099511627776) (hbase : base ≤ w.heap.size)
    (h : ∀ A' c' w', w'.ownsRow base 30 1 (.slice A' (n + m) c') (n + m) (vS (l ++ l2)) → w.grownBy w' (ob A) → (ob A' = ob A ∨ ob A' = some w.heap.size) → wpList Try.prog ops Q rest (a.put o.dst (.slice A' (n + m) c')) w') :
    wpList Try.prog ops Q (o :: rest) a w := by
  obtain ⟨i0, hi, hz0, hz1, hz2⟩ := info_parts infoF
  refine wpList_app w hgd s x _ ho base _ i0 _ 1 24 Try.underlying46 hi hz0 hz1 hz2 rfl (by omega) A n c _ hs hown A2 m c2 _ hx hr (by rw [vS_length, hl]; omega) (vS_one _) (by unfold maxLen; omega) (by omega) hbase ?_
  intro A' c' w' h1
  rw [← vS_append] at h1
  exact h A' c' w' h1
end
def offF (c k : Nat) : Nat := if c = k then 0 else k
theorem run_fromF (w : World) (g m c k : Nat) (hk : k ≤ m) : (Instr.slice 46 (.slice (some ⟨g, 0, none⟩) m c) (some (.int .i64 (k : Int))) none none).run Try.prog w = .ok (.slice (some ⟨g, offF c k, none⟩) (m - k) (c - k)) w := by
  have h1 : (0 : Int) ≤ (k : Int) := by omega
  have h2 : (k : Int) ≤ (m : Int) := by omega
  unfold offF
  by_cases hc : c = k
  · subst hc
    simp [go_sem, h2]
  · simp [go_sem, h2, hc]
/-- What lies behind place k moves on by one. -/
theorem run_shift (w : World) (base g n c k : Nat) (L : List H) (ho : w.ownsRow base 30 1 (.slice (some ⟨g, 0, none⟩) (n + 1) c) (n + 1) (vS L)) (hk : k ≤ n) (ty : TypeId) :
    ∃ w', (Builtin.copy_ #[46, 46] ty #[.slice (some ⟨g, offF c (k + 1), none⟩) (n + 1 - (k + 1)) (c - (k + 1)), .slice (some ⟨g, offF c k, none⟩) (n + 1 - k) (c - k)]).run Try.prog w = .ok (goInt ((n - k : Nat))) w' ∧
      w'.ownsRow base 30 1 (.slice (some ⟨g, 0, none⟩) (n + 1) c) (n + 1) (vS (L.take (k + 1) ++ (L.drop k).take (n - k))) ∧ w.grownBy w' (some g) := by
  have hlen : L.length = n + 1 := by have := own_len ho; rw [vS_length] at this; omega
  have hsz : (Try.prog.info? 30).map (·.size) = some 1 := by kernel_rfl
  by_cases hkn : k = n
  · subst hkn
    refine ⟨w, ?_, ?_, World.grownBy.refl _ _⟩
    · have := run_copy_none (P := Try.prog) w 46 46 ty 30 (some ⟨g, offF c (k + 1), none⟩) (some ⟨g, offF c k, none⟩) (k + 1 - (k + 1)) (c - (k + 1)) (k + 1 - k) (c - k) Try.underlying46 hsz (by simp)
      rw [this]
      simp
    · rw [Nat.sub_self, List.take_zero, List.append_nil, List.take_of_length_le (by omega)]
      exact ho
  · rcases ho.2 with ⟨hv, h0⟩ | ⟨g', cap, cur, hv, hbg, hg, hnc, hcm, hcs, ht⟩
    · omega
    · injection hv with hA hn hc
      injection hA with hA
      injection hA with hA1
      subst hA1 hc
      have hoff1 : offF c (k + 1) = k + 1 := by unfold offF; rw [if_neg (by omega)]
      have hoff2 : offF c k = k := by unfold offF; rw [if_neg (by omega)]
      have hcsl : (vS ((L.drop k).take (n - k))).length = n - k := by rw [vS_length, List.length_take, List.length_drop]; omega
      have hsrc : ∀ j v, (vS ((L.drop k).take (n - k)))[j]? = some v → w.cell? ((⟨g, k, none⟩ : Addr).add j) = some v := by
        intro j v hj
        have hjl : j < n - k := by rw [← hcsl]; exact (List.getElem?_eq_some_iff.1 hj).1
        have e : (⟨g, k, none⟩ : Addr).add j = ⟨g, k + j, none⟩ := by unfold Addr.add; split <;> simp_all
        rw [e]
        have hc := ho.cellAt (k + j) (by omega)
        rw [hc, ← hj]
        simp only [vS, List.getElem?_map, List.getElem?_take, List.getElem?_drop, if_pos hjl]
      have hr := run_copy_row (P := Try.prog) w 46 46 ty 30 g (k + 1) (n + 1 - (k + 1)) (c - (k + 1)) ⟨g, k, none⟩ (n + 1 - k) (c - k) cur 30 (vS ((L.drop k).take (n - k))) Try.underlying46 hsz hg
        (by rw [hcsl]; show n - k = min _ _; omega) hsrc (by rw [hcsl]; omega) (vS_one _)
      rw [hoff1, hoff2, hr, hcsl]
      refine ⟨_, rfl, ⟨?_, .inr ⟨g, c, _, rfl, hbg, setRow_heap w g cur _ _ _ hg, hnc, hcm, ?_, ?_⟩⟩, ⟨rfl, rfl, rfl, by simp [World.setRow], fun q hq hne => setRow_other w g q _ (fun e => hne (by rw [e]))⟩⟩
      · rw [vS_length, List.length_append, List.length_take, List.length_take, List.length_drop]; omega
      · simp only [List.size_toArray, List.length_append, List.length_take, List.length_drop, Array.length_toList]
        rw [hcsl]
        omega
      · have hcurl : cur.toList.length = c * 1 := by rw [Array.length_toList, hcs]
        have hk1 : cur.toList.take (k + 1) = vS (L.take (k + 1)) := by
          have h2 := congrArg (List.take (k + 1)) ht
          rw [List.take_take, Nat.min_eq_left (by omega)] at h2
          rw [h2]
          simp [vS]
        simp only [List.append_assoc]
        rw [hk1, vS_append]
        have hl1 : (vS (L.take (k + 1))).length = k + 1 := by rw [vS_length, List.length_take]; omega
        rw [← List.append_assoc, List.take_append_of_le_length (by rw [List.length_append, hl1, hcsl]; omega)]
        rw [List.take_of_length_le (by rw [List.length_append, hl1, hcsl]; omega)]
theorem wp_copyF {o : Oper} {a : Act} {w w' : World} {K : Act → World → Prop} {Q : Exit → Act → World → Prop} (d s : Operand) (dT sT : TypeId) (ho : o.op = .call { callee := .builtin .copy, args := #[d, s], argTypes := #[dT, sT] })
    {v1 v2 v : Value} (hd : a.eval d = v1) (hs : a.eval s = v2) (hrun : (Builtin.copy_ #[dT, sT] o.type #[v1, v2]).run Try.prog w = .ok v w') (hk : K (a.put o.dst v) w') : o.wp Try.prog a w K Q := by
  unfold Oper.wp
  simp [execOp, ho, resolve, invoke, builtin, hd, hs, hrun, Result.andThen]
  exact hk
theorem grown_comp2 {a w w' : World} {r r' : Option Nat} (h : a.grownBy w r) (h' : w.grownBy w' r') (hr : ∀ g, r' = some g → r = some g ∨ a.heap.size ≤ g) : a.grownBy w' r :=
  ⟨h'.os.trans h.os, h'.tape.trans h.tape, h'.output.trans h.output, Nat.le_trans h.size h'.size, fun k hk hne => (h'.block k (Nat.lt_of_lt_of_le hk h.size) (fun e => by
    rcases hr k e.symm with h1 | h1
    · exact hne h1.symm
    · omega)).trans (h.block k hk hne)⟩
theorem grown_of_below {w w' : World} (h : Below w.heap.size w w') (r : Option Nat) : w.grownBy w' r := ⟨h.os, h.tape, h.output, h.size, fun k hk _ => h.block k hk⟩
theorem grown_setC {a w : World} {r : Option Nat} (h : a.grownBy w r) {p : Addr} (hp : r = some p.block ∨ a.heap.size ≤ p.block) (u : Value) : a.grownBy (w.setCell p u) r :=
  ⟨h.os, h.tape, h.output, by simpa [World.setCell] using h.size, fun k hk hne => by
    rw [Below.heap_setCell w p u k (by
      rintro rfl
      rcases hp with h1 | h1
      · exact hne h1.symm
      · omega)]
    exact h.block k hk hne⟩
theorem ins_set {α : Type} (hs : List α) (z x : α) (n k : Nat) (hn : hs.length = n) (hk : k ≤ n) : (((hs ++ [z]).take (k + 1)) ++ ((hs ++ [z]).drop k).take (n - k)).set k x = hs.take k ++ [x] ++ hs.drop k := by
  have h1 : ((hs ++ [z]).drop k).take (n - k) = hs.drop k := by
    rw [List.drop_append_of_le_length (by omega), List.take_append_of_le_length (by rw [List.length_drop]; omega), List.take_of_length_le (by rw [List.length_drop]; omega)]
  have hkl : k < (hs ++ [z]).length := by simp; omega
  rw [h1, List.take_succ_eq_append_getElem hkl]
  have h2 : (hs ++ [z]).take k = hs.take k := List.take_append_of_le_length (by omega)
  rw [h2, List.append_assoc, List.set_append_right _ _ (by rw [List.length_take]; omega), List.length_take, Nat.min_eq_left (by omega), Nat.sub_self]
  simp
theorem ins_rows {α β : Type} {hs : List α} {F : List β} {k : Nat} (hl : hs.length = F.length) (hk : k ≤ F.length) {x0 : α} {f : β} (i : Nat) (x : α) (y : β) (h1 : (hs.take k ++ [x0] ++ hs.drop k)[i]? = some x) (h2 : (F.take k ++ [f] ++ F.drop k)[i]? = some y) :
    (∃ j : Nat, hs[j]? = some x ∧ F[j]? = some y) ∨ (x = x0 ∧ y = f) := by
  have e1 : (hs.take k).length = k := by rw [List.length_take]; omega
  have e2 : (F.take k).length = k := by rw [List.length_take]; omega
  rw [List.append_assoc] at h1 h2
  rcases Nat.lt_trichotomy i k with h | h | h
  · rw [List.getElem?_append_left (by omega), List.getElem?_take_of_lt h] at h1 h2
    exact .inl ⟨i, h1, h2⟩
  · subst h
    rw [List.getElem?_append_right (by omega), e1, Nat.sub_self] at h1
    rw [List.getElem?_append_right (by omega), e2, Nat.sub_self] at h2
    simp at h1 h2
    exact .inr ⟨h1.symm, h2.symm⟩
  · obtain ⟨j, rfl⟩ : ∃ j, i = k + 1 + j := ⟨i - (k + 1), by omega⟩
    rw [List.getElem?_append_right (by omega), e1, show k + 1 + j - k = j + 1 from by omega] at h1
    rw [List.getElem?_append_right (by omega), e2, show k + 1 + j - k = j + 1 from by omega] at h2
    simp only [List.singleton_append, List.getElem?_cons_succ, List.getElem?_drop] at h1 h2
    exact .inl ⟨_, h1, h2⟩
/-- The list with the shape put in. -/
def PutP (base : Nat) (w : World) (A : Option Addr) (F : List (List C)) (e : Ending) (w' : World) : Prop :=
  ∃ A' n' c' hs', e = .returned (.slice A' n' c') ∧ OwnF base w' A' n' c' hs' F ∧ w.grownBy w' (ob A) ∧ ∀ g, ob A' = some g → ob A = some g ∨ w.heap.size ≤ g
theorem putB_same {F : List (List C)} {f : List C} {k : Nat} (hk : F.countP (fun x => ltS x f) = k) (h1 : k < F.length) (h2 : F.getD k default = f) : putB ltS F f = F := by unfold putB; rw [hk, if_pos ⟨h1, h2⟩]
theorem putB_new {F : List (List C)} {f : List C} {k : Nat} (hk : F.countP (fun x => ltS x f) = k) (h1 : ¬ (k < F.length ∧ F.getD k default = f)) : putB ltS F f = F.take k ++ [f] ++ F.drop k := by unfold putB; rw [hk, if_neg h1]
set_option maxHeartbeats 3200000 in
theorem putShape_i (A : Option Addr) (n c : Nat) (hs : List H) (F : List (List C)) (B : Option Addr) (m d : Nat) (f : List C) (base : Nat) (w : World) (ho : OwnF base w A n c hs F) (hf : CRow w (B, m, d) f) (hi : IncG ltS F)
    (hl : ∀ x ∈ F, x.length ≤ 1048576) (hm : m ≤ 1048576) (hn : n ≤ 1073741824) (hbs : base ≤ w.heap.size) :
    Calls Try.prog 97 #[.slice A n c, .slice B m d] w (PutP base w A (putB ltS F f)) := by
  obtain ⟨k, hk⟩ : ∃ k, F.countP (fun x => ltS x f) = k := ⟨_, rfl⟩
  have hkn : k ≤ n := by rw [← hk, ← ho.flen]; exact List.countP_le_length
  have hAlt := own_lt ho.own
  have hB2 := (Blk.new w 46 #[.slice A n c]).alloc (.cells #[.slice B m d] 30)
  have hB3 : Blk ((w.alloc (.cells #[.slice A n c] 46)).alloc (.cells #[.slice B m d] 30)) (w.heap.size + 1) 30 #[.slice B m d] := by simpa using Blk.new (w.alloc (.cells #[.slice A n c] 46)) 30 #[.slice B m d]
  have hb0 : Below w.heap.size w ((w.alloc (.cells #[.slice A n c] 46)).alloc (.cells #[.slice B m d] 30)) := (by (repeat (first | with_reducible exact Below.refl _ _ | with_reducible assumption | with_reducible apply bel_alloc | with_reducible apply bel_drew | with_reducible apply bel_drewN | ((with_reducible refine bel_set ?_ ?_); rotate_left; (simp <;> omega)) | (with_reducible refine bel_trans ?_ (by with_reducible assumption)))))
  obtain ⟨W0, hW0⟩ : ∃ W0, (w.alloc (.cells #[.slice A n c] 46)).alloc (.cells #[.slice B m d] 30) = W0 := ⟨_, rfl⟩
  rw [hW0] at hB2 hB3 hb0
  have HS := putSearch w.heap.size (w.heap.size + 1) A n c hs F B m d f W0 (ho.rd.below hb0) (hf.below hb0) (by simpa using hB2.cell 0) (by simpa using hB3.cell 0) hl hm (by omega) hi
  rw [hk] at HS
  have HSE := Lib.hid HS
  have HO := Lib.hid ho
  have HF := Lib.hid hf
  have HK := Lib.hid hk
  have HL := Lib.hid hl
  have HB2 := Lib.hid hB2
  have HB3 := Lib.hid hB3
  have HW := Lib.hid hW0
  have HFL := Lib.hid ho.flen
  have HA := Lib.hid hAlt
  have hz0 := hb0.size
  clear HS ho hf hk hl hB2 hB3 hW0 hAlt hi
  go_enter Try.func97, Try.ntmps97
  go_wp2_with fail
  rw [HW.out]
  refine HSE.out.mono ?_
  rintro e w1 ⟨rfl, hb1⟩
  have hb01 := bel_trans hb0 hb1
  have HX2 := Lib.hid (HB2.out.below hb1)
  have HX3 := Lib.hid (HB3.out.below hb1)
  have c2 : w1.cell? ⟨w.heap.size, 0, none⟩ = some (.slice A n c) := by simpa using HX2.out.cell 0
  have c3 : w1.cell? ⟨w.heap.size + 1, 0, none⟩ = some (.slice B m d) := by simpa using HX3.out.cell 0
  have l2 := HX2.out.lt
  have l3 := HX3.out.lt
  have HO1 := Lib.hid (HO.out.below hb01)
  have HF1 := Lib.hid (HF.out.below hb01)
  by_cases hkk : k < n
  · obtain ⟨x, t, g, off, hsx, hfx, hAg, hg, d1, hrow⟩ := HO1.out.rd.at_ hkk
    have ht : F.getD k default = t := by rw [List.getD_eq_getElem?_getD, hfx]; rfl
    have htl := HL.out t (List.mem_of_getElem? hfx)
    obtain ⟨C1, m1, k1⟩ := x
    have h1 : t.length = m1 := hrow.1
    have H1 := Lib.hid h1
    have HR := Lib.hid hrow
    have hm1 : m1 ≤ 1048576 := by omega
    have hk0 : (0 : Int) ≤ (k : Int) := by omega
    have hkI : (k : Int) < (n : Int) := by omega
    dsimp only at d1
    by_cases htf : t = f
    · have HV := Lib.hid (putB_same HK.out (by rw [HFL.out]; exact hkk) (ht.trans htf))
      have HD : Hid (decide (t = f) = true) := decide_eq_true htf
      subst hAg
      clear ht htf hsx hfx hrow h1 htl
      go_wp2_with fail
      (refine wp_region_below (by kernel_rfl) (by kernel_rfl) ?_; (repeat (first | go_big_quiet_skip | (refine quietV (v := ?_) (by rfl) rfl (fun w' hbw => ?_) ?_; rotate_left; ((try dsimp only at hbw); have hbc := (bcell hbw).1; have hbf := (bcell hbw).2; go_simp; first | done | with_reducible rfl | exact callsBB (EqualShapes_i C1 B m1 k1 m d t f _ (HR.out.2.1.below hbw) (HF1.out.2.1.below hbw) H1.out HF1.out.1 (by omega) (by omega)) HD.out hbw); simp only [List.setIfInBounds_toArray, List.set_cons_zero, List.set_cons_succ]))); refine wpQuiet_nil ?_; intro wq hbq)
      have c2q : wq.cell? ⟨w.heap.size, 0, none⟩ = some (.slice (some ⟨g, off, none⟩) n c) := by simpa using (HX2.out.below hbq).cell 0
      have l2q := (HX2.out.below hbq).lt
      clear c2 c3 l2 l3
      go_wp2_with fail
      go_ret
      exact ⟨_, n, c, hs, rfl, by rw [HV.out]; exact HO1.out.below hbq, grown_of_below (bel_trans hb01 hbq) _, fun g e => .inl e⟩
    · have HV := Lib.hid (putB_new HK.out (fun h => htf (ht.symm.trans h.2)))
      have HD : Hid (decide (t = f) = false) := decide_eq_false htf
      have HAG := Lib.hid hAg
      rw [hAg] at c2
      have hkd : decide (k < n) = true := by simp [hkk]
      clear ht htf hsx hfx hrow h1 htl hAg
      go_wp2_with fail
      (refine wp_region_below (by kernel_rfl) (by kernel_rfl) ?_; (repeat (first | go_big_quiet_skip | (refine quietV (v := ?_) (by rfl) rfl (fun w' hbw => ?_) ?_; rotate_left; ((try dsimp only at hbw); have hbc := (bcell hbw).1; have hbf := (bcell hbw).2; go_simp; first | done | with_reducible rfl | exact callsBB (EqualShapes_i C1 B m1 k1 m d t f _ (HR.out.2.1.below hbw) (HF1.out.2.1.below hbw) H1.out HF1.out.1 (by omega) (by omega)) HD.out hbw); simp only [List.setIfInBounds_toArray, List.set_cons_zero, List.set_cons_succ]))); refine wpQuiet_nil ?_; intro wq hbq)
      clear d1 hkd
      rw [← HAG.out] at c2 ⊢
      have hb0q := bel_trans hb01 hbq
      have hz1 := hb0q.size
      have HX2q := Lib.hid (HX2.out.below hbq)
      have HX3q := Lib.hid (HX3.out.below hbq)
      have HOq := Lib.hid (HO1.out.below hbq)
      have c2q : wq.cell? ⟨w.heap.size, 0, none⟩ = some (.slice A n c) := by simpa using HX2q.out.cell 0
      have z2q := HX2q.out.frozen 0
      have l2q := HX2q.out.lt
      clear c2 c3 l2 l3
      go_wp2_with (at_builtin; go_must (refine app_F _ rfl _ _ rfl base _ _ _ hs rfl (HOq.out.own.alloc _) _ _ _ [(none, 0, 0)] rfl (rd_newS _ _ _) rfl (by omega) (by simp; omega) ?_); intro A3 c5 w3 ho3 hg3 hat3; have HO3 := Lib.hid ho3; have HG3 := Lib.hid hg3; have HAT := Lib.hid hat3; have hX3 := (HX2q.out.alloc (.cells #[.slice none 0 0] 30)).grown hg3 (fun e => by have := (HA.out _ e.symm).2; omega); have e2 : w3.cell? ⟨w.heap.size, 0, none⟩ = some (.slice A n c) := (by simpa using hX3.cell 0); have f2 := hX3.frozen 0; have l4 := hX3.lt; have HX4 := Lib.hid (hX3.set_ 0 (.slice A3 (n + 1) c5)); have HY4 := Lib.hid (((HX3q.out.alloc (.cells #[.slice none 0 0] 30)).grown hg3 (fun e => by have := (HA.out _ e.symm).2; omega)).far (p := ⟨w.heap.size, 0, none⟩) (by simp) (.slice A3 (n + 1) c5)); clear hX3 ho3 hg3 hat3)
      obtain ⟨g3, hA3, hbg3, hg3l⟩ := own_at HO3.out (by omega)
      subst hA3
      have hg3n : g3 ≠ w.heap.size ∧ g3 ≠ w.heap.size + 1 := by
        rcases HAT.out with h | h
        · have := (HA.out g3 h.symm).2; omega
        · simp only [ob, Option.map_some, Option.some.injEq, World.size_alloc] at h; omega
      obtain ⟨hg3n, hg3m⟩ := hg3n
      have HO4 := Lib.hid (own_set HO3.out (p := ⟨w.heap.size, 0, none⟩) (fun g e => by simp only [ob, Option.map_some, Option.some.injEq] at e; subst e; exact hg3n) (.slice (some ⟨g3, 0, none⟩) (n + 1) c5))
      have HG4 : Hid (w.grownBy (w3.setCell ⟨w.heap.size, 0, none⟩ (.slice (some ⟨g3, 0, none⟩) (n + 1) c5)) (ob A)) :=
        grown_setC (grown_comp2 (grown_of_below (bel_alloc hb0q _) (ob A)) HG3.out (fun g h => .inl h)) (.inr (Nat.le_refl _)) _
      have HR4 : Hid (∀ x t, CRow wq x t → CRow (w3.setCell ⟨w.heap.size, 0, none⟩ (.slice (some ⟨g3, 0, none⟩) (n + 1) c5)) x t) := fun x t h =>
        ((h.below (bel_alloc (Below.refl _ _) _)).grown HG3.out (fun g e r => (h.apart HOq.out.own) g e r)).grown (grown_set (World.grownBy.refl _ (some w.heap.size)) rfl _) (fun g e r => by
          injection r with r
          obtain ⟨cur, z, h1⟩ := h.2.2 g e
          have h2 := HX2q.out
          unfold Blk at h2
          rw [r, h1] at h2
          injection h2 with h2
          injection h2 with _ h3
          exact absurd h3 (by decide))
      obtain ⟨w4, hw4⟩ : ∃ w4, w3.setCell ⟨w.heap.size, 0, none⟩ (.slice (some ⟨g3, 0, none⟩) (n + 1) c5) = w4 := ⟨_, rfl⟩
      rw [hw4] at HX4 HY4 HO4 HG4 HR4 ⊢
      have d2 : w4.cell? ⟨w.heap.size, 0, none⟩ = some (.slice (some ⟨g3, 0, none⟩) (n + 1) c5) := by simpa using HX4.out.cell 0
      have l6 := HX4.out.lt
      have hk0 : (0 : Int) ≤ (k : Int) := by omega
      obtain ⟨k1, hk1⟩ : ∃ k1 : Nat, k + 1 = k1 := ⟨_, rfl⟩
      have hk1I : (k : Int) + 1 = (k1 : Int) := by omega
      have hk1w : IntKind.i64.wrap (k1 : Int) = (k1 : Int) := Go.IntWalk.i64_in _ (by omega)
      have hs1 : ∀ w', (Instr.slice 46 (.slice (some ⟨g3, 0, none⟩) (n + 1) c5) (some (.int .i64 (k1 : Int))) none none).run Try.prog w' = .ok (.slice (some ⟨g3, offF c5 k1, none⟩) (n + 1 - k1) (c5 - k1)) w' := fun w' => run_fromF w' g3 (n + 1) c5 k1 (by omega)
      have hs2 : ∀ w', (Instr.slice 46 (.slice (some ⟨g3, 0, none⟩) (n + 1) c5) (some (.int .i64 (k : Int))) none none).run Try.prog w' = .ok (.slice (some ⟨g3, offF c5 k, none⟩) (n + 1 - k) (c5 - k)) w' := fun w' => run_fromF w' g3 (n + 1) c5 k (by omega)
      have HK1 := Lib.hid hk1
      clear hk1 hw4 e2 f2 l4
      go_wp2_with fail
      (refine wp_region_tailN (C := Gr w4 (some ⟨g3, 0, none⟩)) 7 (by kernel_rfl) (by kernel_rfl) (Gr.drawn _ _) (fun _ _ h k => h.ext k) ?_; simp only [List.take_succ_cons, List.take_zero, List.drop_succ_cons, List.drop_zero]; (repeat (first | (refine headSkip (by rfl) rfl ?_; simp only [List.setIfInBounds_toArray, List.set_cons_zero, List.set_cons_succ]) | (refine headV (v := ?_) (by rfl) rfl (fun w' hcw => ?_) ?_; rotate_left; ((try dsimp only at hcw); have hbc := hcw.cells; go_simp; first | done | with_reducible rfl | (have hcc := hcw.cell l6 (by simp [ob]; exact fun e => hg3n e.symm) 0; go_simp; first | done | with_reducible rfl)); simp only [List.setIfInBounds_toArray, List.set_cons_zero, List.set_cons_succ]))); unfold wpHead)
      refine tailK (by rfl) (fun u5 hc5 he5 K hK => ?_)
      obtain ⟨w5, hrun, ho5, hg5⟩ := run_shift u5 base g3 n c5 k (hs ++ [(none, 0, 0)]) (own_keep HO4.out he5) hkn 3
      rw [HK1.out] at hrun
      refine wp_copyF _ _ _ _ rfl rfl rfl hrun ?_
      refine hK _ _ (Gr.trans hc5 hg5) ?_
      clear hK K hrun
      simp only [Act.put, List.setIfInBounds_toArray, List.set_cons_zero, List.set_cons_succ]
      (refine fun w6 hc6 he6 => NoPanic.normal ?_)
      have HO6 := Lib.hid (own_keep ho5 he6)
      have HG6 : Hid (w4.grownBy w6 (some g3)) := hc6
      have HX6 := Lib.hid (HX4.out.grown HG6.out (fun e => by injection e with e; exact hg3n e.symm))
      have HY6 := Lib.hid (HY4.out.grown HG6.out (fun e => by injection e with e; exact hg3m e.symm))
      have b2 : w6.cell? ⟨w.heap.size, 0, none⟩ = some (.slice (some ⟨g3, 0, none⟩) (n + 1) c5) := by simpa using HX6.out.cell 0
      have b3 : w6.cell? ⟨w.heap.size + 1, 0, none⟩ = some (.slice B m d) := by simpa using HY6.out.cell 0
      have l7 := HX6.out.lt
      have l8 := HY6.out.lt
      have hck := HO6.out.cellAt k (by omega)
      have hkl : k < (vS (List.take (k + 1) (hs ++ [(none, 0, 0)]) ++ List.take (n - k) (List.drop k (hs ++ [(none, 0, 0)])))).length := by
        have := own_len HO6.out; omega
      rw [List.getElem?_eq_getElem hkl] at hck
      generalize (vS (List.take (k + 1) (hs ++ [(none, 0, 0)]) ++ List.take (n - k) (List.drop k (hs ++ [(none, 0, 0)]))))[k] = z at hck
      have hfk := HO6.out.frozenAt k
      have hg6l := own_lt HO6.out g3 rfl
      have hst := (HO6.out.stored k (.slice B m d)).1
      rw [show (vS (List.take (k + 1) (hs ++ [(none, 0, 0)]) ++ List.take (n - k) (List.drop k (hs ++ [(none, 0, 0)])))).set k (.slice B m d) = vS (hs.take k ++ [(B, m, d)] ++ hs.drop k) from by rw [← ins_set hs (none, 0, 0) (B, m, d) n k HO.out.hlen hkn]; simp [vS, List.map_set, hd]] at hst
      have HST := Lib.hid hst
      obtain ⟨hg6a, hg6b⟩ := hg6l
      have hkI2 : (k : Int) < (n : Int) + 1 := by omega
      have HRW : Hid (∀ x t, CRow wq x t → CRow (w6.setCell ⟨g3, k, none⟩ (.slice B m d)) x t) := fun x t h => by
        have h4 := HR4.out x t h
        have ne := h4.apart HO4.out
        exact (h4.grown HG6.out (fun g e r => ne g e r)).grown (grown_set (World.grownBy.refl _ (some g3)) rfl _) (fun g e r => ne g e r)
      have HGW : Hid (w.grownBy (w6.setCell ⟨g3, k, none⟩ (.slice B m d)) (ob A)) := by
        have hh : ob A = some g3 ∨ w.heap.size ≤ g3 := by
          rcases HAT.out with h | h
          · exact .inl h.symm
          · simp only [ob, Option.map_some, Option.some.injEq, World.size_alloc] at h; right; omega
        exact grown_setC (grown_comp2 HG4.out HG6.out (fun g h => by injection h with h; subst h; exact hh)) hh _
      clear hst hc5 he5 ho5 hg5 hc6 he6 d2 l6 hs1 hs2
      go_wp2_with fail
      go_ret
      refine ⟨some ⟨g3, 0, none⟩, n + 1, c5, hs.take k ++ [(B, m, d)] ++ hs.drop k, rfl, ⟨HST.out, ?_, ?_⟩, HGW.out, ?_⟩
      · rw [HV.out]; simp only [List.length_append, List.length_take, List.length_drop, List.length_cons, List.length_nil, HFL.out]; omega
      · intro i x t h1 h2
        rw [HV.out] at h2
        rcases ins_rows (by rw [HO.out.hlen, HFL.out]) (by rw [HFL.out]; exact hkn) i x t h1 h2 with ⟨j, h3, h4⟩ | ⟨h3, h4⟩
        · exact HRW.out x t (HOq.out.row j x t h3 h4)
        · subst h3 h4
          exact HRW.out _ _ (HF1.out.below hbq)
      · intro g e
        rcases HAT.out with h | h
        · exact .inl (h ▸ e)
        · rw [h] at e
          simp only [World.size_alloc, Option.some.injEq] at e
          right; omega
  · have HV := Lib.hid (putB_new HK.out (fun h => hkk (by have := h.1; rwa [HFL.out] at this)))
    have hkd : decide (k < n) = false := by simp; omega
    have hkI : ¬ (k : Int) < (n : Int) := by omega
    go_wp2_with fail
    (refine wp_region_below (by kernel_rfl) (by kernel_rfl) ?_; (repeat (first | go_big_quiet_skip | (refine quietV (v := ?_) (by rfl) rfl (fun w' hbw => ?_) ?_; rotate_left; ((try dsimp only at hbw); have hbc := (bcell hbw).1; have hbf := (bcell hbw).2; go_simp; first | done | with_reducible rfl | fail); simp only [List.setIfInBounds_toArray, List.set_cons_zero, List.set_cons_succ]))); refine wpQuiet_nil ?_; intro wq hbq)
    clear hkd hkI hkk
    have hb0q := bel_trans hb01 hbq
    have hz1 := hb0q.size
    have HX2q := Lib.hid (HX2.out.below hbq)
    have HX3q := Lib.hid (HX3.out.below hbq)
    have HOq := Lib.hid (HO1.out.below hbq)
    have c2q : wq.cell? ⟨w.heap.size, 0, none⟩ = some (.slice A n c) := by simpa using HX2q.out.cell 0
    have z2q := HX2q.out.frozen 0
    have l2q := HX2q.out.lt
    clear c2 c3 l2 l3
    go_wp2_with (at_builtin; go_must (refine app_F _ rfl _ _ rfl base _ _ _ hs rfl (HOq.out.own.alloc _) _ _ _ [(none, 0, 0)] rfl (rd_newS _ _ _) rfl (by omega) (by simp; omega) ?_); intro A3 c5 w3 ho3 hg3 hat3; have HO3 := Lib.hid ho3; have HG3 := Lib.hid hg3; have HAT := Lib.hid hat3; have hX3 := (HX2q.out.alloc (.cells #[.slice none 0 0] 30)).grown hg3 (fun e => by have := (HA.out _ e.symm).2; omega); have e2 : w3.cell? ⟨w.heap.size, 0, none⟩ = some (.slice A n c) := (by simpa using hX3.cell 0); have f2 := hX3.frozen 0; have l4 := hX3.lt; have HX4 := Lib.hid (hX3.set_ 0 (.slice A3 (n + 1) c5)); have HY4 := Lib.hid (((HX3q.out.alloc (.cells #[.slice none 0 0] 30)).grown hg3 (fun e => by have := (HA.out _ e.symm).2; omega)).far (p := ⟨w.heap.size, 0, none⟩) (by simp) (.slice A3 (n + 1) c5)); clear hX3 ho3 hg3 hat3)
    obtain ⟨g3, hA3, hbg3, hg3l⟩ := own_at HO3.out (by omega)
    subst hA3
    have hg3n : g3 ≠ w.heap.size ∧ g3 ≠ w.heap.size + 1 := by
      rcases HAT.out with h | h
      · have := (HA.out g3 h.symm).2; omega
      · simp only [ob, Option.map_some, Option.some.injEq, World.size_alloc] at h; omega
    obtain ⟨hg3n, hg3m⟩ := hg3n
    have HO4 := Lib.hid (own_set HO3.out (p := ⟨w.heap.size, 0, none⟩) (fun g e => by simp only [ob, Option.map_some, Option.some.injEq] at e; subst e; exact hg3n) (.slice (some ⟨g3, 0, none⟩) (n + 1) c5))
    have HG4 : Hid (w.grownBy (w3.setCell ⟨w.heap.size, 0, none⟩ (.slice (some ⟨g3, 0, none⟩) (n + 1) c5)) (ob A)) :=
      grown_setC (grown_comp2 (grown_of_below (bel_alloc hb0q _) (ob A)) HG3.out (fun g h => .inl h)) (.inr (Nat.le_refl _)) _
    have HR4 : Hid (∀ x t, CRow wq x t → CRow (w3.setCell ⟨w.heap.size, 0, none⟩ (.slice (some ⟨g3, 0, none⟩) (n + 1) c5)) x t) := fun x t h =>
      ((h.below (bel_alloc (Below.refl _ _) _)).grown HG3.out (fun g e r => (h.apart HOq.out.own) g e r)).grown (grown_set (World.grownBy.refl _ (some w.heap.size)) rfl _) (fun g e r => by
        injection r with r
        obtain ⟨cur, z, h1⟩ := h.2.2 g e
        have h2 := HX2q.out
        unfold Blk at h2
        rw [r, h1] at h2
        injection h2 with h2
        injection h2 with _ h3
        exact absurd h3 (by decide))
    obtain ⟨w4, hw4⟩ : ∃ w4, w3.setCell ⟨w.heap.size, 0, none⟩ (.slice (some ⟨g3, 0, none⟩) (n + 1) c5) = w4 := ⟨_, rfl⟩
    rw [hw4] at HX4 HY4 HO4 HG4 HR4 ⊢
    have d2 : w4.cell? ⟨w.heap.size, 0, none⟩ = some (.slice (some ⟨g3, 0, none⟩) (n + 1) c5) := by simpa using HX4.out.cell 0
    have l6 := HX4.out.lt
    have hk0 : (0 : Int) ≤ (k : Int) := by omega
    obtain ⟨k1, hk1⟩ : ∃ k1 : Nat, k + 1 = k1 := ⟨_, rfl⟩
    have hk1I : (k : Int) + 1 = (k1 : Int) := by omega
    have hk1w : IntKind.i64.wrap (k1 : Int) = (k1 : Int) := Go.IntWalk.i64_in _ (by omega)
    have hs1 : ∀ w', (Instr.slice 46 (.slice (some ⟨g3, 0, none⟩) (n + 1) c5) (some (.int .i64 (k1 : Int))) none none).run Try.prog w' = .ok (.slice (some ⟨g3, offF c5 k1, none⟩) (n + 1 - k1) (c5 - k1)) w' := fun w' => run_fromF w' g3 (n + 1) c5 k1 (by omega)
    have hs2 : ∀ w', (Instr.slice 46 (.slice (some ⟨g3, 0, none⟩) (n + 1) c5) (some (.int .i64 (k : Int))) none none).run Try.prog w' = .ok (.slice (some ⟨g3, offF c5 k, none⟩) (n + 1 - k) (c5 - k)) w' := fun w' => run_fromF w' g3 (n + 1) c5 k (by omega)
    have HK1 := Lib.hid hk1
    clear hk1 hw4 e2 f2 l4
    go_wp2_with fail
    (refine wp_region_tailN (C := Gr w4 (some ⟨g3, 0, none⟩)) 7 (by kernel_rfl) (by kernel_rfl) (Gr.drawn _ _) (fun _ _ h k => h.ext k) ?_; simp only [List.take_succ_cons, List.take_zero, List.drop_succ_cons, List.drop_zero]; (repeat (first | (refine headSkip (by rfl) rfl ?_; simp only [List.setIfInBounds_toArray, List.set_cons_zero, List.set_cons_succ]) | (refine headV (v := ?_) (by rfl) rfl (fun w' hcw => ?_) ?_; rotate_left; ((try dsimp only at hcw); have hbc := hcw.cells; go_simp; first | done | with_reducible rfl | (have hcc := hcw.cell l6 (by simp [ob]; exact fun e => hg3n e.symm) 0; go_simp; first | done | with_reducible rfl)); simp only [List.setIfInBounds_toArray, List.set_cons_zero, List.set_cons_succ]))); unfold wpHead)
    refine tailK (by rfl) (fun u5 hc5 he5 K hK => ?_)
    obtain ⟨w5, hrun, ho5, hg5⟩ := run_shift u5 base g3 n c5 k (hs ++ [(none, 0, 0)]) (own_keep HO4.out he5) hkn 3
    rw [HK1.out] at hrun
    refine wp_copyF _ _ _ _ rfl rfl rfl hrun ?_
    refine hK _ _ (Gr.trans hc5 hg5) ?_
    clear hK K hrun
    simp only [Act.put, List.setIfInBounds_toArray, List.set_cons_zero, List.set_cons_succ]
    (refine fun w6 hc6 he6 => NoPanic.normal ?_)
    have HO6 := Lib.hid (own_keep ho5 he6)
    have HG6 : Hid (w4.grownBy w6 (some g3)) := hc6
    have HX6 := Lib.hid (HX4.out.grown HG6.out (fun e => by injection e with e; exact hg3n e.symm))
    have HY6 := Lib.hid (HY4.out.grown HG6.out (fun e => by injection e with e; exact hg3m e.symm))
    have b2 : w6.cell? ⟨w.heap.size, 0, none⟩ = some (.slice (some ⟨g3, 0, none⟩) (n + 1) c5) := by simpa using HX6.out.cell 0
    have b3 : w6.cell? ⟨w.heap.size + 1, 0, none⟩ = some (.slice B m d) := by simpa using HY6.out.cell 0
    have l7 := HX6.out.lt
    have l8 := HY6.out.lt
    have hck := HO6.out.cellAt k (by omega)
    have hkl : k < (vS (List.take (k + 1) (hs ++ [(none, 0, 0)]) ++ List.take (n - k) (List.drop k (hs ++ [(none, 0, 0)])))).length := by
      have := own_len HO6.out; omega
    rw [List.getElem?_eq_getElem hkl] at hck
    generalize (vS (List.take (k + 1) (hs ++ [(none, 0, 0)]) ++ List.take (n - k) (List.drop k (hs ++ [(none, 0, 0)]))))[k] = z at hck
    have hfk := HO6.out.frozenAt k
    have hg6l := own_lt HO6.out g3 rfl
    have hst := (HO6.out.stored k (.slice B m d)).1
    rw [show (vS (List.take (k + 1) (hs ++ [(none, 0, 0)]) ++ List.take (n - k) (List.drop k (hs ++ [(none, 0, 0)])))).set k (.slice B m d) = vS (hs.take k ++ [(B, m, d)] ++ hs.drop k) from by rw [← ins_set hs (none, 0, 0) (B, m, d) n k HO.out.hlen hkn]; simp [vS, List.map_set, hd]] at hst
    have HST := Lib.hid hst
    obtain ⟨hg6a, hg6b⟩ := hg6l
    have hkI2 : (k : Int) < (n : Int) + 1 := by omega
    have HRW : Hid (∀ x t, CRow wq x t → CRow (w6.setCell ⟨g3, k, none⟩ (.slice B m d)) x t) := fun x t h => by
      have h4 := HR4.out x t h
      have ne := h4.apart HO4.out
      exact (h4.grown HG6.out (fun g e r => ne g e r)).grown (grown_set (World.grownBy.refl _ (some g3)) rfl _) (fun g e r => ne g e r)
    have HGW : Hid (w.grownBy (w6.setCell ⟨g3, k, none⟩ (.slice B m d)) (ob A)) := by
      have hh : ob A = some g3 ∨ w.heap.size ≤ g3 := by
        rcases HAT.out with h | h
        · exact .inl h.symm
        · simp only [ob, Option.map_some, Option.some.injEq, World.size_alloc] at h; right; omega
      exact grown_setC (grown_comp2 HG4.out HG6.out (fun g h => by injection h with h; subst h; exact hh)) hh _
    clear hst hc5 he5 ho5 hg5 hc6 he6 d2 l6 hs1 hs2
    go_wp2_with fail
    go_ret
    refine ⟨some ⟨g3, 0, none⟩, n + 1, c5, hs.take k ++ [(B, m, d)] ++ hs.drop k, rfl, ⟨HST.out, ?_, ?_⟩, HGW.out, ?_⟩
    · rw [HV.out]; simp only [List.length_append, List.length_take, List.length_drop, List.length_cons, List.length_nil, HFL.out]; omega
    · intro i x t h1 h2
      rw [HV.out] at h2
      rcases ins_rows (by rw [HO.out.hlen, HFL.out]) (by rw [HFL.out]; exact hkn) i x t h1 h2 with ⟨j, h3, h4⟩ | ⟨h3, h4⟩
      · exact HRW.out x t (HOq.out.row j x t h3 h4)
      · subst h3 h4
        exact HRW.out _ _ (HF1.out.below hbq)
    · intro g e
      rcases HAT.out with h | h
      · exact .inl (h ▸ e)
      · rw [h] at e
        simp only [World.size_alloc, Option.some.injEq] at e
        right; omega
end Go.Proofs.Ytagkopemcabkpaa
