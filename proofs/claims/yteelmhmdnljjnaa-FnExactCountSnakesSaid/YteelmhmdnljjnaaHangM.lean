/- Marks on the cells of a shape; blocks of booleans. -/
import Derived.Test.YteelmhmdnljjnaaSnakeM
import Derived.Test.YteelmhmdnljjnaaMem
namespace Go.Proofs.Yteelmhmdnljjnaa
open Go.RowKit
set_option linter.unusedVariables false
structure Marks (xs : List C) (fl : List Bool) : Prop where
  len : fl.length = xs.length
  h0 : fl[0]? = some true
  hin : ∀ i (h : i < xs.length), fl[i]? = some true → Rch xs (s0 xs) xs[i]
theorem Marks.init (xs : List C) (h : 1 ≤ xs.length) : Marks xs ((List.replicate xs.length false).set 0 true) := by
  refine ⟨by simp, by rw [List.getElem?_set_self (by simp; omega)], fun i hi hf => ?_⟩
  rcases Nat.eq_zero_or_pos i with rfl | h'
  · have : xs[0] = s0 xs := by simp [s0, List.getD_eq_getElem?_getD, hi]
    rw [this]; exact .base
  · rw [List.getElem?_set_ne (by omega), List.getElem?_replicate, if_pos hi] at hf
    cases hf
theorem cnt_init (n : Nat) (h : 1 ≤ n) : cnt ((List.replicate n false).set 0 true) = 1 := by
  rw [cnt_set _ _ (by rw [List.getElem?_replicate, if_pos (by omega)])]
  have : cnt (List.replicate n false) = 0 := by unfold cnt; rw [List.count_replicate]; rfl
  omega
theorem Marks.set_ {xs : List C} {fl : List Bool} (h : Marks xs fl) {k j : Nat} (hk : k < xs.length) (hj : j < xs.length) (hf : fl[k]? = some true) (hn : near xs[k] xs[j] = true) : Marks xs (fl.set j true) := by
  refine ⟨by rw [List.length_set]; exact h.len, ?_, fun i hi hg => ?_⟩
  · by_cases e : j = 0
    · subst e; rw [List.getElem?_set_self (by rw [h.len]; exact hj)]
    · rw [List.getElem?_set_ne e]; exact h.h0
  · by_cases e : j = i
    · subst e; exact .step (h.hin k hk hf) (List.getElem_mem hj) hn
    · rw [List.getElem?_set_ne e] at hg; exact h.hin i hi hg
def Cl (xs : List C) (fl : List Bool) (i j : Nat) : Prop :=
  ∀ a b (ha : a < xs.length) (hb : b < xs.length), (a < i ∨ a = i ∧ b < j) → fl[a]? = some true → near xs[a] xs[b] = true → fl[b]? = some true
theorem Cl.zero (xs : List C) (fl : List Bool) : Cl xs fl 0 0 := fun a b _ _ h => by omega
theorem Cl.row {xs : List C} {fl : List Bool} {k j : Nat} (h : Cl xs fl k j) (hj : xs.length ≤ j) : Cl xs fl (k + 1) 0 := fun a b ha hb h1 => h a b ha hb (by omega)
theorem Cl.step {xs : List C} {fl : List Bool} {k j : Nat} (h : Cl xs fl k j) (hk : k < xs.length) (hj : j < xs.length) (hs : fl[k]? = some true → near xs[k] xs[j] = true → fl[j]? = some true) : Cl xs fl k (j + 1) := by
  intro a b ha hb h1
  by_cases e : a = k ∧ b = j
  · obtain ⟨rfl, rfl⟩ := e; exact hs
  · exact h a b ha hb (by omega)
theorem conn_marks {xs : List C} {fl : List Bool} (h : Marks xs fl) (hs : isShape xs = true) {k : Nat} (hc : Cl xs fl k 0) (hk : xs.length ≤ k) : conn xs = decide (cnt fl = xs.length) :=
  conn_of_marks xs fl h.len h.h0 (shape_nodup hs) h.hin fun i j hi hj => hc i j hi hj (.inl (by omega))
def boolOf (v : Value) : Nat := match v with
  | .bool true => 1
  | _ => 0

def vL (xs : List Bool) : List Value := xs.map .bool
theorem vL_length (xs : List Bool) : (vL xs).length = xs.length := by simp [vL]
theorem vL_set (xs : List Bool) (k : Nat) (v : Bool) : (vL xs).toArray.setIfInBounds k (.bool v) = (vL (xs.set k v)).toArray := by
  simp [vL, List.map_set]
theorem blkL_cell {w : World} {g : Nat} {t : TypeId} {ys : List Bool} (h : Blk w g t (vL ys).toArray) {k : Nat} {b : Bool} (hk : ys[k]? = some b) : w.cell? ⟨g, k, none⟩ = some (.bool b) := by
  rw [h.cell k]; simp [vL, hk]
theorem blkL_set {w : World} {g : Nat} {t : TypeId} {ys : List Bool} (h : Blk w g t (vL ys).toArray) (k : Nat) (v : Bool) : Blk (w.setCell ⟨g, k, none⟩ (.bool v)) g t (vL (ys.set k v)).toArray := by
  rw [← vL_set]; exact h.set_ k _
theorem infoL : (Try.prog.info? 4).map (fun i => (i.zero, i.size, i.bytes)) = some (some (.bool false), 1, 1) := by kernel_rfl
theorem mk_L (w : World) (n : Nat) (hn : n ≤ 1048576) : (Instr.makeSlice 54 (.int .i64 (n : Int)) (.int .i64 (n : Int))).run Try.prog w = .ok (.slice (some ⟨w.heap.size, 0, none⟩) n n) (w.alloc (.cells (vL (List.replicate n false)).toArray 4)) := by
  obtain ⟨i0, hi, hz0, hz1, hz2⟩ := info_parts infoL
  have h := run_make (P := Try.prog) w 54 4 i0 _ Try.underlying54 hi hz0 .i64 .i64 (n : Int) (n : Int) (by omega) (Int.le_refl _) (by rw [hz2]; omega) (by omega)
  rw [h, hz1]
  have e : madeCells (Value.bool false).cells ((n : Int).toNat * 1) = (vL (List.replicate n false)).toArray := by
    apply Array.ext'
    rw [show (Value.bool false).cells = #[.bool false] from rfl, toList_madeCells_one]
    simp [vL]
  rw [e]
  simp
end Go.Proofs.Yteelmhmdnljjnaa
