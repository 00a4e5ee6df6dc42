/- Blocks of integers and of cells: made, written element by element, owned. -/
import Derived.Test.YteelmhmdnljjnaaGreatApp
namespace Go.Proofs.YteelmhmdnljjnaaGreat
open Go.RowKit
set_option linter.unusedVariables false

theorem vI_set (xs : List Int) (k : Nat) (v : Int) : (vI xs).toArray.setIfInBounds k (.int .i64 v) = (vI (xs.set k v)).toArray := by
  simp [vI, List.map_set]
theorem vS_set (xs : List H) (k : Nat) (v : H) : (vS xs).toArray.setIfInBounds k (hd v) = (vS (xs.set k v)).toArray := by
  simp [vS, List.map_set]
theorem vC_set_list (xs : List C) (k : Nat) (v : C) : ((vC xs).set (k * 2) (.int .i64 v.1)).set (k * 2 + 1) (.int .i64 v.2) = vC (xs.set k v) := by
  induction xs generalizing k with
  | nil => simp [vC]
  | cons p t ih =>
    cases k with
    | zero => simp [vC]
    | succ k =>
      rw [show (k + 1) * 2 = k * 2 + 1 + 1 from by omega]
      simp [vC, ih k]
theorem vC_set (xs : List C) (k : Nat) (v : C) : ((vC xs).toArray.setIfInBounds (k * 2) (.int .i64 v.1)).setIfInBounds (k * 2 + 1) (.int .i64 v.2) = (vC (xs.set k v)).toArray := by
  rw [← vC_set_list]; simp

section
variable {w w' : World} {g : Nat} {t : TypeId}
theorem blkI_cell {ys : List Int} (h : Blk w g t (vI ys).toArray) {k : Nat} (hk : k < ys.length) : w.cell? ⟨g, k, none⟩ = some (.int .i64 ys[k]) := by
  rw [h.cell k]; simp [vI, hk]
theorem blkC_cell {ys : List C} (h : Blk w g t (vC ys).toArray) {k : Nat} (hk : k < ys.length) : w.cell? ⟨g, k * 2, none⟩ = some (.int .i64 ys[k].1) ∧ w.cell? ⟨g, k * 2 + 1, none⟩ = some (.int .i64 ys[k].2) := by
  rw [h.cell, h.cell]
  exact ⟨by simpa using vC_get1 ys k hk, by simpa using vC_get2 ys k hk⟩
theorem blkS_cell {ys : List H} (h : Blk w g t (vS ys).toArray) {k : Nat} (hk : k < ys.length) : w.cell? ⟨g, k, none⟩ = some (.slice ys[k].1 ys[k].2.1 ys[k].2.2) := by
  rw [h.cell k]; simp [vS, hd, hk]
theorem blkI_set {ys : List Int} (h : Blk w g t (vI ys).toArray) (k : Nat) (v : Int) : Blk (w.setCell ⟨g, k, none⟩ (.int .i64 v)) g t (vI (ys.set k v)).toArray := by
  rw [← vI_set]; exact h.set_ k _
theorem blkS_set {ys : List H} (h : Blk w g t (vS ys).toArray) (k : Nat) (a : Option Addr) (n c : Nat) : Blk (w.setCell ⟨g, k, none⟩ (.slice a n c)) g t (vS (ys.set k (a, n, c))).toArray := by
  rw [← vS_set]; exact h.set_ k _
theorem blkC_set {ys : List C} (h : Blk w g t (vC ys).toArray) (k : Nat) (a b : Int) : Blk ((w.setCell ⟨g, k * 2, none⟩ (.int .i64 a)).setCell ⟨g, k * 2 + 1, none⟩ (.int .i64 b)) g t (vC (ys.set k (a, b))).toArray := by
  rw [← vC_set]; exact (h.set_ (k * 2) _).set_ (k * 2 + 1) _
theorem own_blk {cs : Array Value} (h : Blk w g t cs) {base size n : Nat} (hs : cs.size = n * size) (hb : base ≤ g) (hm : n ≤ maxLen) : w.ownsRow base t size (.slice (some ⟨g, 0, none⟩) n n) n cs.toList :=
  ⟨by simpa using hs, .inr ⟨g, n, cs, rfl, hb, h, Nat.le_refl _, hm, hs, by rw [← hs, ← Array.length_toList, List.take_length]⟩⟩
theorem own_at {base size n c : Nat} {A : Option Addr} {xs : List Value} (h : w.ownsRow base t size (.slice A n c) n xs) (hn : 0 < n) : ∃ g, A = some ⟨g, 0, none⟩ ∧ base ≤ g ∧ g < w.heap.size := by
  rcases h.2 with ⟨_, rfl⟩ | ⟨g, cap, cur, hv, hb, hg, _⟩
  · omega
  · injection hv with hA
    exact ⟨g, hA, hb, (Array.getElem?_eq_some_iff.1 hg).1⟩
theorem grown_set {a w : World} {row : Option Nat} (h : a.grownBy w row) {p : Addr} (hp : row = some p.block) (u : Value) : a.grownBy (w.setCell p u) row :=
  ⟨h.os, h.tape, h.output, by simpa [World.setCell] using h.size, fun k hk hne => by
    rw [Below.heap_setCell w p u k (by rintro rfl; exact hne hp.symm)]; exact h.block k hk hne⟩
theorem grown_drewN {a w : World} {row : Option Nat} (h : a.grownBy w row) (n : Nat) : a.grownBy (w.drewN n) row := ⟨h.os, h.tape, h.output, h.size, h.block⟩
theorem grown_below {a w w' : World} {row : Option Nat} (h : a.grownBy w row) (hb : Below w.heap.size w w') : a.grownBy w' row :=
  ⟨hb.os.trans h.os, hb.tape.trans h.tape, hb.output.trans h.output, Nat.le_trans h.size hb.size, fun k hk hne => (hb.block k (Nat.lt_of_lt_of_le hk h.size)).trans (h.block k hk hne)⟩
end

/-- Zeros. -/
def zeI (n : Nat) : List Int := List.replicate n 0
def zeC (n : Nat) : List C := List.replicate n (0, 0)
def zeS (n : Nat) : List H := List.replicate n (none, 0, 0)
theorem zeI_length (n : Nat) : (zeI n).length = n := by simp [zeI]
theorem zeC_length (n : Nat) : (zeC n).length = n := by simp [zeC]
theorem zeS_length (n : Nat) : (zeS n).length = n := by simp [zeS]
theorem vC_zeros (n : Nat) : (madeCells #[.int .i64 0, .int .i64 0] (n * 2)).toList = vC (zeC n) := by
  have h : ∀ m, m ≤ n → ((List.range (m * 2)).map fun i => (#[Value.int .i64 0, .int .i64 0] : Array Value)[i % 2]!) = vC (zeC m) := by
    intro m
    induction m with
    | zero => intro _; rfl
    | succ m ih =>
      intro hm
      rw [show (m + 1) * 2 = m * 2 + 1 + 1 from by omega, List.range_succ, List.range_succ]
      simp only [List.map_append, ih (by omega), List.map_cons, List.map_nil, List.append_assoc, List.cons_append, List.nil_append]
      have e : zeC (m + 1) = zeC m ++ [(0, 0)] := by simp [zeC, List.replicate_succ']
      rw [e, vC_append]
      congr 1
      rw [show m * 2 % 2 = 0 from by omega, show (m * 2 + 1) % 2 = 1 from by omega]
      rfl
  simpa [madeCells] using h n (Nat.le_refl _)
theorem mk_I (w : World) (n : Nat) (hn : n ≤ 1048576) : (Instr.makeSlice 22 (.int .i64 (n : Int)) (.int .i64 (n : Int))).run Tryz.prog w = .ok (.slice (some ⟨w.heap.size, 0, none⟩) n n) (w.alloc (.cells (vI (zeI n)).toArray 3)) := by
  obtain ⟨i0, hi, hz0, hz1, hz2⟩ := info_parts infoI
  have h := run_make (P := Tryz.prog) w 22 3 i0 _ Tryz.underlying22 hi hz0 .i64 .i64 (n : Int) (n : Int) (by omega) (Int.le_refl _) (by rw [hz2]; omega) (by omega)
  rw [h, hz1]
  have e : madeCells (Value.int .i64 0).cells ((n : Int).toNat * 1) = (vI (zeI n)).toArray := by
    apply Array.ext'
    rw [show (Value.int .i64 0).cells = #[.int .i64 0] from rfl, toList_madeCells_one]
    simp [vI, zeI]
  rw [e]
  simp
theorem mk_C (w : World) (n : Nat) (hn : n ≤ 1048576) : (Instr.makeSlice 59 (.int .i64 (n : Int)) (.int .i64 (n : Int))).run Tryz.prog w = .ok (.slice (some ⟨w.heap.size, 0, none⟩) n n) (w.alloc (.cells (vC (zeC n)).toArray 71)) := by
  obtain ⟨i0, hi, hz0, hz1, hz2⟩ := info_parts infoC
  have h := run_make (P := Tryz.prog) w 59 71 i0 _ Tryz.underlying59 hi hz0 .i64 .i64 (n : Int) (n : Int) (by omega) (Int.le_refl _) (by rw [hz2]; omega) (by omega)
  rw [h, hz1]
  have e : madeCells (Value.agg #[.int .i64 0, .int .i64 0]).cells ((n : Int).toNat * 2) = (vC (zeC n)).toArray := by
    apply Array.ext'
    rw [show (Value.agg #[.int .i64 0, .int .i64 0]).cells = #[.int .i64 0, .int .i64 0] from rfl, ← vC_zeros]
    simp
  rw [e]
  simp
/-- What has been copied so far, and zeros behind it. -/
theorem fill_step {α : Type} (xs : List α) (z : α) (k : Nat) (hk : k < xs.length) : (xs.take k ++ List.replicate (xs.length - k) z).set k xs[k] = xs.take (k + 1) ++ List.replicate (xs.length - (k + 1)) z := by
  rw [List.set_append_right _ _ (by rw [List.length_take]; omega), List.length_take, Nat.min_eq_left (by omega), Nat.sub_self,
    show xs.length - k = (xs.length - (k + 1)) + 1 from by omega, List.replicate_succ, List.set_cons_zero, List.take_succ_eq_append_getElem hk, List.append_assoc]
  rfl
theorem fill_len {α : Type} (xs : List α) (z : α) (k : Nat) (hk : k ≤ xs.length) : (xs.take k ++ List.replicate (xs.length - k) z).length = xs.length := by simp; omega
theorem fill_end {α : Type} (xs : List α) (z : α) : (xs.take xs.length ++ List.replicate (xs.length - xs.length) z) = xs := by simp

/-- k, k + 1, .. -/
def io (k : Int) (n : Nat) : List Int := (List.range n).map fun (i : Nat) => k + (i : Int)
theorem io_length (k : Int) (n : Nat) : (io k n).length = n := by simp [io]
theorem io_succ (k : Int) (n : Nat) : io k (n + 1) = io k n ++ [k + n] := by simp [io, List.range_succ]
theorem io_get (k : Int) (n i : Nat) (h : i < (io k n).length) : (io k n)[i] = k + i := by simp [io]
theorem mark_step (k : Int) (xs : List Int) (j : Nat) (hj : j < xs.length) : (io k j ++ xs.drop j).set j (k + j) = io k (j + 1) ++ xs.drop (j + 1) := by
  rw [List.set_append_right _ _ (by rw [io_length]; omega), io_length, Nat.sub_self, io_succ, List.append_assoc, List.drop_eq_getElem_cons hj]
  rfl
end Go.Proofs.YteelmhmdnljjnaaGreat
