/- The laws' own functions on regions. -/
import Derived.Test.YteelmhmdnljjnaaGreatLawI
import Derived.Test.YteelmhmdnljjnaaGreatMem
import Derived.Outline
import Derived.WalkLawsBesides
import Derived.WalkSpells
import Derived.BigQuiet
import Derived.Deep.QuietTactic
import Derived.Deep.RegionHeld3
import Derived.Deep.RegionWith
import Derived.Deep.DeepCutAuto
import Derived.Deep.CutBlock
import Derived.Deep.DrawnRows
namespace Go.Proofs.YteelmhmdnljjnaaGreat
open Go.RowKit
set_option linter.unusedVariables false
attribute [local go_sem ↓] Go.wp_at_zero Go.wp_at_succ

theorem own_nI {w : World} {base e n c : Nat} {A : Option Addr} {xs : List Int} (h : w.ownsRow base e 1 (.slice A n c) n (vI xs)) : xs.length = n := by
  have := own_len h
  rw [vI_length] at this
  omega
theorem own_far {w : World} {base e size n c : Nat} {A : Option Addr} {xs : List Value} {p : Addr} (h : w.ownsRow base e size (.slice A n c) n xs) (u : Value) (hp : ∀ g, ob A = some g → g ≠ p.block) : (w.setCell p u).ownsRow base e size (.slice A n c) n xs :=
  h.kept (grown_set (World.grownBy.refl w (some p.block)) rfl u) (by
    rw [ownBlock_slice]
    cases hA : ob A with
    | none => exact .inl rfl
    | some g => right; intro e; injection e with e; exact hp g hA e)
theorem own_kept2 {w w' : World} {base e size n c : Nat} {A : Option Addr} {xs : List Value} {X : Option Addr} (h : w.ownsRow base e size (.slice A n c) n xs) (hg : w.grownBy w' (ob X)) (hn : ∀ g, ob A = some g → ob X ≠ some g) : w'.ownsRow base e size (.slice A n c) n xs :=
  h.kept hg (by
    rw [ownBlock_slice]
    cases hA : ob A with
    | none => exact .inl rfl
    | some g => right; intro e; exact hn g hA e.symm)
theorem grown_alloc0 {w w' : World} {o : Obj} {row : Option Nat} (h : (w.alloc o).grownBy w' row) : w.grownBy w' row :=
  ⟨h.os, h.tape, h.output, by have := h.size; simp at this; omega, fun k hk hne => (h.block k (by simp; omega) hne).trans (Below.heap_alloc w o k hk)⟩
theorem szIntS_l (A : Option Addr) (n c : Nat) (m : Int) (w : World) (hm : n ≤ maxLen) (h0 : 0 ≤ m) (h1 : m ≤ 1048576) :
    Calls Tryz.prog 37 #[.slice A n c, .int .i64 m] w (Ret w (.int .i64 (if m < (n : Int) then -1 else m - n))) := by
  unfold maxLen at hm
  by_cases h : m < (n : Int)
  · have hlt : m - (n : Int) < 0 := by omega
    go_enter Tryz.func37, Tryz.ntmps37
    go_wp2
    go_ret
    exact ⟨rfl, (by (repeat (first | with_reducible exact Below.refl _ _ | with_reducible assumption | with_reducible apply bel_alloc | with_reducible apply bel_drew | with_reducible apply bel_drewN | ((with_reducible refine bel_set ?_ ?_); rotate_left; (simp <;> omega)) | (with_reducible refine bel_trans ?_ (by with_reducible assumption)))))⟩
  · have hlt : ¬ m - (n : Int) < 0 := by omega
    go_enter Tryz.func37, Tryz.ntmps37
    go_wp2
    go_ret
    exact ⟨rfl, (by (repeat (first | with_reducible exact Below.refl _ _ | with_reducible assumption | with_reducible apply bel_alloc | with_reducible apply bel_drew | with_reducible apply bel_drewN | ((with_reducible refine bel_set ?_ ?_); rotate_left; (simp <;> omega)) | (with_reducible refine bel_trans ?_ (by with_reducible assumption)))))⟩
/-- What is left behind a region's rows. -/
def szR (m : Int) (n : Nat) : Int := if m < (n : Int) then -1 else m - n
theorem szRegion_l (W : Int) (A : Option Addr) (n c : Nat) (m : Int) (w : World) (hn : n ≤ maxLen) (h0 : 0 ≤ m) (h1 : m ≤ 1048576) :
    Calls Tryz.prog 10 #[.agg #[.int .i64 W, .slice A n c], .int .i64 m] w (Ret w (.int .i64 (szR m n))) := by
  by_cases hlt : m < (n : Int)
  · have HV : Hid (szR m n = -1) := if_pos hlt
    go_enter Tryz.func10, Tryz.ntmps10
    go_wp2_with fail
    refine (szIntS_l A n c m _ hn h0 h1).mono ?_
    rw [if_pos hlt]
    rintro e w1 ⟨rfl, hb1⟩
    go_wp2_with fail
    go_ret
    exact ⟨by rw [HV.out]; rfl, (by (repeat (first | with_reducible exact Below.refl _ _ | with_reducible assumption | with_reducible apply bel_alloc | with_reducible apply bel_drew | with_reducible apply bel_drewN | ((with_reducible refine bel_set ?_ ?_); rotate_left; (simp <;> omega)) | (with_reducible refine bel_trans ?_ (by with_reducible assumption)))))⟩
  · have HV : Hid (szR m n = m - n) := if_neg hlt
    have hd : ¬ m - (n : Int) < 0 := by omega
    go_enter Tryz.func10, Tryz.ntmps10
    go_wp2_with fail
    refine (szIntS_l A n c m _ hn h0 h1).mono ?_
    rw [if_neg (by omega)]
    rintro e w1 ⟨rfl, hb1⟩
    go_wp2_with fail
    go_ret
    exact ⟨by rw [HV.out]; rfl, (by (repeat (first | with_reducible exact Below.refl _ _ | with_reducible assumption | with_reducible apply bel_alloc | with_reducible apply bel_drew | with_reducible apply bel_drewN | ((with_reducible refine bel_set ?_ ?_); rotate_left; (simp <;> omega)) | (with_reducible refine bel_trans ?_ (by with_reducible assumption)))))⟩
/-- A result that is a region whose rows are the call's own. -/
def RetR (w : World) (W : Int) (rows : List Int) (e : Ending) (w' : World) : Prop :=
  ∃ A n c, e = .returned (.agg #[.int .i64 W, .slice A n c]) ∧ w'.ownsRow w.heap.size 3 1 (.slice A n c) n (vI rows) ∧ Below w.heap.size w w'
theorem toRegion_l (W : Int) (A : Option Addr) (n c : Nat) (rows : List Int) (w : World) (hr : Rd w A (vI rows)) (hl : rows.length = n) (hn : n ≤ 1048576) :
    Calls Tryz.prog 13 #[.agg #[.int .i64 W, .slice A n c]] w (RetR w W rows) := by
  have HL := Lib.hid hl
  clear hl
  go_enter Tryz.func13, Tryz.ntmps13
  go_wp2_with fail
  refine (toIntS_l _ _ _ rows _ (hr.below (by (repeat (first | with_reducible exact Below.refl _ _ | with_reducible assumption | with_reducible apply bel_alloc | with_reducible apply bel_drew | with_reducible apply bel_drewN | ((with_reducible refine bel_set ?_ ?_); rotate_left; (simp <;> omega)) | (with_reducible refine bel_trans ?_ (by with_reducible assumption)))))) HL.out hn).mono ?_
  rintro e w1 ⟨B, q, cq, rfl, ho, hb1⟩
  obtain rfl : q = n := (own_nI ho).symm.trans HL.out
  have hsz := hb1.size
  simp only [World.size_alloc] at hsz
  have hB2 : Blk w1 (w.heap.size + 1 + 1) 29 #[.int .i64 W, .slice none 0 0] := Blk.below (by simpa using Blk.new ((w.alloc (Obj.cells #[Value.int IntKind.i64 W, Value.slice A q c] 24)).alloc (Obj.cells #[Value.int IntKind.i64 0, Value.slice none 0 0] 29)) 29 #[.int .i64 W, .slice none 0 0]) hb1
  have hB1 : Blk w1 (w.heap.size + 1) 29 #[.int .i64 0, .slice none 0 0] := Blk.below (Blk.alloc (by simpa using Blk.new (w.alloc (Obj.cells #[Value.int IntKind.i64 W, Value.slice A q c] 24)) 29 #[.int .i64 0, .slice none 0 0]) _) hb1
  have c20 : w1.cell? ⟨w.heap.size + 1 + 1, 0, none⟩ = some (.int .i64 W) := by simpa using hB2.cell 0
  have c21 : w1.cell? ⟨w.heap.size + 1 + 1, 1, none⟩ = some (.slice none 0 0) := by simpa using hB2.cell 1
  have c10 : w1.cell? ⟨w.heap.size + 1, 0, none⟩ = some (.int .i64 0) := by simpa using hB1.cell 0
  have c11 : w1.cell? ⟨w.heap.size + 1, 1, none⟩ = some (.slice none 0 0) := by simpa using hB1.cell 1
  have z20 := hB2.frozen 0
  have z21 := hB2.frozen 1
  have z10 := hB1.frozen 0
  have z11 := hB1.frozen 1
  have HO := Lib.hid ho
  have hD := (hB1.far (p := ⟨w.heap.size + 1 + 1, 1, none⟩) (by simp) (.slice B q cq)).set_ 0 (.int .i64 W)
  have e0 : ((w1.setCell ⟨w.heap.size + 1 + 1, 1, none⟩ (.slice B q cq)).setCell ⟨w.heap.size + 1, 0, none⟩ (.int .i64 W)).cell? ⟨w.heap.size + 1, 0, none⟩ = some (.int .i64 W) := by simpa using hD.cell 0
  have e1 : (((w1.setCell ⟨w.heap.size + 1 + 1, 1, none⟩ (.slice B q cq)).setCell ⟨w.heap.size + 1, 0, none⟩ (.int .i64 W)).setCell ⟨w.heap.size + 1, 1, none⟩ (.slice B q cq)).cell? ⟨w.heap.size + 1, 1, none⟩ = some (.slice B q cq) := by simpa using (hD.set_ 1 (.slice B q cq)).cell 1
  have E0 := Lib.hid e0
  have E1 := Lib.hid e1
  clear hB1 hB2 ho hD e0 e1
  go_wp2_with fail
  have e0 := E0.out
  have e1 := E1.out
  have ne : ∀ g, ob B = some g → g ≠ w.heap.size + 1 + 1 ∧ g ≠ w.heap.size + 1 := fun g e => by have := (own_lt HO.out g e).1; simp at this; omega
  exact bodyPost_ret (v := .agg #[.int .i64 W, .slice B q cq]) (by simp [results, Tryz.results13, go_sem, e0, e1]) rfl
    ⟨_, _, _, rfl, own_far (own_far (own_far (own_base HO.out (by simp; omega)) _ fun g e => (ne g e).1) _ fun g e => (ne g e).2) _ fun g e => (ne g e).2, (by (repeat (first | with_reducible exact Below.refl _ _ | with_reducible assumption | with_reducible apply bel_alloc | with_reducible apply bel_drew | with_reducible apply bel_drewN | ((with_reducible refine bel_set ?_ ?_); rotate_left; (simp <;> omega)) | (with_reducible refine bel_trans ?_ (by with_reducible assumption)))))⟩
theorem eqRegion_t (W : Int) (A A2 : Option Addr) (n c n2 c2 : Nat) (rows : List Int) (w : World) (hr : Rd w A (vI rows)) (hr2 : Rd w A2 (vI rows)) (hl : rows.length = n) (hl2 : rows.length = n2) (hn : n ≤ 1048576) :
    Calls Tryz.prog 17 #[.agg #[.int .i64 W, .slice A n c], .agg #[.int .i64 W, .slice A2 n2 c2]] w (Ret w (.bool true)) := by
  have HL := Lib.hid hl
  have HL2 := Lib.hid hl2
  clear hl hl2
  go_enter Tryz.func17, Tryz.ntmps17
  go_wp2_with fail
  refine (eqIntS_t _ _ _ _ _ _ rows _ (hr.below (by (repeat (first | with_reducible exact Below.refl _ _ | with_reducible assumption | with_reducible apply bel_alloc | with_reducible apply bel_drew | with_reducible apply bel_drewN | ((with_reducible refine bel_set ?_ ?_); rotate_left; (simp <;> omega)) | (with_reducible refine bel_trans ?_ (by with_reducible assumption)))))) (hr2.below (by (repeat (first | with_reducible exact Below.refl _ _ | with_reducible assumption | with_reducible apply bel_alloc | with_reducible apply bel_drew | with_reducible apply bel_drewN | ((with_reducible refine bel_set ?_ ?_); rotate_left; (simp <;> omega)) | (with_reducible refine bel_trans ?_ (by with_reducible assumption)))))) HL.out HL2.out (by omega)).mono ?_
  rintro e w1 ⟨rfl, hb1⟩
  go_wp2_with fail
  go_ret
  exact ⟨rfl, (by (repeat (first | with_reducible exact Below.refl _ _ | with_reducible assumption | with_reducible apply bel_alloc | with_reducible apply bel_drew | with_reducible apply bel_drewN | ((with_reducible refine bel_set ?_ ?_); rotate_left; (simp <;> omega)) | (with_reducible refine bel_trans ?_ (by with_reducible assumption)))))⟩
theorem markRegion_l (W : Int) (A : Option Addr) (n c base : Nat) (k : Int) (rows : List Int) (w : World) (ho : w.ownsRow base 3 1 (.slice A n c) n (vI rows)) (hn : n ≤ 1048576) (hk0 : 0 ≤ k) (hk1 : k ≤ 1099511627776) :
    Calls Tryz.prog 33 #[.agg #[.int .i64 W, .slice A n c], .int .i64 k] w (MarkP w base 3 1 A n c (vI (io k n)) (k + n)) := by
  go_enter Tryz.func33, Tryz.ntmps33
  go_wp2_with fail
  refine (markIntS_l _ _ _ base k rows _ (ho.alloc _) (by omega) hk0 hk1).mono ?_
  rintro e w1 ⟨rfl, ho2, hg2⟩
  have HO := Lib.hid ho2
  have HG := Lib.hid hg2
  clear ho2 hg2
  go_wp2_with fail
  go_ret
  exact ⟨rfl, HO.out, grown_alloc0 HG.out⟩
end Go.Proofs.YteelmhmdnljjnaaGreat
