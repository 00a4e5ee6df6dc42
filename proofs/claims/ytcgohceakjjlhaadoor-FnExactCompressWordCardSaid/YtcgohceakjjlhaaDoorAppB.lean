/- append at bytes, inside a region that draws its order too; bytes made a string. -/
import Derived.Test.YtcgohceakjjlhaaDoorApp
import Derived.Laws.BytesArg
namespace Go.Proofs.YtcgohceakjjlhaaDoor
open Go.RowKit
set_option linter.unusedVariables false
theorem infoB : (Tryd.prog.info? 5).map (fun i => (i.zero, i.size, i.bytes)) = some (some (.int .u8 0), 1, 1) := by kernel_rfl
section
variable (w : World) {ops : Array Oper} {rest : List Oper} {o : Oper} {a : Act} {Q : Exit → Act → World → Prop}
theorem wpB (s x : Operand) {K : Act → World → Prop} (ho : o.op = .call { callee := .builtin .append, args := #[s, x], argTypes := #[55, 55] })
    (base : Nat) (A : Option Addr) (n c : Nat) (l : List UInt8) (hs : a.eval s = .slice A n c) (hown : w.ownsRow base 5 1 (.slice A n c) n (vB l))
    (A2 : Option Addr) (m c2 : Nat) (l2 : List UInt8) (hx : a.eval x = .slice A2 m c2) (hr : Rd w A2 (vB l2)) (hl : l2.length = m) (hb : n + m ≤ 1099511627776) (hbase : base ≤ w.heap.size)
    (h : ∀ A' c' w', w'.ownsRow base 5 1 (.slice A' (n + m) c') (n + m) (vB (l ++ l2)) → w.grownBy w' (ob A) → (ob A' = ob A ∨ ob A' = some w.heap.size) → K (a.put o.dst (.slice A' (n + m) c')) w') :
    o.wp Tryd.prog a w K Q := by
  obtain ⟨i0, hi, hz0, hz1, hz2⟩ := info_parts infoB
  refine wp_app w s x _ ho base _ i0 _ 1 1 Tryd.underlying55 hi hz0 hz1 hz2 rfl (by omega) A n c _ hs hown A2 m c2 _ hx hr (by rw [vB_length, hl]; omega) (vB_one _) (by unfold maxLen; omega) (by omega) hbase ?_
  intro A' c' w' h1
  rw [← vB_append] at h1
  exact h A' c' w' h1
theorem app_B (hgd : o.guard = none) (s x : Operand) (ho : o.op = .call { callee := .builtin .append, args := #[s, x], argTypes := #[55, 55] })
    (base : Nat) (A : Option Addr) (n c : Nat) (l : List UInt8) (hs : a.eval s = .slice A n c) (hown : w.ownsRow base 5 1 (.slice A n c) n (vB l))
    (A2 : Option Addr) (m c2 : Nat) (l2 : List UInt8) (hx : a.eval x = .slice A2 m c2) (hr : Rd w A2 (vB l2)) (hl : l2.length = m) (hb : n + m ≤ 1099511627776) (hbase : base ≤ w.heap.size)
    (h : ∀ A' c' w', w'.ownsRow base 5 1 (.slice A' (n + m) c') (n + m) (vB (l ++ l2)) → w.grownBy w' (ob A) → (ob A' = ob A ∨ ob A' = some w.heap.size) → wpList Tryd.prog ops Q rest (a.put o.dst (.slice A' (n + m) c')) w') :
    wpList Tryd.prog ops Q (o :: rest) a w :=
  wpList_plain hgd fun _ hK => wpB w s x ho base A n c l hs hown A2 m c2 l2 hx hr hl hb hbase fun A' c' w' h1 h2 h3 => hK _ _ (h A' c' w' h1 h2 h3)
theorem step_B {K : Act → World → Prop} {E : Prop} (hgd : o.guard = none) (s x : Operand) (ho : o.op = .call { callee := .builtin .append, args := #[s, x], argTypes := #[55, 55] })
    (base : Nat) (A : Option Addr) (n c : Nat) (l : List UInt8) (hs : a.eval s = .slice A n c) (hown : w.ownsRow base 5 1 (.slice A n c) n (vB l))
    (A2 : Option Addr) (m c2 : Nat) (l2 : List UInt8) (hx : a.eval x = .slice A2 m c2) (hr : Rd w A2 (vB l2)) (hl : l2.length = m) (hb : n + m ≤ 1099511627776) (hbase : base ≤ w.heap.size)
    (h : ∀ A' c' w', w'.ownsRow base 5 1 (.slice A' (n + m) c') (n + m) (vB (l ++ l2)) → w.grownBy w' (ob A) → (ob A' = ob A ∨ ob A' = some w.heap.size) → K (a.put o.dst (.slice A' (n + m) c')) w') :
    if Region.wanted o (yielded ops a.tmps) = true then Oper.wp Tryd.prog o a w K Q else E := by
  have hw : Region.wanted o (yielded ops a.tmps) = true := by simp [Region.wanted, hgd]
  rw [if_pos hw]
  exact wpB w s x ho base A n c l hs hown A2 m c2 l2 hx hr hl hb hbase h
end
theorem rd_newB (w : World) (t : TypeId) (b : UInt8) : Rd (w.alloc (.cells #[.int .u8 b.toNat] t)) (some ⟨w.heap.size, 0, none⟩) (vB [b]) := rd_new w t _
/-- Bytes made a string. -/
theorem conv_B (w : World) {A : Option Addr} {n c : Nat} {l : List UInt8} (hr : Rd w A (vB l)) (hl : l.length = n) :
    (convert 55 9 (.slice A n c)).run Tryd.prog w = .ok (.string ⟨l.toArray⟩) w := by
  subst hl
  have e : strOfNums (l.map fun b => (b.toNat : Int)) = ⟨l.toArray⟩ := by
    unfold strOfNums
    congr 2
    rw [List.map_map]
    conv => rhs; rw [← List.map_id l]
    apply List.map_congr_left
    intro b _
    simp
  rcases hr with h | ⟨g, off, rfl, h⟩
  · have h0 : l = [] := by
      have := congrArg List.length h
      rw [vB_length] at this
      exact List.eq_nil_of_length_eq_zero (by simpa using this)
    subst h0
    cases A with
    | none => exact run_convert_bytes_nil w _ _ Tryd.underlying55 Tryd.underlying5 _ _ _ Tryd.underlying9
    | some a =>
      rw [List.length_nil, run_convert_bytes_string w _ _ _ _ _ c Tryd.underlying55 Tryd.underlying5 Tryd.underlying9, run_bytesToString w a 0 c [] (by simp [loadCells, loadCellsFrom])]
      rfl
  · rw [← e]
    refine run_convert_bytes_arg w _ _ Tryd.underlying55 Tryd.underlying5 g off _ c _ (by simp) (fun i hi => ?_) _ Tryd.underlying9
    refine h i _ ?_
    simp [vB, List.getElem?_eq_getElem hi, List.getD_eq_getElem?_getD]
end Go.Proofs.YtcgohceakjjlhaaDoor
