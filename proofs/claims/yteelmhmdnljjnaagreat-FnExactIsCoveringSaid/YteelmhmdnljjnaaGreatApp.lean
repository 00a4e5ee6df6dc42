/- append at this translation's element types: cells, integers. -/
import Derived.Test.YteelmhmdnljjnaaGreatKit
import Derived.Test.YteelmhmdnljjnaaGreatProg
import Derived.WalkLawsBesides
import Derived.WalkSpells
namespace Go.Proofs.YteelmhmdnljjnaaGreat
open Go.RowKit
set_option linter.unusedVariables false

theorem infoC : (Tryz.prog.info? 71).map (fun i => (i.zero, i.size, i.bytes)) = some (some (.agg #[.int .i64 0, .int .i64 0]), 2, 16) := by kernel_rfl
theorem infoI : (Tryz.prog.info? 3).map (fun i => (i.zero, i.size, i.bytes)) = some (some (.int .i64 0), 1, 8) := by kernel_rfl

/-- Two cells are equal where both numbers are. -/
theorem eq_cell (w : World) (a b c d : Int) : (binOp .eql 71 (.agg #[.int .i64 a, .int .i64 b]) (.agg #[.int .i64 c, .int .i64 d])).run Tryz.prog w = .ok (.bool (a == c && b == d)) w := by
  simp [go_sem]
  by_cases h1 : a = c <;> by_cases h2 : b = d <;> simp [h1, h2]
theorem neq_cell (w : World) (a b c d : Int) : (binOp .neq 71 (.agg #[.int .i64 a, .int .i64 b]) (.agg #[.int .i64 c, .int .i64 d])).run Tryz.prog w = .ok (.bool (!(a == c && b == d))) w := by
  simp [go_sem]
  by_cases h1 : a = c <;> by_cases h2 : b = d <;> simp [h1, h2]
attribute [go_sem ↓ 2000] eq_cell neq_cell

section
variable (w : World) {ops : Array Oper} {rest : List Oper} {o : Oper} {a : Act} {Q : Exit → Act → World → Prop}
theorem app_C (hgd : o.guard = none) (s x : Operand) (ho : o.op = .call { callee := .builtin .append, args := #[s, x], argTypes := #[59, 59] })
    (base : Nat) (A : Option Addr) (n c : Nat) (l : List C) (hs : a.eval s = .slice A n c) (hown : w.ownsRow base 71 2 (.slice A n c) n (vC l))
    (A2 : Option Addr) (m c2 : Nat) (l2 : List C) (hx : a.eval x = .slice A2 m c2) (hr : Rd w A2 (vC l2)) (hl : l2.length = m) (hb : n + m ≤ 1099511627776) (hbase : base ≤ w.heap.size)
    (h : ∀ A' c' w', w'.ownsRow base 71 2 (.slice A' (n + m) c') (n + m) (vC (l ++ l2)) → w.grownBy w' (ob A) → (ob A' = ob A ∨ ob A' = some w.heap.size) → wpList Tryz.prog ops Q rest (a.put o.dst (.slice A' (n + m) c')) w') :
    wpList Tryz.prog ops Q (o :: rest) a w := by
  obtain ⟨i0, hi, hz0, hz1, hz2⟩ := info_parts infoC
  refine wpList_app w hgd s x _ ho base _ i0 _ 2 16 Tryz.underlying59 hi hz0 hz1 hz2 rfl (by omega) A n c _ hs hown A2 m c2 _ hx hr (by rw [vC_length, hl]) (vC_one _) (by unfold maxLen; omega) (by omega) hbase ?_
  intro A' c' w' h1
  rw [← vC_append] at h1
  exact h A' c' w' h1
theorem app_I (hgd : o.guard = none) (s x : Operand) (ho : o.op = .call { callee := .builtin .append, args := #[s, x], argTypes := #[22, 22] })
    (base : Nat) (A : Option Addr) (n c : Nat) (l : List Int) (hs : a.eval s = .slice A n c) (hown : w.ownsRow base 3 1 (.slice A n c) n (vI l))
    (A2 : Option Addr) (m c2 : Nat) (l2 : List Int) (hx : a.eval x = .slice A2 m c2) (hr : Rd w A2 (vI l2)) (hl : l2.length = m) (hb : n + m ≤ 1099511627776) (hbase : base ≤ w.heap.size)
    (h : ∀ A' c' w', w'.ownsRow base 3 1 (.slice A' (n + m) c') (n + m) (vI (l ++ l2)) → w.grownBy w' (ob A) → (ob A' = ob A ∨ ob A' = some w.heap.size) → wpList Tryz.prog ops Q rest (a.put o.dst (.slice A' (n + m) c')) w') :
    wpList Tryz.prog ops Q (o :: rest) a w := by
  obtain ⟨i0, hi, hz0, hz1, hz2⟩ := info_parts infoI
  refine wpList_app w hgd s x _ ho base _ i0 _ 1 8 Tryz.underlying22 hi hz0 hz1 hz2 rfl (by omega) A n c _ hs hown A2 m c2 _ hx hr (by rw [vI_length, hl]; omega) (vI_one _) (by unfold maxLen; omega) (by omega) hbase ?_
  intro A' c' w' h1
  rw [← vI_append] at h1
  exact h A' c' w' h1
end
end Go.Proofs.YteelmhmdnljjnaaGreat
