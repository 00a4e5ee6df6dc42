/- Maps whose keys are cells: made, asked, written. -/
import Derived.Test.YtcgohceakjjlhaaMem
import Derived.MapKept
import Derived.Carry
namespace Go.Proofs.Ytcgohceakjjlhaa
open Go.RowKit
set_option linter.unusedVariables false
def cellV (c : C) : Value := .agg #[.int .i64 c.1, .int .i64 c.2]
def kv (p : C × Value) : Value × Value := (cellV p.1, p.2)
/-- Block b is a map with these entries, the elder ones first. -/
def MapC (w : World) (b : Nat) (es : List (C × Value)) : Prop := ∃ (arr : Array MapEntry) (clock : Nat), w.heap[b]? = some (.map arr clock) ∧ arr.toList.map (fun e => (e.key, e.val)) = es.map kv
def lookC (es : List (C × Value)) (c : C) : Option Value := (es.find? fun p => p.1 == c).map (·.2)
theorem lookC_nil (c : C) : lookC [] c = none := rfl
theorem lookC_app {es : List (C × Value)} {c d : C} {v : Value} : lookC (es ++ [(c, v)]) d = (lookC es d).or (if c == d then some v else none) := by
  unfold lookC
  rw [List.find?_append]
  cases List.find? (fun p => p.1 == d) es with
  | some p => rfl
  | none =>
    rw [List.find?_cons]
    cases h : c == d <;> simp [h]
section
variable {w w' : World} {b : Nat} {es : List (C × Value)}
theorem MapC.made (w : World) : MapC (w.alloc (.map #[] 0)) w.heap.size [] := ⟨#[], 0, heap_alloc_new w _, rfl⟩
theorem MapC.lt (h : MapC w b es) : b < w.heap.size := by
  obtain ⟨arr, cl, hb, _⟩ := h
  exact (Array.getElem?_eq_some_iff.1 hb).1
theorem MapC.at_ (h : MapC w b es) (hb : w'.heap[b]? = w.heap[b]?) : MapC w' b es := by
  obtain ⟨arr, cl, h1, h2⟩ := h
  exact ⟨arr, cl, hb.trans h1, h2⟩
theorem MapC.below (h : MapC w b es) (hb : Below w.heap.size w w') : MapC w' b es := h.at_ (hb.block b h.lt)
theorem MapC.alloc (h : MapC w b es) (o : Obj) : MapC (w.alloc o) b es := h.at_ (Below.heap_alloc w o b h.lt)
theorem MapC.grown {row : Option Nat} (h : MapC w b es) (hg : w.grownBy w' row) (hne : some b ≠ row) : MapC w' b es := h.at_ (hg.block b h.lt hne)
theorem MapC.set_ (h : MapC w b es) (p : Addr) (hp : b ≠ p.block) (v : Value) : MapC (w.setCell p v) b es := h.at_ (Below.heap_setCell w p v b hp)
end
/-- How many entries a map has. -/
def mapSz (w : World) (b : Nat) : Nat := match w.heap[b]? with
  | some (.map arr _) => arr.size
  | _ => 0
theorem MapC.sz {w : World} {b : Nat} {es : List (C × Value)} (h : MapC w b es) : mapSz w b = es.length := by
  obtain ⟨arr, cl, hb, hl⟩ := h
  unfold mapSz
  rw [hb]
  have := congrArg List.length hl
  simpa using this
theorem equal_cell (w : World) (c d : C) : (Op.equal 54 (cellV c) (cellV d)).run Try.prog w = .ok (c == d) w := by
  obtain ⟨a, b⟩ := c
  obtain ⟨a', b'⟩ := d
  have h := eq_cell w a b a' b'
  simp only [binOp] at h
  have e : ((a, b) == (a', b')) = (a == a' && b == b') := rfl
  rw [e]
  unfold cellV
  generalize hX : Sem.run Try.prog (Op.equal 54 (.agg #[.int .i64 a, .int .i64 b]) (.agg #[.int .i64 a', .int .i64 b'])) w = X at h ⊢
  simp [go_sem, hX] at h
  cases X <;> simp_all [Result.andThen]
theorem check_cell (e : Bool) (c : C) (w : World) : (Instr.checkKey e 10000 54 (cellV c)).run Try.prog w = .ok () w := by
  obtain ⟨a, b⟩ := c
  kernel_rfl
/-- Where a key stands. -/
def posC (es : List (C × Value)) (c : C) (i : Nat) : Option (Nat × Value) :=
  match es with
  | [] => none
  | p :: t => if c == p.1 then some (i, p.2) else posC t c (i + 1)
theorem run_asking (c : C) (w : World) : ∀ (l : List MapEntry) (es : List (C × Value)) (i : Nat), l.map (fun e => (e.key, e.val)) = es.map kv →
    (Instr.findAsking 54 (cellV c) l i).run Try.prog w = .ok (posC es c i) w
  | [], es, i, h => by
    cases es with
    | nil => rfl
    | cons p t => simp at h
  | e :: l, es, i, h => by
    cases es with
    | nil => simp at h
    | cons p t =>
      simp only [List.map_cons, List.cons.injEq, kv, Prod.mk.injEq] at h
      obtain ⟨⟨hk, hv⟩, ht⟩ := h
      simp only [Instr.findAsking, Sem.run_bind, hk, equal_cell, Result.andThen_ok, posC]
      cases c == p.1 with
      | true => simp [hv]
      | false => simpa using run_asking c w l t (i + 1) ht
theorem run_find (c : C) (w : World) (l : List MapEntry) (es : List (C × Value)) (h : l.map (fun e => (e.key, e.val)) = es.map kv) :
    (Instr.findKey 54 (cellV c) l).run Try.prog w = .ok (posC es c 0) w := by
  have hu := run_underlying Try.underlying54 w
  unfold Instr.findKey
  rw [Sem.run_bind, hu, Result.andThen_ok]
  cases l with
  | nil =>
    cases es with
    | nil => rfl
    | cons p t => simp at h
  | cons e t => exact run_asking c w (e :: t) es 0 h
theorem posC_look (es : List (C × Value)) (c : C) : ∀ i, (posC es c i).map (·.2) = lookC es c := by
  induction es with
  | nil => intro i; rfl
  | cons p t ih =>
    intro i
    unfold posC lookC
    rw [List.find?_cons, show (p.1 == c) = (c == p.1) from by rw [Bool.eq_iff_iff, beq_iff_eq, beq_iff_eq]; exact eq_comm]
    cases h : c == p.1 with
    | true => rfl
    | false => simpa [lookC] using ih (i + 1)
section
variable {w : World} {b : Nat} {es : List (C × Value)} {T e : TypeId}
theorem run_lookC (h : MapC w b es) (ht : Try.prog.underlying T = some (.map 54 e)) {z : Value} (hz : (zeroValue e).run Try.prog w = .ok z w) (c : C) (ok : Bool) :
    (Instr.lookup T (.map (some b)) (cellV c) ok).run Try.prog w = .ok (if ok then .tuple #[(lookC es c).getD z, .bool (lookC es c).isSome] else (lookC es c).getD z) w := by
  obtain ⟨arr, cl, hb, hl⟩ := h
  have hp := posC_look es c 0
  simp only [Instr.lookup, Sem.run_bind, run_underlying ht, Result.andThen_ok, MapKept.run_getObj_map hb, check_cell, run_find c w _ es hl, Sem.run_pure]
  cases hq : posC es c 0 with
  | none =>
    rw [hq] at hp
    simp only [Option.map_none] at hp
    rw [← hp]
    simp [hz]
  | some q =>
    obtain ⟨i, v⟩ := q
    rw [hq] at hp
    simp only [Option.map_some] at hp
    rw [← hp]
    simp
theorem posC_some {c : C} {i : Nat} {v : Value} : ∀ {es : List (C × Value)} {k : Nat}, posC es c k = some (i, v) → k ≤ i ∧ es[i - k]? = some (c, v)
  | [], k, h => by cases h
  | p :: t, k, h => by
    unfold posC at h
    cases hc : c == p.1 with
    | true =>
      rw [hc, if_pos rfl] at h
      injection h with h
      injection h with h1 h2
      subst h1 h2
      have : c = p.1 := by simpa using hc
      rw [this]
      simp
    | false =>
      rw [hc, if_neg (by simp)] at h
      obtain ⟨h1, h2⟩ := posC_some h
      refine ⟨by omega, ?_⟩
      rw [show i - k = (i - (k + 1)) + 1 from by omega, List.getElem?_cons_succ]
      exact h2
/-- A new key. -/
theorem run_updC (h : MapC w b es) (ht : Try.prog.underlying T = some (.map 54 e)) (c : C) (v : Value) (hn : lookC es c = none) :
    ∃ w', (Instr.mapUpdate T (.map (some b)) (cellV c) v).run Try.prog w = .ok () w' ∧ MapC w' b (es ++ [(c, v)]) ∧ w.grownBy w' (some b) ∧ w'.heap.size = w.heap.size := by
  obtain ⟨arr, cl, hb, hl⟩ := h
  have hp := posC_look es c 0
  have hq : posC es c 0 = none := by
    cases hq : posC es c 0 with
    | none => rfl
    | some q => rw [hq, hn] at hp; cases hp
  have hrun : (Instr.mapUpdate T (.map (some b)) (cellV c) v).run Try.prog w = .ok () { w with heap := w.heap.setIfInBounds b (.map (arr.push { key := cellV c, val := v, born := cl }) (cl + 1)) } := by
    simp only [Instr.mapUpdate, Sem.run_bind, run_underlying ht, Result.andThen_ok, MapKept.run_getObj_map hb, check_cell, run_find c w _ es hl, hq]
    exact MapKept.run_setObj_map _ hb
  have hlt := (Array.getElem?_eq_some_iff.1 hb).1
  refine ⟨_, hrun, ⟨arr.push { key := cellV c, val := v, born := cl }, cl + 1, ?_, ?_⟩, ⟨rfl, rfl, rfl, by simp, fun k hk hne => ?_⟩, by simp⟩
  · simp [hlt]
  · simp only [Array.toList_push, List.map_append, hl]
    rfl
  · have : b ≠ k := fun e => hne (by rw [e])
    simp [Array.getElem?_setIfInBounds_ne this]
/-- A key that is there, with the value that it has. -/
theorem run_updC_same (h : MapC w b es) (ht : Try.prog.underlying T = some (.map 54 e)) (c : C) (v : Value) (hn : lookC es c = some v) :
    ∃ w', (Instr.mapUpdate T (.map (some b)) (cellV c) v).run Try.prog w = .ok () w' ∧ MapC w' b es ∧ w.grownBy w' (some b) ∧ w'.heap.size = w.heap.size := by
  obtain ⟨arr, cl, hb, hl⟩ := h
  have hp := posC_look es c 0
  obtain ⟨i, hq⟩ : ∃ i, posC es c 0 = some (i, v) := by
    cases hq : posC es c 0 with
    | none => rw [hq, hn] at hp; cases hp
    | some q => rw [hq, hn] at hp; simp at hp; exact ⟨q.1, by rw [← hp]⟩
  obtain ⟨_, hi⟩ := posC_some hq
  rw [Nat.sub_zero] at hi
  have hlen : arr.toList.length = es.length := by have := congrArg List.length hl; simpa using this
  have hie : i < es.length := (List.getElem?_eq_some_iff.1 hi).1
  have hia : i < arr.size := by have := hlen; rw [Array.length_toList] at this; omega
  have hki : (arr[i].key, arr[i].val) = (cellV c, v) := by
    have := congrArg (fun l => l[i]?) hl
    simp only [List.getElem?_map, hi, Option.map_some, kv] at this
    rw [List.getElem?_eq_getElem (by rw [Array.length_toList]; exact hia)] at this
    simpa using this
  injection hki with hk1 hk2
  have hst : (Instr.keyThatStays (((arr[i]?).map (·.key)).getD (cellV c)) (cellV c)).run Try.prog w = .ok (cellV c) w := by
    rw [Array.getElem?_eq_getElem hia]
    simp only [Option.map_some, Option.getD_some, hk1]
    unfold Instr.keyThatStays
    rw [if_pos (by simp [Instr.sameBits, cellV])]
    rfl
  have hrun : (Instr.mapUpdate T (.map (some b)) (cellV c) v).run Try.prog w = .ok () { w with heap := w.heap.setIfInBounds b (.map (arr.modify i fun e => { e with key := cellV c, val := v }) cl) } := by
    simp only [Instr.mapUpdate, Sem.run_bind, run_underlying ht, Result.andThen_ok, MapKept.run_getObj_map hb, check_cell, run_find c w _ es hl, hq, hst]
    exact MapKept.run_setObj_map _ hb
  have hlt := (Array.getElem?_eq_some_iff.1 hb).1
  refine ⟨_, hrun, ⟨arr.modify i fun e => { e with key := cellV c, val := v }, cl, ?_, ?_⟩, ⟨rfl, rfl, rfl, by simp, fun k hk hne => ?_⟩, by simp⟩
  · simp [hlt]
  · rw [← hl]
    apply List.ext_getElem?
    intro j
    simp only [List.getElem?_map, Array.getElem?_toList, Array.getElem?_modify]
    by_cases hij : i = j
    · subst hij
      rw [if_pos rfl, Array.getElem?_eq_getElem hia]
      simp [hk1, hk2]
    · rw [if_neg hij]
  · have : b ≠ k := fun e => hne (by rw [e])
    simp [Array.getElem?_setIfInBounds_ne this]
end
section
variable {w : World} {o : Oper} {a : Act} {K : Act → World → Prop} {Q : Exit → Act → World → Prop} {b : Nat} {es : List (C × Value)} {T e : TypeId}
/-- At the operation: a new key. -/
theorem wpUpdC (m x v : Operand) (hop : o.op = .mapUpdate T m x v ∨ o.op = .insert T m x v) (h : MapC w b es) (ht : Try.prog.underlying T = some (.map 54 e)) (c : C) (val : Value)
    (hm : a.eval m = .map (some b)) (hx : a.eval x = cellV c) (hv : a.eval v = val) (hn : lookC es c = none)
    (hK : ∀ w', MapC w' b (es ++ [(c, val)]) → w.grownBy w' (some b) → w'.heap.size = w.heap.size → K (a.put o.dst undef) w') : o.wp Try.prog a w K Q := by
  obtain ⟨w', hrun, h1, h2, h3⟩ := run_updC h ht c val hn
  unfold Oper.wp
  rcases hop with hop | hop <;> simp [execOp, hop, hm, hx, hv, hrun, Result.andThen, Oper.upon] <;> exact hK w' h1 h2 h3
theorem wpUpdC_same (m x v : Operand) (hop : o.op = .mapUpdate T m x v ∨ o.op = .insert T m x v) (h : MapC w b es) (ht : Try.prog.underlying T = some (.map 54 e)) (c : C) (val : Value)
    (hm : a.eval m = .map (some b)) (hx : a.eval x = cellV c) (hv : a.eval v = val) (hn : lookC es c = some val)
    (hK : ∀ w', MapC w' b es → w.grownBy w' (some b) → w'.heap.size = w.heap.size → K (a.put o.dst undef) w') : o.wp Try.prog a w K Q := by
  obtain ⟨w', hrun, h1, h2, h3⟩ := run_updC_same h ht c val hn
  unfold Oper.wp
  rcases hop with hop | hop <;> simp [execOp, hop, hm, hx, hv, hrun, Result.andThen, Oper.upon] <;> exact hK w' h1 h2 h3
theorem wpList_updC {ops : Array Oper} {rest : List Oper} (hgd : o.guard = none) (m x v : Operand) (hop : o.op = .mapUpdate T m x v ∨ o.op = .insert T m x v) (h : MapC w b es) (ht : Try.prog.underlying T = some (.map 54 e)) (c : C) (val : Value)
    (hm : a.eval m = .map (some b)) (hx : a.eval x = cellV c) (hv : a.eval v = val) (hn : lookC es c = none)
    (hK : ∀ w', MapC w' b (es ++ [(c, val)]) → w.grownBy w' (some b) → w'.heap.size = w.heap.size → wpList Try.prog ops Q rest (a.put o.dst undef) w') : wpList Try.prog ops Q (o :: rest) a w :=
  wpList_plain hgd fun K hK' => wpUpdC m x v hop h ht c val hm hx hv hn fun w' h1 h2 h3 => hK' _ _ (hK w' h1 h2 h3)
theorem wpList_updC_same {ops : Array Oper} {rest : List Oper} (hgd : o.guard = none) (m x v : Operand) (hop : o.op = .mapUpdate T m x v ∨ o.op = .insert T m x v) (h : MapC w b es) (ht : Try.prog.underlying T = some (.map 54 e)) (c : C) (val : Value)
    (hm : a.eval m = .map (some b)) (hx : a.eval x = cellV c) (hv : a.eval v = val) (hn : lookC es c = some val)
    (hK : ∀ w', MapC w' b es → w.grownBy w' (some b) → w'.heap.size = w.heap.size → wpList Try.prog ops Q rest (a.put o.dst undef) w') : wpList Try.prog ops Q (o :: rest) a w :=
  wpList_plain hgd fun K hK' => wpUpdC_same m x v hop h ht c val hm hx hv hn fun w' h1 h2 h3 => hK' _ _ (hK w' h1 h2 h3)
end
end Go.Proofs.Ytcgohceakjjlhaa
