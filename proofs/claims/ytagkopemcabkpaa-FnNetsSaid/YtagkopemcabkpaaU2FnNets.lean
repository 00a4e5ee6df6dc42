/- Texts of this claim, one behind the other: part 2. -/
import Derived.Test.YtagkopemcabkpaaU1FnNets
import Derived.MapKept
import Derived.Carry
import Derived.IntWalk
import Derived.Outline
import Derived.WalkLawsBesides
import Derived.WalkSpells
import Derived.BigQuiet
import Derived.Deep.QuietTactic
import Derived.Deep.RegionHeld3
import Derived.Deep.DeepCutAuto
import Derived.Deep.DrawnRows
import Derived.Deep.CutBlock
import Derived.Deep.RegionWith
/- Maps whose keys are cells: made, asked, written. -/
namespace Go.Proofs.Ytagkopemcabkpaa
open Go.RowKit
set_option linter.unusedVariables false
def cellV (c : C) : Value := .agg #[.int .i64 c.1, .int .i64 c.2]
def kv (p : C × Value) : Value × Value := (cellV p.1, p.2)
/-- Block b is a map with these entries, the elder ones first. -/
def MapC (w : World) (b : Nat) (es : List (C × Value)) : Prop := ∃ (arr : Array MapEntry) (clock : Nat), w.heap[b]? = some (.map arr clock) ∧ arr.toList.map (fun e => (e.key, e.val)) = es.map kv
def lookC (es : List (C × Value)) (c : C) : Option Value := (es.find? fun p => p.1 == c).map (·.2)
theorem lookC_nil (c : C) : lookC [] c = none := rfl
theorem lookC_app {es : List (C × Value)} {c d : C} {v : Value} : lookC (es ++ [(c, v)]) d = (lookC es d).or (if c == d then some v else none) := by
  unfold lookC
  rw [List.find?_append]
  cases List.find? (fun p => p.1 == d) es with
  | some p => rfl
  | none =>
    rw [List.find?_cons]
    cases h : c == d <;> simp [h]
section
variable {w w' : World} {b : Nat} {es : List (C × Value)}
theorem MapC.made (w : World) : MapC (w.alloc (.map #[] 0)) w.heap.size [] := ⟨#[], 0, heap_alloc_new w _, rfl⟩
theorem MapC.lt (h : MapC w b es) : b < w.heap.size := by
  obtain ⟨arr, cl, hb, _⟩ := h
  exact (Array.getElem?_eq_some_iff.1 hb).1
theorem MapC.at_ (h : MapC w b es) (hb : w'.heap[b]? = w.heap[b]?) : MapC w' b es := by
  obtain ⟨arr, cl, h1, h2⟩ := h
  exact ⟨arr, cl, hb.trans h1, h2⟩
theorem MapC.below (h : MapC w b es) (hb : Below w.heap.size w w') : MapC w' b es := h.at_ (hb.block b h.lt)
theorem MapC.alloc (h : MapC w b es) (o : Obj) : MapC (w.alloc o) b es := h.at_ (Below.heap_alloc w o b h.lt)
theorem MapC.grown {row : Option Nat} (h : MapC w b es) (hg : w.grownBy w' row) (hne : some b ≠ row) : MapC w' b es := h.at_ (hg.block b h.lt hne)
theorem MapC.set_ (h : MapC w b es) (p : Addr) (hp : b ≠ p.block) (v : Value) : MapC (w.setCell p v) b es := h.at_ (Below.heap_setCell w p v b hp)
end
/-- How many entries a map has. -/
def mapSz (w : World) (b : Nat) : Nat := match w.heap[b]? with
  | some (.map arr _) => arr.size
  | _ => 0
theorem MapC.sz {w : World} {b : Nat} {es : List (C × Value)} (h : MapC w b es) : mapSz w b = es.length := by
  obtain ⟨arr, cl, hb, hl⟩ := h
  unfold mapSz
  rw [hb]
  have := congrArg List.length hl
  simpa using this
theorem equal_cell (w : World) (c d : C) : (Op.equal 55 (cellV c) (cellV d)).run Try.prog w = .ok (c == d) w := by
  obtain ⟨a, b⟩ := c
  obtain ⟨a', b'⟩ := d
  have h := eq_cell w a b a' b'
  simp only [binOp] at h
  have e : ((a, b) == (a', b')) = (a == a' && b == b') := rfl
  rw [e]
  unfold cellV
  generalize hX : Sem.run Try.prog (Op.equal 55 (.agg #[.int .i64 a, .int .i64 b]) (.agg #[.int .i64 a', .int .i64 b'])) w = X at h ⊢
  simp [go_sem, hX] at h
  cases X <;> simp_all [Result.andThen]
theorem check_cell (e : Bool) (c : C) (w : World) : (Instr.checkKey e 10000 55 (cellV c)).run Try.prog w = .ok () w := by
  obtain ⟨a, b⟩ := c
  kernel_rfl
/-- Where a key stands. -/
def posC (es : List (C × Value)) (c : C) (i : Nat) : Option (Nat × Value) :=
  match es with
  | [] => none
  | p :: t => if c == p.1 then some (i, p.2) else posC t c (i + 1)
theorem run_asking (c : C) (w : World) : ∀ (l : List MapEntry) (es : List (C × Value)) (i : Nat), l.map (fun e => (e.key, e.val)) = es.map kv →
    (Instr.findAsking 55 (cellV c) l i).run Try.prog w = .ok (posC es c i) w
  | [], es, i, h => by
    cases es with
    | nil => rfl
    | cons p t => simp at h
  | e :: l, es, i, h => by
    cases es with
    | nil => simp at h
    | cons p t =>
      simp only [List.map_cons, List.cons.injEq, kv, Prod.mk.injEq] at h
      obtain ⟨⟨hk, hv⟩, ht⟩ := h
      simp only [Instr.findAsking, Sem.run_bind, hk, equal_cell, Result.andThen_ok, posC]
      cases c == p.1 with
      | true => simp [hv]
      | false => simpa using run_asking c w l t (i + 1) ht
theorem run_find (c : C) (w : World) (l : List MapEntry) (es : List (C × Value)) (h : l.map (fun e => (e.key, e.val)) = es.map kv) :
    (Instr.findKey 55 (cellV c) l).run Try.prog w = .ok (posC es c 0) w := by
  have hu := run_underlying Try.underlying55 w
  unfold Instr.findKey
  rw [Sem.run_bind, hu, Result.andThen_ok]
  cases l with
  | nil =>
    cases es with
    | nil => rfl
    | cons p t => simp at h
  | cons e t => exact run_asking c w (e :: t) es 0 h
theorem posC_look (es : List (C × Value)) (c : C) : ∀ i, (posC es c i).map (·.2) = lookC es c := by
  induction es with
  | nil => intro i; rfl
  | cons p t ih =>
    intro i
    unfold posC lookC
    rw [List.find?_cons, show (p.1 == c) = (c == p.1) from by rw [Bool.eq_iff_iff, beq_iff_eq, beq_iff_eq]; exact eq_comm]
    cases h : c == p.1 with
    | true => rfl
    | false => simpa [lookC] using ih (i + 1)
section
variable {w : World} {b : Nat} {es : List (C × Value)} {T e : TypeId}
theorem run_lookC (h : MapC w b es) (ht : Try.prog.underlying T = some (.map 55 e)) {z : Value} (hz : (zeroValue e).run Try.prog w = .ok z w) (c : C) (ok : Bool) :
    (Instr.lookup T (.map (some b)) (cellV c) ok).run Try.prog w = .ok (if ok then .tuple #[(lookC es c).getD z, .bool (lookC es c).isSome] else (lookC es c).getD z) w := by
  obtain ⟨arr, cl, hb, hl⟩ := h
  have hp := posC_look es c 0
  simp only [Instr.lookup, Sem.run_bind, run_underlying ht, Result.andThen_ok, MapKept.run_getObj_map hb, check_cell, run_find c w _ es hl, Sem.run_pure]
  cases hq : posC es c 0 with
  | none =>
    rw [hq] at hp
    simp only [Option.map_none] at hp
    rw [← hp]
    simp [hz]
  | some q =>
    obtain ⟨i, v⟩ := q
    rw [hq] at hp
    simp only [Option.map_some] at hp
    rw [← hp]
    simp
theorem posC_some {c : C} {i : Nat} {v : Value} : ∀ {es : List (C × Value)} {k : Nat}, posC es c k = some (i, v) → k ≤ i ∧ es[i - k]? = some (c, v)
  | [], k, h => by cases h
  | p :: t, k, h => by
    unfold posC at h
    cases hc : c == p.1 with
    | true =>
      rw [hc, if_pos rfl] at h
      injection h with h
      injection h with h1 h2
      subst h1 h2
      have : c = p.1 := by simpa using hc
      rw [this]
      simp
    | false =>
      rw [hc, if_neg (by simp)] at h
      obtain ⟨h1, h2⟩ := posC_some h
      refine ⟨by omega, ?_⟩
      rw [show i - k = (i - (k + 1)) + 1 from by omega, List.getElem?_cons_succ]
      exact h2
/-- A new key. -/
theorem run_updC (h : MapC w b es) (ht : Try.prog.underlying T = some (.map 55 e)) (c : C) (v : Value) (hn : lookC es c = none) :
    ∃ w', (Instr.mapUpdate T (.map (some b)) (cellV c) v).run Try.prog w = .ok () w' ∧ MapC w' b (es ++ [(c, v)]) ∧ w.grownBy w' (some b) ∧ w'.heap.size = w.heap.size := by
  obtain ⟨arr, cl, hb, hl⟩ := h
  have hp := posC_look es c 0
  have hq : posC es c 0 = none := by
    cases hq : posC es c 0 with
    | none => rfl
    | some q => rw [hq, hn] at hp; cases hp
  have hrun : (Instr.mapUpdate T (.map (some b)) (cellV c) v).run Try.prog w = .ok () { w with heap := w.heap.setIfInBounds b (.map (arr.push { key := cellV c, val := v, born := cl }) (cl + 1)) } := by
    simp only [Instr.mapUpdate, Sem.run_bind, run_underlying ht, Result.andThen_ok, MapKept.run_getObj_map hb, check_cell, run_find c w _ es hl, hq]
    exact MapKept.run_setObj_map _ hb
  have hlt := (Array.getElem?_eq_some_iff.1 hb).1
  refine ⟨_, hrun, ⟨arr.push { key := cellV c, val := v, born := cl }, cl + 1, ?_, ?_⟩, ⟨rfl, rfl, rfl, by simp, fun k hk hne => ?_⟩, by simp⟩
  · simp [hlt]
  · simp only [Array.toList_push, List.map_append, hl]
    rfl
  · have : b ≠ k := fun e => hne (by rw [e])
    simp [Array.getElem?_setIfInBounds_ne this]
/-- A key that is there, with the value that it has. -/
theorem run_updC_same (h : MapC w b es) (ht : Try.prog.underlying T = some (.map 55 e)) (c : C) (v : Value) (hn : lookC es c = some v) :
    ∃ w', (Instr.mapUpdate T (.map (some b)) (cellV c) v).run Try.prog w = .ok () w' ∧ MapC w' b es ∧ w.grownBy w' (some b) ∧ w'.heap.size = w.heap.size := by
  obtain ⟨arr, cl, hb, hl⟩ := h
  have hp := posC_look es c 0
  obtain ⟨i, hq⟩ : ∃ i, posC es c 0 = some (i, v) := by
    cases hq : posC es c 0 with
    | none => rw [hq, hn] at hp; cases hp
    | some q => rw [hq, hn] at hp; simp at hp; exact ⟨q.1, by rw [← hp]⟩
  obtain ⟨_, hi⟩ := posC_some hq
  rw [Nat.sub_zero] at hi
  have hlen : arr.toList.length = es.length := by have := congrArg List.length hl; simpa using this
  have hie : i < es.length := (List.getElem?_eq_some_iff.1 hi).1
  have hia : i < arr.size := by have := hlen; rw [Array.length_toList] at this; omega
  have hki : (arr[i].key, arr[i].val) = (cellV c, v) := by
    have := congrArg (fun l => l[i]?) hl
    simp only [List.getElem?_map, hi, Option.map_some, kv] at this
    rw [List.getElem?_eq_getElem (by rw [Array.length_toList]; exact hia)] at this
    simpa using this
  injection hki with hk1 hk2
  have hst : (Instr.keyThatStays (((arr[i]?).map (·.key)).getD (cellV c)) (cellV c)).run Try.prog w = .ok (cellV c) w := by
    rw [Array.getElem?_eq_getElem hia]
    simp only [Option.map_some, Option.getD_some, hk1]
    unfold Instr.keyThatStays
    rw [if_pos (by simp [Instr.sameBits, cellV])]
    rfl
  have hrun : (Instr.mapUpdate T (.map (some b)) (cellV c) v).run Try.prog w = .ok () { w with heap := w.heap.setIfInBounds b (.map (arr.modify i fun e => { e with key := cellV c, val := v }) cl) } := by
    simp only [Instr.mapUpdate, Sem.run_bind, run_underlying ht, Result.andThen_ok, MapKept.run_getObj_map hb, check_cell, run_find c w _ es hl, hq, hst]
    exact MapKept.run_setObj_map _ hb
  have hlt := (Array.getElem?_eq_some_iff.1 hb).1
  refine ⟨_, hrun, ⟨arr.modify i fun e => { e with key := cellV c, val := v }, cl, ?_, ?_⟩, ⟨rfl, rfl, rfl, by simp, fun k hk hne => ?_⟩, by simp⟩
  · simp [hlt]
  · rw [← hl]
    apply List.ext_getElem?
    intro j
    simp only [List.getElem?_map, Array.getElem?_toList, Array.getElem?_modify]
    by_cases hij : i = j
    · subst hij
      rw [if_pos rfl, Array.getElem?_eq_getElem hia]
      simp [hk1, hk2]
    · rw [if_neg hij]
  · have : b ≠ k := fun e => hne (by rw [e])
    simp [Array.getElem?_setIfInBounds_ne this]
end
section
variable {w : World} {o : Oper} {a : Act} {K : Act → World → Prop} {Q : Exit → Act → World → Prop} {b : Nat} {es : List (C × Value)} {T e : TypeId}
/-- At the operation: a new key. -/
theorem wpUpdC (m x v : Operand) (hop : o.op = .mapUpdate T m x v ∨ o.op = .insert T m x v) (h : MapC w b es) (ht : Try.prog.underlying T = some (.map 55 e)) (c : C) (val : Value)
    (hm : a.eval m = .map (some b)) (hx : a.eval x = cellV c) (hv : a.eval v = val) (hn : lookC es c = none)
    (hK : ∀ w', MapC w' b (es ++ [(c, val)]) → w.grownBy w' (some b) → w'.heap.size = w.heap.size → K (a.put o.dst undef) w') : o.wp Try.prog a w K Q := by
  obtain ⟨w', hrun, h1, h2, h3⟩ := run_updC h ht c val hn
  unfold Oper.wp
  rcases hop with hop | hop <;> simp [execOp, hop, hm, hx, hv, hrun, Result.andThen, Oper.upon] <;> exact hK w' h1 h2 h3
theorem wpUpdC_same (m x v : Operand) (hop : o.op = .mapUpdate T m x v ∨ o.op = .insert T m x v) (h : MapC w b es) (ht : Try.prog.underlying T = some (.map 55 e)) (c : C) (val : Value)
    (hm : a.eval m = .map (some b)) (hx : a.eval x = cellV c) (hv : a.eval v = val) (hn : lookC es c = some val)
    (hK : ∀ w', MapC w' b es → w.grownBy w' (some b) → w'.heap.size = w.heap.size → K (a.put o.dst undef) w') : o.wp Try.prog a w K Q := by
  obtain ⟨w', hrun, h1, h2, h3⟩ := run_updC_same h ht c val hn
  unfold Oper.wp
  rcases hop with hop | hop <;> simp [execOp, hop, hm, hx, hv, hrun, Result.andThen, Oper.upon] <;> exact hK w' h1 h2 h3
theorem wpList_updC {ops : Array Oper} {rest : List Oper} (hgd : o.guard = none) (m x v : Operand) (hop : o.op = .mapUpdate T m x v ∨ o.op = .insert T m x v) (h : MapC w b es) (ht : Try.prog.underlying T = some (.map 55 e)) (c : C) (val : Value)
    (hm : a.eval m = .map (some b)) (hx : a.eval x = cellV c) (hv : a.eval v = val) (hn : lookC es c = none)
    (hK : ∀ w', MapC w' b (es ++ [(c, val)]) → w.grownBy w' (some b) → w'.heap.size = w.heap.size → wpList Try.prog ops Q rest (a.put o.dst undef) w') : wpList Try.prog ops Q (o :: rest) a w :=
  wpList_plain hgd fun K hK' => wpUpdC m x v hop h ht c val hm hx hv hn fun w' h1 h2 h3 => hK' _ _ (hK w' h1 h2 h3)
theorem wpList_updC_same {ops : Array Oper} {rest : List Oper} (hgd : o.guard = none) (m x v : Operand) (hop : o.op = .mapUpdate T m x v ∨ o.op = .insert T m x v) (h : MapC w b es) (ht : Try.prog.underlying T = some (.map 55 e)) (c : C) (val : Value)
    (hm : a.eval m = .map (some b)) (hx : a.eval x = cellV c) (hv : a.eval v = val) (hn : lookC es c = some val)
    (hK : ∀ w', MapC w' b es → w.grownBy w' (some b) → w'.heap.size = w.heap.size → wpList Try.prog ops Q rest (a.put o.dst undef) w') : wpList Try.prog ops Q (o :: rest) a w :=
  wpList_plain hgd fun K hK' => wpUpdC_same m x v hop h ht c val hm hx hv hn fun w' h1 h2 h3 => hK' _ _ (hK w' h1 h2 h3)
end
end Go.Proofs.Ytagkopemcabkpaa

/- A queue: a slice of the call's own that may begin in the middle of its block; taken from at the front, appended to. -/
namespace Go.Proofs.Ytagkopemcabkpaa
open Go.RowKit
set_option linter.unusedVariables false
/-- The slice at cell off of block g, n elements long, owns its row. -/
def World.ownsQ (w : World) (base e size g off n c : Nat) (xs : List Value) : Prop :=
  xs.length = n * size ∧ n ≤ c ∧ c ≤ maxLen ∧ base ≤ g ∧ ∃ cur : Array Value, w.heap[g]? = some (.cells cur e (0, 0)) ∧ off + c * size ≤ cur.size ∧ (cur.toList.drop off).take (n * size) = xs
section
variable {w w' : World} {base e size g off n c : Nat} {xs : List Value}
theorem ownQ_of {A : Option Addr} (h : w.ownsRow base e size (.slice A n c) n xs) (hn : 0 < n) : ∃ g, A = some ⟨g, 0, none⟩ ∧ World.ownsQ w base e size g 0 n c xs := by
  rcases h.2 with ⟨_, rfl⟩ | ⟨g, cap, cur, hv, hb, hg, hnc, hcm, hcs, ht⟩
  · omega
  · injection hv with h1 h2 h3
    subst h1 h3
    exact ⟨g, rfl, h.1, hnc, hcm, hb, cur, hg, by rw [hcs]; omega, by simpa using ht⟩
theorem ownQ_keep (h : World.ownsQ w base e size g off n c xs) (hb : Below w.heap.size w w') : World.ownsQ w' base e size g off n c xs := by
  obtain ⟨h1, h2, h3, h4, cur, hg, h5, h6⟩ := h
  exact ⟨h1, h2, h3, h4, cur, (hb.block g (Array.getElem?_eq_some_iff.1 hg).1).trans hg, h5, h6⟩
theorem ownQ_kept {row : Option Nat} (h : World.ownsQ w base e size g off n c xs) (hb : w.grownBy w' row) (hne : some g ≠ row) : World.ownsQ w' base e size g off n c xs := by
  obtain ⟨h1, h2, h3, h4, cur, hg, h5, h6⟩ := h
  exact ⟨h1, h2, h3, h4, cur, (hb.block g (Array.getElem?_eq_some_iff.1 hg).1 hne).trans hg, h5, h6⟩
theorem ownQ_lt (h : World.ownsQ w base e size g off n c xs) : base ≤ g ∧ g < w.heap.size := by
  obtain ⟨h1, h2, h3, h4, cur, hg, h5, h6⟩ := h
  exact ⟨h4, (Array.getElem?_eq_some_iff.1 hg).1⟩
theorem Rd.of_ownQ (h : World.ownsQ w base e size g off n c xs) : Rd w (some ⟨g, off, none⟩) xs := by
  obtain ⟨h1, h2, h3, h4, cur, hg, h5, h6⟩ := h
  refine .inr ⟨g, off, rfl, fun j u hu => ?_⟩
  rw [cell_of_row w g (off + j) cur e (0, 0) hg]
  rw [← h6, List.getElem?_take] at hu
  split at hu
  · rw [List.getElem?_drop] at hu; simpa using hu
  · cases hu
/-- The front is taken away. -/
theorem ownQ_tail (h : World.ownsQ w base e size g off (n + 1) c xs) : World.ownsQ w base e size g (if c = 1 then off else off + size) n (c - 1) (xs.drop size) := by
  obtain ⟨h1, h2, h3, h4, cur, hg, h5, h6⟩ := h
  refine ⟨by rw [List.length_drop, h1, Nat.add_mul]; omega, by omega, by omega, h4, cur, hg, ?_, ?_⟩
  · split
    · next e => subst e; simp at h5 ⊢; omega
    · obtain ⟨k, rfl⟩ : ∃ k, c = k + 1 := ⟨c - 1, by omega⟩
      simp only [Nat.add_sub_cancel, Nat.add_mul, Nat.one_mul] at h5 ⊢
      omega
  · subst h6
    split
    · next e =>
      have : n = 0 := by omega
      subst this
      simp
    · rw [List.drop_take, List.drop_drop, Nat.add_mul, Nat.one_mul, Nat.add_sub_cancel]
theorem run_append_Q {P : Program} (w : World) {base e size g off n c : Nat} {xs : List Value} (t ty : TypeId) (i : TypeInfo) (z : Value) (bytes : Nat) (ht : P.underlying t = some (.slice e)) (hi : P.info? e = some i) (hz : i.zero = some z)
    (hsize : i.size = size) (hby : i.bytes = bytes) (hzs : z.cells.size = size) (hown : World.ownsQ w base e size g off n c xs)
    (a : Addr) (m c2 : Nat) (news : List Value) (hl : news.length = m * size) (hnews : ∀ j u, news[j]? = some u → w.cell? (a.add j) = some u) (h1 : ∀ u ∈ news, u.oneCell' = true)
    (h63 : n + m ≤ maxLen) (hbytes : (n + m) * bytes ≤ 140737488355328) (hbase : base ≤ w.heap.size) :
    ∃ g' off' c' w', (Builtin.append_ #[t, t] ty #[.slice (some ⟨g, off, none⟩) n c, .slice (some a) m c2]).run P w = .ok (.slice (some ⟨g', off', none⟩) (n + m) c') w' ∧ World.ownsQ w' base e size g' off' (n + m) c' (xs ++ news) ∧ w.grownBy w' (some g) ∧ (g' = g ∨ g' = w.heap.size) := by
  subst hsize hby
  have hrd := Rd.of_ownQ hown
  obtain ⟨hx, hnc, hcm, hbg, cur, hg, hfit, htake⟩ := hown
  have hlen : (xs ++ news).length = (n + m) * i.size := by rw [List.length_append, hx, hl, Nat.add_mul]
  by_cases hroom : n + m ≤ c
  · have hfit2 : off + n * i.size + news.length ≤ cur.size := by
      have : (n + m) * i.size ≤ c * i.size := Nat.mul_le_mul_right _ hroom
      rw [Nat.add_mul] at this
      omega
    have hf := run_firstCells_some (P := P) w i.size m a m c2 news hl hnews
    have hst := run_storeCells_at P g (off + n * i.size) e news 0 cur w hg (by simpa using hfit2) h1
    simp only [Nat.add_zero] at hst
    have hadd : (⟨g, off, none⟩ : Addr).add (n * i.size) = ⟨g, off + n * i.size, none⟩ := by unfold Addr.add; split <;> simp_all
    refine ⟨g, off, c, _, by simp [Builtin.append_, run_underlying ht, sizeOf, typeInfo, hi, Builtin.lenOf, hroom, hf, hadd, hst]; rfl, ⟨hlen, hroom, hcm, hbg, _, setRow_heap w g cur _ e _ hg, ?_, ?_⟩, ⟨rfl, rfl, rfl, by simp, fun k hk hne => setRow_other w g k _ (fun e => hne (by rw [e]))⟩, .inl rfl⟩
    · simp only [List.size_toArray, List.length_append, List.length_take, List.length_drop, Array.length_toList]
      omega
    · have e1 : (cur.toList.take (off + n * i.size)).drop off = xs := by rw [List.drop_take, Nat.add_sub_cancel_left]; exact htake
      have e2 : off ≤ (cur.toList.take (off + n * i.size)).length := by rw [List.length_take, Array.length_toList]; omega
      rw [← hlen]
      simp only []
      rw [List.drop_append_of_le_length e2, e1, ← List.append_assoc]
      exact List.take_left
  · have holds : ∀ j u, xs[j]? = some u → w.cell? ((⟨g, off, none⟩ : Addr).add j) = some u := by
      intro j u hu
      have hadd : (⟨g, off, none⟩ : Addr).add j = ⟨g, off + j, none⟩ := by unfold Addr.add; split <;> simp_all
      rw [hadd]
      rcases hrd with h | ⟨g', off', he, h⟩
      · rw [h] at hu; cases hu
      · injection he with he; injection he with h1 h2; subst h1 h2; exact h j u hu
    have hr := run_append_grow (P := P) w t ty e i z ht hi hz ⟨g, off, none⟩ n c xs hx holds a m c2 news hl hnews (by omega) (by simp only [maxLen] at h63; omega) (growslice_fits (by omega) hbytes)
    have hge := grownCap_ge w (n + m) c e
    have hcm2 : grownCap w (n + m) c e ≤ maxLen := grownCap_le_maxLen w (n + m) c e h63
    refine ⟨_, _, _, _, hr, ⟨hlen, hge, hcm2, hbase, _, heap_alloc_new w.drew _, ?_, ?_⟩, ⟨rfl, rfl, rfl, by simp, fun k hk _ => Below.heap_alloc w.drew _ k hk⟩, .inr rfl⟩
    · simp only [Array.size_append, List.size_toArray, size_zeroCells, hzs, hx, hl, ← Nat.add_mul, Nat.zero_add]
      refine Nat.le_of_eq ?_
      congr 1
      omega
    · simp only [Array.toList_append, List.append_assoc, List.drop_zero]
      rw [← List.append_assoc, ← hlen]
      exact List.take_left
end
section
variable (w : World) {ops : Array Oper} {rest : List Oper} {o : Oper} {a : Act} {Q : Exit → Act → World → Prop}
theorem app_QC (hgd : o.guard = none) (s x : Operand) (ho : o.op = .call { callee := .builtin .append, args := #[s, x], argTypes := #[30, 30] })
    (base g off n c : Nat) (l : List C) (hs : a.eval s = .slice (some ⟨g, off, none⟩) n c) (hown : World.ownsQ w base 55 2 g off n c (vC l))
    (g2 m c2 : Nat) (l2 : List C) (hx : a.eval x = .slice (some ⟨g2, 0, none⟩) m c2) (hr : ∀ j u, (vC l2)[j]? = some u → w.cell? ((⟨g2, 0, none⟩ : Addr).add j) = some u) (hl : l2.length = m) (hb : n + m ≤ 1099511627776) (hbase : base ≤ w.heap.size)
    (h : ∀ g' off' c' w', World.ownsQ w' base 55 2 g' off' (n + m) c' (vC (l ++ l2)) → w.grownBy w' (some g) → (g' = g ∨ g' = w.heap.size) → wpList Try.prog ops Q rest (a.put o.dst (.slice (some ⟨g', off', none⟩) (n + m) c')) w') :
    wpList Try.prog ops Q (o :: rest) a w := by
  obtain ⟨i0, hi, hz0, hz1, hz2⟩ := info_parts infoC
  refine wpList_plain hgd fun K hK => ?_
  obtain ⟨g', off', c', w', hrun, h2, h3, h4⟩ := run_append_Q (P := Try.prog) w 30 o.type i0 _ 16 Try.underlying30 hi hz0 hz1 hz2 rfl hown ⟨g2, 0, none⟩ m c2 (vC l2) (by rw [vC_length, hl]) hr (vC_one _) (by unfold maxLen; omega) (by omega) hbase
  rw [← vC_append] at h2
  unfold Oper.wp execOp
  simp only [ho, resolve, invoke, builtin, Sem.run_bind, Sem.run_pure, Result.andThen_ok, List.map_toArray, List.map_cons, List.map_nil, hs, hx, hrun]
  exact hK _ _ (h g' off' c' w' h2 h3 h4)
end
theorem newC_cells (w : World) (t : TypeId) (x y : Int) : ∀ j u, (vC [(x, y)])[j]? = some u → (w.alloc (.cells #[.int .i64 x, .int .i64 y] t)).cell? ((⟨w.heap.size, 0, none⟩ : Addr).add j) = some u := by
  intro j u hu
  have h := rd_newC w t x y
  rcases h with h | ⟨g, off, he, h⟩
  · simp [vC] at h
  · injection he with he; injection he with h1 h2; subst h1 h2
    have := h j u hu
    have hadd : (⟨w.heap.size, 0, none⟩ : Addr).add j = ⟨w.heap.size, 0 + j, none⟩ := by unfold Addr.add; split <;> simp_all
    rw [hadd]; exact this
end Go.Proofs.Ytagkopemcabkpaa

/- Plain functions on words of steps: a step, the places of a way, the area, the way back. No program is in sight. -/
namespace Go.Proofs.Ytagkopemcabkpaa
open Go.RowKit
set_option linter.unusedVariables false

/-- A step by a letter; a letter that is no step leads nowhere. -/
def stepW (c : C) (b : UInt8) : Option C :=
  if b = 114 then some (wrap64 (c.1 + 1), c.2) else if b = 108 then some (wrap64 (c.1 - 1), c.2) else if b = 100 then some (c.1, wrap64 (c.2 + 1)) else if b = 117 then some (c.1, wrap64 (c.2 - 1)) else none

theorem u8_of {b : UInt8} (k : UInt8) (h : ((b.toNat : Int) == (k.toNat : Int)) = true) : b = k := by
  have := beq_iff_eq.1 h
  exact UInt8.toNat_inj.1 (by omega)
theorem u8_ne {b : UInt8} (k : UInt8) (h : ((b.toNat : Int) == (k.toNat : Int)) = false) : b ≠ k := by
  rintro rfl
  simp at h
theorem u8_is (b k : UInt8) : ((b.toNat : Int) == (k.toNat : Int)) = decide (b = k) := by
  rw [Bool.eq_iff_iff, beq_iff_eq, decide_eq_true_eq, ← UInt8.toNat_inj]; omega

/-- The places of a way, the start first. -/
def wayW (c : C) : List UInt8 → Option (List C)
  | [] => some [c]
  | b :: t => (stepW c b).bind fun d => (wayW d t).map (c :: ·)
/-- Where a way ends. -/
def endW (c : C) : List UInt8 → Option C
  | [] => some c
  | b :: t => (stepW c b).bind fun d => endW d t

theorem wayW_len {c : C} {w : List UInt8} {l : List C} (h : wayW c w = some l) : l.length = w.length + 1 := by
  induction w generalizing c l with
  | nil => simp [wayW] at h; subst h; rfl
  | cons b t ih =>
    simp only [wayW, Option.bind_eq_some_iff, Option.map_eq_some_iff] at h
    obtain ⟨d, _, l', h', rfl⟩ := h
    simp [ih h']
theorem endW_snoc (c : C) (t : List UInt8) (b : UInt8) : endW c (t ++ [b]) = (endW c t).bind fun d => stepW d b := by
  induction t generalizing c with
  | nil => simp [endW]
  | cons a t ih =>
    simp only [List.cons_append, endW]
    cases stepW c a with
    | none => rfl
    | some d => exact ih d
theorem wayW_snoc (c : C) (t : List UInt8) (b : UInt8) : wayW c (t ++ [b]) = (wayW c t).bind fun l => (endW c t).bind fun d => (stepW d b).map fun e => l ++ [e] := by
  induction t generalizing c with
  | nil => simp [wayW, endW]; cases stepW c b <;> simp
  | cons a t ih =>
    simp only [List.cons_append, wayW, endW]
    cases stepW c a with
    | none => rfl
    | some d =>
      simp only [Option.bind_some, ih]
      cases wayW d t <;> simp
      cases endW d t <;> simp
      rename_i x y
      cases stepW y b <;> simp
theorem endW_of_way {c : C} {w : List UInt8} {l : List C} (h : wayW c w = some l) : endW c w = l.getLast? := by
  induction w generalizing c l with
  | nil => simp [wayW] at h; subst h; rfl
  | cons b t ih =>
    simp only [wayW, Option.bind_eq_some_iff, Option.map_eq_some_iff] at h
    obtain ⟨d, hd, l', h', rfl⟩ := h
    simp only [endW, hd, Option.bind_some, ih h']
    cases l' with
    | nil => have := wayW_len h'; simp at this
    | cons x y => simp [List.getLast?_cons_cons]
theorem wayW_none {c : C} {w : List UInt8} : wayW c w = none ↔ endW c w = none := by
  induction w generalizing c with
  | nil => simp [wayW, endW]
  | cons b t ih =>
    simp only [wayW, endW]
    cases stepW c b with
    | none => simp
    | some d => simp [ih]
/-- A way that breaks off breaks off for good. -/
theorem endW_none_append {c : C} {t : List UInt8} (h : endW c t = none) (r : List UInt8) : endW c (t ++ r) = none := by
  induction t generalizing c with
  | nil => simp [endW] at h
  | cons a t ih =>
    simp only [List.cons_append, endW] at h ⊢
    cases hs : stepW c a with
    | none => rfl
    | some d => rw [hs] at h; exact ih h

theorem take_snoc (s : ByteArray) (k : Nat) (h : k < s.size) : s.data.toList.take (k + 1) = s.data.toList.take k ++ [s[k]] := by
  rw [List.take_succ_eq_append_getElem (by simpa using h)]; rfl
theorem take_all (s : ByteArray) : s.data.toList.take s.size = s.data.toList := List.take_of_length_le (by rw [Array.length_toList]; exact Nat.le_refl _)
theorem end_step (s : ByteArray) (k : Nat) (h : k < s.size) (c d : C) (hd : endW c (s.data.toList.take k) = some d) : endW c (s.data.toList.take (k + 1)) = stepW d s[k] := by
  rw [take_snoc s k h, endW_snoc, hd]; rfl
theorem way_step (s : ByteArray) (k : Nat) (h : k < s.size) (c d : C) (l : List C) (hl : wayW c (s.data.toList.take k) = some l) (hd : endW c (s.data.toList.take k) = some d) :
    wayW c (s.data.toList.take (k + 1)) = (stepW d s[k]).map fun e => l ++ [e] := by
  rw [take_snoc s k h, wayW_snoc, hl, hd]; rfl
theorem way_end {c : C} {w : List UInt8} {l : List C} (h : wayW c w = some l) : endW c w = some (l.getD w.length (0, 0)) := by
  rw [endW_of_way h, List.getLast?_eq_getElem?, wayW_len h, Nat.add_sub_cancel, List.getD_eq_getElem?_getD, List.getElem?_eq_getElem (by rw [wayW_len h]; omega)]
  rfl
theorem end_none_of_take {c : C} {s : ByteArray} {k : Nat} (h : endW c (s.data.toList.take k) = none) : endW c s.data.toList = none := by
  have := endW_none_append h (s.data.toList.drop k)
  rwa [List.take_append_drop] at this

/-- A closed word: at most 40 steps that lead back. -/
def closedW (w : List UInt8) : Bool := decide (w.length ≤ 40) && decide (endW (0, 0) w = some (0, 0))

theorem end_take {c e : C} {t : List UInt8} (h : endW c t = some e) (k : Nat) : ∃ d, endW c (t.take k) = some d := by
  cases hd : endW c (t.take k) with
  | some d => exact ⟨d, rfl⟩
  | none =>
    have := endW_none_append hd (t.drop k)
    rw [List.take_append_drop, h] at this
    cases this
theorem wayW_take {c : C} {t : List UInt8} {l : List C} (h : wayW c t = some l) (k : Nat) : wayW c (t.take k) = some (l.take (k + 1)) := by
  induction t generalizing c l k with
  | nil => simp [wayW] at h; subst h; simp [wayW]
  | cons b t ih =>
    cases k with
    | zero =>
      simp only [wayW, Option.bind_eq_some_iff, Option.map_eq_some_iff] at h
      obtain ⟨d, hd, l', h', rfl⟩ := h
      simp [wayW]
    | succ k =>
      simp only [wayW, Option.bind_eq_some_iff, Option.map_eq_some_iff] at h
      obtain ⟨d, hd, l', h', rfl⟩ := h
      simp [wayW, hd, ih h' k]
theorem way_at {c : C} {t : List UInt8} {l : List C} (h : wayW c t = some l) (k : Nat) (hk : k ≤ t.length) : endW c (t.take k) = some (l.getD k (0, 0)) := by
  have h1 := way_end (wayW_take h k)
  rw [List.length_take, Nat.min_eq_left hk] at h1
  rw [h1, List.getD_eq_getElem?_getD, List.getD_eq_getElem?_getD, List.getElem?_take_of_lt (by omega)]

/-- The area inside: a step to the left adds the height, one to the right takes it away. -/
def areaS (n : Int) (b : UInt8) (c : C) : Int := if b = 114 then wrap64 (n - c.2) else if b = 108 then wrap64 (n + c.2) else n
def areaW (c : C) : List UInt8 → Int → Int
  | [], n => n
  | b :: t, n => areaW ((stepW c b).getD c) t (areaS n b c)
theorem areaW_snoc {c d : C} {t : List UInt8} (b : UInt8) (n : Int) (h : endW c t = some d) : areaW c (t ++ [b]) n = areaS (areaW c t n) b d := by
  induction t generalizing c n with
  | nil => simp [endW] at h; subst h; rfl
  | cons a t ih =>
    simp only [endW, Option.bind_eq_some_iff] at h
    obtain ⟨e, he, h'⟩ := h
    simp only [List.cons_append, areaW, he, Option.getD_some]
    exact ih _ h'
theorem area_step (s : ByteArray) (k : Nat) (h : k < s.size) (c d : C) (n : Int) (hd : endW c (s.data.toList.take k) = some d) :
    areaW c (s.data.toList.take (k + 1)) n = areaS (areaW c (s.data.toList.take k) n) s[k] d := by
  rw [take_snoc s k h, areaW_snoc _ _ hd]
def areaV (s : ByteArray) : Value := if closedW s.data.toList = true then .tuple #[.int .i64 (areaW (0, 0) s.data.toList 0), .bool true] else .tuple #[.int .i64 0, .bool false]
theorem data_len (s : ByteArray) : s.data.toList.length = s.size := by rw [Array.length_toList]; rfl
theorem closedW_of {s : ByteArray} (h40 : s.size ≤ 40) (e : C) (h : endW (0, 0) s.data.toList = some e) : closedW s.data.toList = (e.1 == 0 && e.2 == 0) := by
  unfold closedW
  rw [data_len, h]
  obtain ⟨x, y⟩ := e
  by_cases h1 : x = 0 <;> by_cases h2 : y = 0 <;> simp [h1, h2, h40]
theorem closedW_far {s : ByteArray} (h40 : ¬ s.size ≤ 40) : closedW s.data.toList = false := by
  unfold closedW
  rw [data_len]
  simp [h40]
theorem closedW_none {s : ByteArray} (h : endW (0, 0) s.data.toList = none) : closedW s.data.toList = false := by
  unfold closedW
  rw [h]
  simp
theorem closedW_yes {s : ByteArray} (h : closedW s.data.toList = true) : s.size ≤ 40 ∧ endW (0, 0) s.data.toList = some (0, 0) := by
  unfold closedW at h
  rw [data_len] at h
  simpa using h

/-- The way back. -/
def oppS (b : UInt8) : UInt8 := if b = 114 then 108 else if b = 100 then 117 else if b = 108 then 114 else 100
def isS (b : UInt8) : Bool := b == 114 || b == 108 || b == 100 || b == 117
def revW (w : List UInt8) : List UInt8 := w.reverse.map oppS
/-- The letter of the step from one place to another. -/
def stepV (a b : C) : UInt8 := if b.1 > a.1 then 114 else if b.1 < a.1 then 108 else if b.2 > a.2 then 100 else 117
theorem stepW_some {c : C} {b : UInt8} : (stepW c b).isSome = isS b := by
  unfold stepW isS
  by_cases h1 : b = 114 <;> by_cases h2 : b = 108 <;> by_cases h3 : b = 100 <;> by_cases h4 : b = 117 <;> simp [h1, h2, h3, h4]
theorem wayW_all {c : C} {w : List UInt8} : (wayW c w).isSome = w.all isS := by
  induction w generalizing c with
  | nil => rfl
  | cons b t ih =>
    simp only [wayW, List.all_cons]
    cases h : stepW c b with
    | none => have := stepW_some (c := c) (b := b); rw [h] at this; simp [← this]
    | some d => have := stepW_some (c := c) (b := b); rw [h] at this; simp [← this, ih]
theorem stepW_val {x y : Int} {b : UInt8} {d : C} (h : stepW (x, y) b = some d) (hx : -1000 ≤ x ∧ x ≤ 1000) (hy : -1000 ≤ y ∧ y ≤ 1000) :
    d = if b = 114 then (x + 1, y) else if b = 108 then (x - 1, y) else if b = 100 then (x, y + 1) else (x, y - 1) := by
  have e1 : wrap64 (x + 1) = x + 1 := IntWalk.wrap64_in _ (by omega)
  have e2 : wrap64 (x - 1) = x - 1 := IntWalk.wrap64_in _ (by omega)
  have e3 : wrap64 (y + 1) = y + 1 := IntWalk.wrap64_in _ (by omega)
  have e4 : wrap64 (y - 1) = y - 1 := IntWalk.wrap64_in _ (by omega)
  unfold stepW at h
  rw [e1, e2, e3, e4] at h
  by_cases h1 : b = 114
  · simp [h1] at h ⊢; exact h.symm
  by_cases h2 : b = 108
  · simp [h2] at h ⊢; exact h.symm
  by_cases h3 : b = 100
  · simp [h3] at h ⊢; exact h.symm
  by_cases h4 : b = 117
  · simp [h4] at h ⊢; exact h.symm
  simp [h1, h2, h3, h4] at h
theorem endW_bound {c d : C} {t : List UInt8} (h : endW c t = some d) (m : Nat) (hm : m + t.length ≤ 1000) (hc : (-(m : Int) ≤ c.1 ∧ c.1 ≤ m) ∧ (-(m : Int) ≤ c.2 ∧ c.2 ≤ m)) :
    (-((m + t.length : Nat) : Int) ≤ d.1 ∧ d.1 ≤ ((m + t.length : Nat) : Int)) ∧ (-((m + t.length : Nat) : Int) ≤ d.2 ∧ d.2 ≤ ((m + t.length : Nat) : Int)) := by
  induction t generalizing c m with
  | nil => simp [endW] at h; subst h; simpa using hc
  | cons b t ih =>
    simp only [endW, Option.bind_eq_some_iff] at h
    obtain ⟨e, he, h'⟩ := h
    simp only [List.length_cons] at hm ⊢
    obtain ⟨x, y⟩ := c
    simp only at hc
    have hv := stepW_val he (by omega) (by omega)
    have := ih h' (m + 1) (by omega) (by
      rw [hv]
      split
      · constructor <;> constructor <;> simp only <;> omega
      split
      · constructor <;> constructor <;> simp only <;> omega
      split
      · constructor <;> constructor <;> simp only <;> omega
      · constructor <;> constructor <;> simp only <;> omega)
    rw [show m + (t.length + 1) = m + 1 + t.length from by omega]
    exact this
theorem stepV_back {x y : Int} {b : UInt8} {d : C} (h : stepW (x, y) b = some d) (hx : -1000 ≤ x ∧ x ≤ 1000) (hy : -1000 ≤ y ∧ y ≤ 1000) : stepV d (x, y) = oppS b := by
  have hs : isS b = true := by rw [← stepW_some (c := (x, y)), h]; rfl
  have hv := stepW_val h hx hy
  subst hv
  unfold stepV oppS
  by_cases h1 : b = 114
  · subst h1
    have a1 : ¬ x > x + 1 := by omega
    have a2 : x < x + 1 := by omega
    simp only [if_true, a1, a2, if_false]
  by_cases h2 : b = 108
  · subst h2
    have a1 : x > x - 1 := by omega
    simp [a1]
  by_cases h3 : b = 100
  · subst h3
    have a1 : ¬ y > y + 1 := by omega
    simp [a1]
  by_cases h4 : b = 117
  · subst h4
    have a1 : y > y - 1 := by omega
    simp [a1]
  simp [isS, h1, h2, h3, h4] at hs
theorem revW_drop (s : ByteArray) (k : Nat) (h : k < s.size) : revW (s.data.toList.drop k) = revW (s.data.toList.drop (k + 1)) ++ [oppS s[k]] := by
  unfold revW
  rw [List.drop_eq_getElem_cons (by rw [data_len]; exact h), List.reverse_cons, List.map_append]
  rfl
theorem all_drop (s : ByteArray) (k : Nat) (h : k < s.size) : (s.data.toList.drop k).all isS = (isS s[k] && (s.data.toList.drop (k + 1)).all isS) := by
  rw [List.drop_eq_getElem_cons (by rw [data_len]; exact h), List.all_cons]
  rfl
def bs (l : List UInt8) : ByteArray := ⟨l.toArray⟩
theorem bs_of {o : ByteArray} {l : List UInt8} (h : o.data.toList = l) : o = bs l := by
  subst h
  unfold bs
  cases o
  rfl
def revV (s : ByteArray) : Value := if s.size ≤ 20 ∧ s.data.toList.all isS = true then .tuple #[.string (bs (revW s.data.toList)), .bool true] else .tuple #[.string (bs []), .bool false]
end Go.Proofs.Ytagkopemcabkpaa

/- What the program's and the reference's functions on single steps do: walks. -/
namespace Go.Proofs.Ytagkopemcabkpaa
open Go.RowKit
set_option linter.unusedVariables false
attribute [local go_sem ↓] Go.wp_at_zero Go.wp_at_succ

/-- What a step returns: the place behind it, whether it is one. -/
def StepP (c : C) (b : UInt8) (w : World) (e : Ending) (w' : World) : Prop :=
  e = .returned (.tuple #[.agg #[.int .i64 ((stepW c b).getD c).1, .int .i64 ((stepW c b).getD c).2], .bool (stepW c b).isSome]) ∧ Below w.heap.size w w'

theorem stepFrom_i (x y : Int) (b : UInt8) (w : World) :
    Calls Try.prog 54 #[.agg #[.int .i64 x, .int .i64 y], .int .u8 b.toNat] w (StepP (x, y) b w) := by
  by_cases h1 : b = 114
  · subst h1
    go_enter Try.func54, Try.ntmps54
    go_wp2
    exact bodyPost_ret (v := .tuple #[.agg #[.int .i64 (wrap64 (x + 1)), .int .i64 y], .bool true]) (by simp [results, Try.results54, go_sem]) rfl ⟨rfl, (by (repeat (first | with_reducible exact Below.refl _ _ | with_reducible assumption | with_reducible apply bel_alloc | with_reducible apply bel_drew | with_reducible apply bel_drewN | ((with_reducible refine bel_set ?_ ?_); rotate_left; (simp <;> omega)) | (with_reducible refine bel_trans ?_ (by with_reducible assumption)))))⟩
  by_cases h2 : b = 108
  · subst h2
    go_enter Try.func54, Try.ntmps54
    go_wp2
    exact bodyPost_ret (v := .tuple #[.agg #[.int .i64 (wrap64 (x - 1)), .int .i64 y], .bool true]) (by simp [results, Try.results54, go_sem]) rfl ⟨rfl, (by (repeat (first | with_reducible exact Below.refl _ _ | with_reducible assumption | with_reducible apply bel_alloc | with_reducible apply bel_drew | with_reducible apply bel_drewN | ((with_reducible refine bel_set ?_ ?_); rotate_left; (simp <;> omega)) | (with_reducible refine bel_trans ?_ (by with_reducible assumption)))))⟩
  by_cases h3 : b = 100
  · subst h3
    go_enter Try.func54, Try.ntmps54
    go_wp2
    exact bodyPost_ret (v := .tuple #[.agg #[.int .i64 x, .int .i64 (wrap64 (y + 1))], .bool true]) (by simp [results, Try.results54, go_sem]) rfl ⟨rfl, (by (repeat (first | with_reducible exact Below.refl _ _ | with_reducible assumption | with_reducible apply bel_alloc | with_reducible apply bel_drew | with_reducible apply bel_drewN | ((with_reducible refine bel_set ?_ ?_); rotate_left; (simp <;> omega)) | (with_reducible refine bel_trans ?_ (by with_reducible assumption)))))⟩
  by_cases h4 : b = 117
  · subst h4
    go_enter Try.func54, Try.ntmps54
    go_wp2
    exact bodyPost_ret (v := .tuple #[.agg #[.int .i64 x, .int .i64 (wrap64 (y - 1))], .bool true]) (by simp [results, Try.results54, go_sem]) rfl ⟨rfl, (by (repeat (first | with_reducible exact Below.refl _ _ | with_reducible assumption | with_reducible apply bel_alloc | with_reducible apply bel_drew | with_reducible apply bel_drewN | ((with_reducible refine bel_set ?_ ?_); rotate_left; (simp <;> omega)) | (with_reducible refine bel_trans ?_ (by with_reducible assumption)))))⟩
  have e1 : ((b.toNat : Int) == 114) = false := (u8_is b 114).trans (by simpa using h1)
  have e2 : ((b.toNat : Int) == 108) = false := (u8_is b 108).trans (by simpa using h2)
  have e3 : ((b.toNat : Int) == 100) = false := (u8_is b 100).trans (by simpa using h3)
  have e4 : ((b.toNat : Int) == 117) = false := (u8_is b 117).trans (by simpa using h4)
  have e : stepW (x, y) b = none := by simp [stepW, h1, h2, h3, h4]
  clear h1 h2 h3 h4
  have E := Lib.hid e
  clear e
  go_enter Try.func54, Try.ntmps54
  go_wp2
  exact bodyPost_ret (v := .tuple #[.agg #[.int .i64 x, .int .i64 y], .bool false]) (by simp [results, Try.results54, go_sem]) rfl ⟨by rw [E.out]; rfl, (by (repeat (first | with_reducible exact Below.refl _ _ | with_reducible assumption | with_reducible apply bel_alloc | with_reducible apply bel_drew | with_reducible apply bel_drewN | ((with_reducible refine bel_set ?_ ?_); rotate_left; (simp <;> omega)) | (with_reducible refine bel_trans ?_ (by with_reducible assumption)))))⟩

end Go.Proofs.Ytagkopemcabkpaa

/- What the program's and the reference's first functions on cells do: walks. -/
namespace Go.Proofs.Ytagkopemcabkpaa
open Go.RowKit
set_option linter.unusedVariables false
attribute [local go_sem ↓] Go.wp_at_zero Go.wp_at_succ

theorem beside_i (a b c d : Int) (w : World) : Calls Try.prog 89 #[.agg #[.int .i64 a, .int .i64 b], .agg #[.int .i64 c, .int .i64 d]] w (Ret w (.bool (nearI (a, b) (c, d)))) := by
  by_cases h1 : wrap64 (a - c) < wrap64 (c - a) <;> by_cases h2 : wrap64 (b - d) < wrap64 (d - b)
  all_goals
    have HV : Hid (nearI (a, b) (c, d) = (wrap64 ((if wrap64 (a - c) < wrap64 (c - a) then wrap64 (c - a) else wrap64 (a - c)) + (if wrap64 (b - d) < wrap64 (d - b) then wrap64 (d - b) else wrap64 (b - d))) == 1)) := rfl
    have H1 := Lib.hid h1
    have H2 := Lib.hid h2
    go_enter Try.func89, Try.ntmps89
    go_wp2
    go_quiet (fail)
    go_wp2
    go_ret
    have q1 := H1.out
    have q2 := H2.out
    exact ⟨by rw [HV.out]; first | (rw [if_pos q1, if_pos q2]; rfl) | (rw [if_pos q1, if_neg (Int.not_lt.2 q2)]; rfl) | (rw [if_neg (Int.not_lt.2 q1), if_pos q2]; rfl) | (rw [if_neg (Int.not_lt.2 q1), if_neg (Int.not_lt.2 q2)]; rfl), (by (repeat (first | with_reducible exact Below.refl _ _ | with_reducible assumption | with_reducible apply bel_alloc | with_reducible apply bel_drew | with_reducible apply bel_drewN | ((with_reducible refine bel_set ?_ ?_); rotate_left; (simp <;> omega)) | (with_reducible refine bel_trans ?_ (by with_reducible assumption)))))⟩
theorem l2Near_s (a b c d : Int) (w : World) : Calls Try.prog 66 #[.agg #[.int .i64 a, .int .i64 b], .agg #[.int .i64 c, .int .i64 d]] w (Ret w (.bool (nearS (a, b) (c, d)))) := by
  go_enter Try.func66, Try.ntmps66
  go_wp2
  go_ret
  exact ⟨rfl, (by (repeat (first | with_reducible exact Below.refl _ _ | with_reducible assumption | with_reducible apply bel_alloc | with_reducible apply bel_drew | with_reducible apply bel_drewN | ((with_reducible refine bel_set ?_ ?_); rotate_left; (simp <;> omega)) | (with_reducible refine bel_trans ?_ (by with_reducible assumption)))))⟩
theorem onBoard_i (a b : Int) (w : World) : Calls Try.prog 67 #[.agg #[.int .i64 a, .int .i64 b]] w (Ret w (.bool (onB (a, b)))) := by
  by_cases h1 : 0 ≤ a ∧ a ≤ 7
  · have hv : onB (a, b) = (decide (0 ≤ b) && decide (b ≤ 7)) := by simp [onB, h1]
    have HV := Lib.hid hv
    clear hv
    go_enter Try.func67, Try.ntmps67
    go_wp2_with fail
    refine (between_t _ _ _ _ (by omega) (by omega)).mono ?_
    rintro e w1 ⟨rfl, hb1⟩
    have k2 : w1.cell? ⟨w.heap.size, 1, none⟩ = some (.int .i64 b) := by simpa using ((Blk.new w 55 #[.int .i64 a, .int .i64 b]).below hb1).cell 1
    go_wp2_with fail
    refine (between_b _ _ _ _ _ rfl).mono ?_
    rintro e w2 ⟨rfl, hb2⟩
    go_wp2_with fail
    go_ret
    exact ⟨by rw [HV.out]; rfl, (by (repeat (first | with_reducible exact Below.refl _ _ | with_reducible assumption | with_reducible apply bel_alloc | with_reducible apply bel_drew | with_reducible apply bel_drewN | ((with_reducible refine bel_set ?_ ?_); rotate_left; (simp <;> omega)) | (with_reducible refine bel_trans ?_ (by with_reducible assumption)))))⟩
  · have hv : onB (a, b) = false := by simp [onB]; omega
    have HV := Lib.hid hv
    clear hv
    go_enter Try.func67, Try.ntmps67
    go_wp2_with (go_at_call 48; refine (between_f _ _ _ _ h1).mono ?_; rintro e w1 ⟨rfl, hb1⟩)
    go_ret
    exact ⟨by rw [HV.out]; rfl, (by (repeat (first | with_reducible exact Below.refl _ _ | with_reducible assumption | with_reducible apply bel_alloc | with_reducible apply bel_drew | with_reducible apply bel_drewN | ((with_reducible refine bel_set ?_ ?_); rotate_left; (simp <;> omega)) | (with_reducible refine bel_trans ?_ (by with_reducible assumption)))))⟩
theorem HasCell_i (A : Option Addr) (n c : Nat) (xs : List C) (x y : Int) (w : World) (hr : Rd w A (vC xs)) (hl : xs.length = n) (hn : n ≤ 1099511627776) :
    Calls Try.prog 55 #[.slice A n c, .int .i64 x, .int .i64 y] w (Ret w (.bool (hasC xs x y))) := by
  have HL := Lib.hid hl
  clear hl
  go_enter Try.func55, Try.ntmps55
  go_wp2
  go_loopw [11] (fun i wr => ∃ k : Nat, k ≤ n ∧ i = .int .i64 k ∧ hasC (xs.take k) x y = false ∧ Below w.heap.size w wr) (fun i _ => n - (intOf i).toNat)
  case atStart => exact ⟨0, Nat.zero_le _, rfl, rfl, Below.refl _ _⟩
  case round =>
    obtain ⟨k, hk, rfl, hno, hb⟩ := hrel
    by_cases hlt : k < n
    · have hkx : k < xs.length := by rw [HL.out]; omega
      obtain ⟨g, off, rfl, hgw, c1, c2⟩ := RdC.at_ (hr.below hb) hkx
      have ht := any_take (fun c => c.1 == x && c.2 == y) xs k hkx
      have hf := any_full (fun c => c.1 == x && c.2 == y) xs k hkx
      obtain ⟨⟨a, b⟩, hx⟩ : ∃ p, xs[k] = p := ⟨_, rfl⟩
      rw [hx] at c1 c2 ht hf
      have HT := Lib.hid ht
      have HF := Lib.hid hf
      have HN := Lib.hid hno
      clear ht hf hx hno
      by_cases h1 : a = x
      · by_cases h2 : b = y
        · have HV : Hid (hasC xs x y = true) := HF.out (by simp [h1, h2])
          have e1 : (a == x) = true := by simp [h1]
          have e2 : (b == y) = true := by simp [h2]
          clear h1 h2 HF
          go_wp2
          go_ret
          exact ⟨by rw [HV.out]; rfl, (by (repeat (first | with_reducible exact Below.refl _ _ | with_reducible assumption | with_reducible apply bel_alloc | with_reducible apply bel_drew | with_reducible apply bel_drewN | ((with_reducible refine bel_set ?_ ?_); rotate_left; (simp <;> omega)) | (with_reducible refine bel_trans ?_ (by with_reducible assumption)))))⟩
        · have HV : Hid (hasC (xs.take (k + 1)) x y = false) := by
            show hasC (xs.take (k + 1)) x y = false
            rw [show hasC (xs.take (k + 1)) x y = _ from HT.out, show ((xs.take k).any fun c => c.1 == x && c.2 == y) = false from HN.out]; simp [h2]
          have e1 : (a == x) = true := by simp [h1]
          have e2 : (b == y) = false := by simp [h2]
          clear h1 h2
          go_wp2
          exact ⟨⟨k + 1, by omega, by go_num, HV.out, (by (repeat (first | with_reducible exact Below.refl _ _ | with_reducible assumption | with_reducible apply bel_alloc | with_reducible apply bel_drew | with_reducible apply bel_drewN | ((with_reducible refine bel_set ?_ ?_); rotate_left; (simp <;> omega)) | (with_reducible refine bel_trans ?_ (by with_reducible assumption)))))⟩, by simp [intOf]; omega⟩
      · have HV : Hid (hasC (xs.take (k + 1)) x y = false) := by
          show hasC (xs.take (k + 1)) x y = false
          rw [show hasC (xs.take (k + 1)) x y = _ from HT.out, show ((xs.take k).any fun c => c.1 == x && c.2 == y) = false from HN.out]; simp [h1]
        have e1 : (a == x) = false := by simp [h1]
        clear h1
        go_wp2
        exact ⟨⟨k + 1, by omega, by go_num, HV.out, (by (repeat (first | with_reducible exact Below.refl _ _ | with_reducible assumption | with_reducible apply bel_alloc | with_reducible apply bel_drew | with_reducible apply bel_drewN | ((with_reducible refine bel_set ?_ ?_); rotate_left; (simp <;> omega)) | (with_reducible refine bel_trans ?_ (by with_reducible assumption)))))⟩, by simp [intOf]; omega⟩
    · have hkk : k = n := by omega
      subst hkk
      rw [List.take_of_length_le (by rw [HL.out]; omega)] at hno
      have HV := Lib.hid hno
      clear hno
      go_wp2
      go_ret
      exact ⟨by rw [HV.out]; rfl, (by (repeat (first | with_reducible exact Below.refl _ _ | with_reducible assumption | with_reducible apply bel_alloc | with_reducible apply bel_drew | with_reducible apply bel_drewN | ((with_reducible refine bel_set ?_ ?_); rotate_left; (simp <;> omega)) | (with_reducible refine bel_trans ?_ (by with_reducible assumption)))))⟩
theorem HasCell_s (A : Option Addr) (n c : Nat) (xs : List C) (x y : Int) (w : World) (hr : Rd w A (vC xs)) (hl : xs.length = n) (hn : n ≤ 1099511627776) :
    Calls Try.prog 56 #[.slice A n c, .int .i64 x, .int .i64 y] w (Ret w (.bool (hasC xs x y))) := by
  have HL := Lib.hid hl
  clear hl
  go_enter Try.func56, Try.ntmps56
  go_wp2
  go_loopw [7] (fun i wr => ∃ k : Nat, k ≤ n ∧ i = .int .i64 k ∧ hasC (xs.take k) x y = false ∧ Below w.heap.size w wr) (fun i _ => n - (intOf i).toNat)
  case atStart => exact ⟨0, Nat.zero_le _, rfl, rfl, Below.refl _ _⟩
  case round =>
    obtain ⟨k, hk, rfl, hno, hb⟩ := hrel
    by_cases hlt : k < n
    · have hkx : k < xs.length := by rw [HL.out]; omega
      obtain ⟨g, off, rfl, hgw, c1, c2⟩ := RdC.at_ (hr.below hb) hkx
      have ht := any_take (fun c => c.1 == x && c.2 == y) xs k hkx
      have hf := any_full (fun c => c.1 == x && c.2 == y) xs k hkx
      obtain ⟨⟨a, b⟩, hx⟩ : ∃ p, xs[k] = p := ⟨_, rfl⟩
      rw [hx] at c1 c2 ht hf
      have HT := Lib.hid ht
      have HF := Lib.hid hf
      have HN := Lib.hid hno
      clear ht hf hx hno
      by_cases h1 : a = x
      · by_cases h2 : b = y
        · have HV : Hid (hasC xs x y = true) := HF.out (by simp [h1, h2])
          have e1 : (a == x) = true := by simp [h1]
          have e2 : (b == y) = true := by simp [h2]
          clear h1 h2 HF
          go_wp2
          go_ret
          exact ⟨by rw [HV.out]; rfl, (by (repeat (first | with_reducible exact Below.refl _ _ | with_reducible assumption | with_reducible apply bel_alloc | with_reducible apply bel_drew | with_reducible apply bel_drewN | ((with_reducible refine bel_set ?_ ?_); rotate_left; (simp <;> omega)) | (with_reducible refine bel_trans ?_ (by with_reducible assumption)))))⟩
        · have HV : Hid (hasC (xs.take (k + 1)) x y = false) := by
            show hasC (xs.take (k + 1)) x y = false
            rw [show hasC (xs.take (k + 1)) x y = _ from HT.out, show ((xs.take k).any fun c => c.1 == x && c.2 == y) = false from HN.out]; simp [h2]
          have e1 : (a == x) = true := by simp [h1]
          have e2 : (b == y) = false := by simp [h2]
          clear h1 h2
          go_wp2
          exact ⟨⟨k + 1, by omega, by go_num, HV.out, (by (repeat (first | with_reducible exact Below.refl _ _ | with_reducible assumption | with_reducible apply bel_alloc | with_reducible apply bel_drew | with_reducible apply bel_drewN | ((with_reducible refine bel_set ?_ ?_); rotate_left; (simp <;> omega)) | (with_reducible refine bel_trans ?_ (by with_reducible assumption)))))⟩, by simp [intOf]; omega⟩
      · have HV : Hid (hasC (xs.take (k + 1)) x y = false) := by
          show hasC (xs.take (k + 1)) x y = false
          rw [show hasC (xs.take (k + 1)) x y = _ from HT.out, show ((xs.take k).any fun c => c.1 == x && c.2 == y) = false from HN.out]; simp [h1]
        have e1 : (a == x) = false := by simp [h1]
        clear h1
        go_wp2
        exact ⟨⟨k + 1, by omega, by go_num, HV.out, (by (repeat (first | with_reducible exact Below.refl _ _ | with_reducible assumption | with_reducible apply bel_alloc | with_reducible apply bel_drew | with_reducible apply bel_drewN | ((with_reducible refine bel_set ?_ ?_); rotate_left; (simp <;> omega)) | (with_reducible refine bel_trans ?_ (by with_reducible assumption)))))⟩, by simp [intOf]; omega⟩
    · have hkk : k = n := by omega
      subst hkk
      rw [List.take_of_length_le (by rw [HL.out]; omega)] at hno
      have HV := Lib.hid hno
      clear hno
      go_wp2
      go_ret
      exact ⟨by rw [HV.out]; rfl, (by (repeat (first | with_reducible exact Below.refl _ _ | with_reducible assumption | with_reducible apply bel_alloc | with_reducible apply bel_drew | with_reducible apply bel_drewN | ((with_reducible refine bel_set ?_ ?_); rotate_left; (simp <;> omega)) | (with_reducible refine bel_trans ?_ (by with_reducible assumption)))))⟩
end Go.Proofs.Ytagkopemcabkpaa

/- Marks on the cells of a shape; blocks of booleans. -/
namespace Go.Proofs.Ytagkopemcabkpaa
open Go.RowKit
set_option linter.unusedVariables false
structure Marks (xs : List C) (fl : List Bool) : Prop where
  len : fl.length = xs.length
  h0 : fl[0]? = some true
  hin : ∀ i (h : i < xs.length), fl[i]? = some true → Rch xs (s0 xs) xs[i]
theorem Marks.init (xs : List C) (h : 1 ≤ xs.length) : Marks xs ((List.replicate xs.length false).set 0 true) := by
  refine ⟨by simp, by rw [List.getElem?_set_self (by simp; omega)], fun i hi hf => ?_⟩
  rcases Nat.eq_zero_or_pos i with rfl | h'
  · have : xs[0] = s0 xs := by simp [s0, List.getD_eq_getElem?_getD, hi]
    rw [this]; exact .base
  · rw [List.getElem?_set_ne (by omega), List.getElem?_replicate, if_pos hi] at hf
    cases hf
theorem cnt_init (n : Nat) (h : 1 ≤ n) : cnt ((List.replicate n false).set 0 true) = 1 := by
  rw [cnt_set _ _ (by rw [List.getElem?_replicate, if_pos (by omega)])]
  have : cnt (List.replicate n false) = 0 := by unfold cnt; rw [List.count_replicate]; rfl
  omega
theorem Marks.set_ {xs : List C} {fl : List Bool} (h : Marks xs fl) {k j : Nat} (hk : k < xs.length) (hj : j < xs.length) (hf : fl[k]? = some true) (hn : near xs[k] xs[j] = true) : Marks xs (fl.set j true) := by
  refine ⟨by rw [List.length_set]; exact h.len, ?_, fun i hi hg => ?_⟩
  · by_cases e : j = 0
    · subst e; rw [List.getElem?_set_self (by rw [h.len]; exact hj)]
    · rw [List.getElem?_set_ne e]; exact h.h0
  · by_cases e : j = i
    · subst e; exact .step (h.hin k hk hf) (List.getElem_mem hj) hn
    · rw [List.getElem?_set_ne e] at hg; exact h.hin i hi hg
def Cl (xs : List C) (fl : List Bool) (i j : Nat) : Prop :=
  ∀ a b (ha : a < xs.length) (hb : b < xs.length), (a < i ∨ a = i ∧ b < j) → fl[a]? = some true → near xs[a] xs[b] = true → fl[b]? = some true
theorem Cl.zero (xs : List C) (fl : List Bool) : Cl xs fl 0 0 := fun a b _ _ h => by omega
theorem Cl.row {xs : List C} {fl : List Bool} {k j : Nat} (h : Cl xs fl k j) (hj : xs.length ≤ j) : Cl xs fl (k + 1) 0 := fun a b ha hb h1 => h a b ha hb (by omega)
theorem Cl.step {xs : List C} {fl : List Bool} {k j : Nat} (h : Cl xs fl k j) (hk : k < xs.length) (hj : j < xs.length) (hs : fl[k]? = some true → near xs[k] xs[j] = true → fl[j]? = some true) : Cl xs fl k (j + 1) := by
  intro a b ha hb h1
  by_cases e : a = k ∧ b = j
  · obtain ⟨rfl, rfl⟩ := e; exact hs
  · exact h a b ha hb (by omega)
theorem conn_marks {xs : List C} {fl : List Bool} (h : Marks xs fl) (hs : isShape xs = true) {k : Nat} (hc : Cl xs fl k 0) (hk : xs.length ≤ k) : conn xs = decide (cnt fl = xs.length) :=
  conn_of_marks xs fl h.len h.h0 (shape_nodup hs) h.hin fun i j hi hj => hc i j hi hj (.inl (by omega))
def boolOf (v : Value) : Nat := match v with
  | .bool true => 1
  | _ => 0

def vL (xs : List Bool) : List Value := xs.map .bool
theorem vL_length (xs : List Bool) : (vL xs).length = xs.length := by simp [vL]
theorem vL_set (xs : List Bool) (k : Nat) (v : Bool) : (vL xs).toArray.setIfInBounds k (.bool v) = (vL (xs.set k v)).toArray := by
  simp [vL, List.map_set]
theorem blkL_cell {w : World} {g : Nat} {t : TypeId} {ys : List Bool} (h : Blk w g t (vL ys).toArray) {k : Nat} {b : Bool} (hk : ys[k]? = some b) : w.cell? ⟨g, k, none⟩ = some (.bool b) := by
  rw [h.cell k]; simp [vL, hk]
theorem blkL_set {w : World} {g : Nat} {t : TypeId} {ys : List Bool} (h : Blk w g t (vL ys).toArray) (k : Nat) (v : Bool) : Blk (w.setCell ⟨g, k, none⟩ (.bool v)) g t (vL (ys.set k v)).toArray := by
  rw [← vL_set]; exact h.set_ k _
theorem infoL : (Try.prog.info? 4).map (fun i => (i.zero, i.size, i.bytes)) = some (some (.bool false), 1, 1) := by kernel_rfl
theorem mk_L (w : World) (n : Nat) (hn : n ≤ 1048576) : (Instr.makeSlice 99 (.int .i64 (n : Int)) (.int .i64 (n : Int))).run Try.prog w = .ok (.slice (some ⟨w.heap.size, 0, none⟩) n n) (w.alloc (.cells (vL (List.replicate n false)).toArray 4)) := by
  obtain ⟨i0, hi, hz0, hz1, hz2⟩ := info_parts infoL
  have h := run_make (P := Try.prog) w 99 4 i0 _ Try.underlying99 hi hz0 .i64 .i64 (n : Int) (n : Int) (by omega) (Int.le_refl _) (by rw [hz2]; omega) (by omega)
  rw [h, hz1]
  have e : madeCells (Value.bool false).cells ((n : Int).toNat * 1) = (vL (List.replicate n false)).toArray := by
    apply Array.ext'
    rw [show (Value.bool false).cells = #[.bool false] from rfl, toList_madeCells_one]
    simp [vL]
  rw [e]
  simp
end Go.Proofs.Ytagkopemcabkpaa

/- A move of the walk through a region that draws its order: an operation is taken first, its slot named. -/
namespace Go.Proofs.Ytagkopemcabkpaa
section
variable {P : Program} {ops : Array Oper} {Q : Exit → Act → World → Prop} {md : Region.Mode} {S : World → Prop}
theorem wpT {i d : Nat} {oi : Oper} {v : Value} {fuel : Nat} {listed : Array Bool} {t : Array Value} {ds : List Deferred} {w : World} (hi : ops[i]? = some oi) (hd : oi.dst = some d)
    (hs : Region.noSelect ops = true) (hf : Region.free md ops listed i = true) (hr : (Region.ready md ops listed).contains i = true)
    (hQ : ∀ c a w, Q (.panic c) (a.put (some d) v) w → Q (.panic c) a w) (hy : YieldsIf P ops S oi v { tmps := t, defers := ds }) (hS : S w)
    (h : wpAnyH P md ops Q S fuel (listed.setIfInBounds i true) { tmps := t.setIfInBounds d v, defers := ds } w) : wpAnyH P md ops Q S (fuel + 1) listed { tmps := t, defers := ds } w :=
  wpAnyH_take hi hs hf hr (by rw [hd]; exact hQ) hy hS (by rw [hd]; exact h)
end
end Go.Proofs.Ytagkopemcabkpaa

/- The order of cells and shapes: walks. -/
namespace Go.Proofs.Ytagkopemcabkpaa
open Go.RowKit
set_option linter.unusedVariables false
attribute [local go_sem ↓] Go.wp_at_zero Go.wp_at_succ

theorem before_i (a b c d : Int) (w : World) : Calls Try.prog 70 #[.agg #[.int .i64 a, .int .i64 b], .agg #[.int .i64 c, .int .i64 d]] w (Ret w (.bool (befC (a, b) (c, d)))) := by
  by_cases h1 : b < d
  · have HV : Hid (befC (a, b) (c, d) = true) := by show befC (a, b) (c, d) = true; simp [befC, h1]
    go_enter Try.func70, Try.ntmps70
    go_wp2
    go_ret
    exact ⟨by rw [HV.out]; rfl, (by (repeat (first | with_reducible exact Below.refl _ _ | with_reducible assumption | with_reducible apply bel_alloc | with_reducible apply bel_drew | with_reducible apply bel_drewN | ((with_reducible refine bel_set ?_ ?_); rotate_left; (simp <;> omega)) | (with_reducible refine bel_trans ?_ (by with_reducible assumption)))))⟩
  · by_cases h2 : b = d
    · have HV : Hid (befC (a, b) (c, d) = decide (a < c)) := by show befC (a, b) (c, d) = decide (a < c); simp [befC, h2]
      have e1 : (b == d) = true := by simp [h2]
      have e2 : decide (b < d) = false := by simp [h1]
      clear h2
      go_enter Try.func70, Try.ntmps70
      go_wp2
      go_ret
      exact ⟨by rw [HV.out]; rfl, (by (repeat (first | with_reducible exact Below.refl _ _ | with_reducible assumption | with_reducible apply bel_alloc | with_reducible apply bel_drew | with_reducible apply bel_drewN | ((with_reducible refine bel_set ?_ ?_); rotate_left; (simp <;> omega)) | (with_reducible refine bel_trans ?_ (by with_reducible assumption)))))⟩
    · have HV : Hid (befC (a, b) (c, d) = false) := by show befC (a, b) (c, d) = false; simp [befC, h1, h2]
      have e1 : (b == d) = false := by simp [h2]
      have e2 : decide (b < d) = false := by simp [h1]
      clear h2
      go_enter Try.func70, Try.ntmps70
      go_wp2
      go_ret
      exact ⟨by rw [HV.out]; rfl, (by (repeat (first | with_reducible exact Below.refl _ _ | with_reducible assumption | with_reducible apply bel_alloc | with_reducible apply bel_drew | with_reducible apply bel_drewN | ((with_reducible refine bel_set ?_ ?_); rotate_left; (simp <;> omega)) | (with_reducible refine bel_trans ?_ (by with_reducible assumption)))))⟩
theorem l2Before_s (a b c d : Int) (w : World) : Calls Try.prog 84 #[.agg #[.int .i64 a, .int .i64 b], .agg #[.int .i64 c, .int .i64 d]] w (Ret w (.bool (befC (a, b) (c, d)))) := by
  by_cases h1 : b < d
  · have HV : Hid (befC (a, b) (c, d) = true) := by show befC (a, b) (c, d) = true; simp [befC, h1]
    go_enter Try.func84, Try.ntmps84
    go_wp2
    go_ret
    exact ⟨by rw [HV.out]; rfl, (by (repeat (first | with_reducible exact Below.refl _ _ | with_reducible assumption | with_reducible apply bel_alloc | with_reducible apply bel_drew | with_reducible apply bel_drewN | ((with_reducible refine bel_set ?_ ?_); rotate_left; (simp <;> omega)) | (with_reducible refine bel_trans ?_ (by with_reducible assumption)))))⟩
  · by_cases h2 : b = d
    · have HV : Hid (befC (a, b) (c, d) = decide (a < c)) := by show befC (a, b) (c, d) = decide (a < c); simp [befC, h2]
      have e1 : (b == d) = true := by simp [h2]
      have e2 : decide (b < d) = false := by simp [h1]
      clear h2
      go_enter Try.func84, Try.ntmps84
      go_wp2
      go_ret
      exact ⟨by rw [HV.out]; rfl, (by (repeat (first | with_reducible exact Below.refl _ _ | with_reducible assumption | with_reducible apply bel_alloc | with_reducible apply bel_drew | with_reducible apply bel_drewN | ((with_reducible refine bel_set ?_ ?_); rotate_left; (simp <;> omega)) | (with_reducible refine bel_trans ?_ (by with_reducible assumption)))))⟩
    · have HV : Hid (befC (a, b) (c, d) = false) := by show befC (a, b) (c, d) = false; simp [befC, h1, h2]
      have e1 : (b == d) = false := by simp [h2]
      have e2 : decide (b < d) = false := by simp [h1]
      clear h2
      go_enter Try.func84, Try.ntmps84
      go_wp2
      go_ret
      exact ⟨by rw [HV.out]; rfl, (by (repeat (first | with_reducible exact Below.refl _ _ | with_reducible assumption | with_reducible apply bel_alloc | with_reducible apply bel_drew | with_reducible apply bel_drewN | ((with_reducible refine bel_set ?_ ?_); rotate_left; (simp <;> omega)) | (with_reducible refine bel_trans ?_ (by with_reducible assumption)))))⟩

set_option maxHeartbeats 1600000 in
theorem IsShape_i (A : Option Addr) (n c : Nat) (xs : List C) (w : World) (hr : Rd w A (vC xs)) (hl : xs.length = n) (hn : n ≤ 1099511627776) :
    Calls Try.prog 60 #[.slice A n c] w (Ret w (.bool (isShape xs))) := by
  have HL := Lib.hid hl
  clear hl
  go_enter Try.func60, Try.ntmps60
  go_wp2
  go_loopw [7] (fun i wr => ∃ k : Nat, k ≤ n ∧ i = .int .i64 k ∧ shapeTo xs k = true ∧ Below w.heap.size w wr) (fun i _ => n - (intOf i).toNat)
  case atStart => exact ⟨0, Nat.zero_le _, rfl, rfl, Below.refl _ _⟩
  case round =>
    obtain ⟨k, hk, rfl, hgo, hb⟩ := hrel
    by_cases hlt : k < n
    · have hkx : k < xs.length := by rw [HL.out]; omega
      obtain ⟨g, off, rfl, hgw, c1, c2⟩ := RdC.at_ (hr.below hb) hkx
      have hs := shapeTo_succ xs k hkx
      have hno := isShape_no xs k hkx
      obtain ⟨⟨x, y⟩, hx⟩ : ∃ p, xs[k] = p := ⟨_, rfl⟩
      rw [hx] at c1 c2 hs hno
      have hi0 : (0 : Int) ≤ (k : Int) := by omega
      have hi1 : (k : Int) < (n : Int) := by omega
      have HS := Lib.hid hs
      have HNO := Lib.hid hno
      have HG := Lib.hid hgo
      have hrw := hr.below hb
      clear hs hno hgo hx
      go_upto_region 4 with fail
      go_cut [28] (fun s wx => s = .bool (!shapeAt xs k (x, y)) ∧ Below wr.heap.size wr wx)
      case first =>
        cases ho : onB (x, y) with
        | false =>
          have HV : Hid (shapeAt xs k (x, y) = false) := by unfold Hid shapeAt; rw [ho]; rfl
          have HO := Lib.hid ho
          generalize hW : wr.alloc (.cells #[.int .i64 x, .int .i64 y] 55) = W
          have hq := Blk.new wr 55 #[.int .i64 x, .int .i64 y]
          have hb2 : Below wr.heap.size wr (wr.alloc (.cells #[.int .i64 x, .int .i64 y] 55)) := (by (repeat (first | with_reducible exact Below.refl _ _ | with_reducible assumption | with_reducible apply bel_alloc | with_reducible apply bel_drew | with_reducible apply bel_drewN | ((with_reducible refine bel_set ?_ ?_); rotate_left; (simp <;> omega)) | (with_reducible refine bel_trans ?_ (by with_reducible assumption)))))
          rw [hW] at hq hb2
          clear hW ho
          have q1 : W.cell? ⟨wr.heap.size, 0, none⟩ = some (.int .i64 x) := by simpa using hq.cell 0
          have q2 : W.cell? ⟨wr.heap.size, 1, none⟩ = some (.int .i64 y) := by simpa using hq.cell 1
          refine wp_region_noPanic ?_
          refine wp_region_held_drew (S := (fun w' => w'.cell? ⟨wr.heap.size, 0, none⟩ = some (.int .i64 x) ∧ w'.cell? ⟨wr.heap.size, 1, none⟩ = some (.int .i64 y))) (by kernel_rfl) ?_ (fun hS => ?_)
          · ((go_split_ands; (try dsimp only); (repeat' (with_reducible apply And.intro)) <;> (repeat (first | with_reducible assumption | with_reducible apply keep_alloc | with_reducible apply keep_drew | with_reducible refine keep_below hb1 ?_ | ((with_reducible refine keep_set ?_ ?_); rotate_left; (simp <;> omega))))))
          refine wpT (i := 0) (v := ?_) rfl rfl (by kernel_rfl) (by kernel_rfl) (by kernel_rfl) (fun _ _ _ h => h) (Or.inl ⟨by rfl, ?_⟩) hS ?_
          rotate_left
          · (intro w hSw; (try dsimp only at hSw); go_simp; first | done | with_reducible rfl)
          simp only [List.setIfInBounds_toArray, List.set_cons_zero, List.set_cons_succ]
          refine wpAnyH_ready (rs := [1]) (by kernel_rfl) (by simp) ?_
          refine AllReadyH.cons rfl (fun K hK => ?_) AllReadyH.nil
          go_simp
          (go_at_call 67; refine (onBoard_i _ _ _).mono ?_; rw [HO.out]; rintro e w1 ⟨rfl, hb1⟩)
          try go_wp2_with fail
          refine hK.out _ _ ?_ (fun hS2 => ?_)
          · (clear hK K; ((go_split_ands; (try dsimp only); (repeat' (with_reducible apply And.intro)) <;> (repeat (first | with_reducible assumption | with_reducible apply keep_alloc | with_reducible apply keep_drew | with_reducible refine keep_below hb1 ?_ | ((with_reducible refine keep_set ?_ ?_); rotate_left; (simp <;> omega)))))))
          clear hS hK K
          have hS := hS2
          clear hS2
          refine wpT (i := 2) (v := ?_) rfl rfl (by kernel_rfl) (by kernel_rfl) (by kernel_rfl) (fun _ _ _ h => h) (Or.inl ⟨by rfl, ?_⟩) hS ?_
          rotate_left
          · (intro w hSw; (try dsimp only at hSw); go_simp; first | done | with_reducible rfl)
          simp only [List.setIfInBounds_toArray, List.set_cons_zero, List.set_cons_succ]
          refine wpT (i := 3) (v := ?_) rfl rfl (by kernel_rfl) (by kernel_rfl) (by kernel_rfl) (fun _ _ _ h => h) (Or.inl ⟨by rfl, ?_⟩) hS ?_
          rotate_left
          · (intro w hSw; (try dsimp only at hSw); go_simp; first | done | with_reducible rfl)
          simp only [List.setIfInBounds_toArray, List.set_cons_zero, List.set_cons_succ]
          refine wpT (i := 4) (v := undef) rfl rfl (by kernel_rfl) (by kernel_rfl) (by kernel_rfl) (fun _ _ _ h => h) (Or.inr ⟨by rfl, rfl⟩) hS ?_
          simp only [List.setIfInBounds_toArray, List.set_cons_zero, List.set_cons_succ]
          refine wpT (i := 5) (v := undef) rfl rfl (by kernel_rfl) (by kernel_rfl) (by kernel_rfl) (fun _ _ _ h => h) (Or.inr ⟨by rfl, rfl⟩) hS ?_
          simp only [List.setIfInBounds_toArray, List.set_cons_zero, List.set_cons_succ]
          refine wpT (i := 6) (v := undef) rfl rfl (by kernel_rfl) (by kernel_rfl) (by kernel_rfl) (fun _ _ _ h => h) (Or.inr ⟨by rfl, rfl⟩) hS ?_
          simp only [List.setIfInBounds_toArray, List.set_cons_zero, List.set_cons_succ]
          refine wpT (i := 7) (v := undef) rfl rfl (by kernel_rfl) (by kernel_rfl) (by kernel_rfl) (fun _ _ _ h => h) (Or.inr ⟨by rfl, rfl⟩) hS ?_
          simp only [List.setIfInBounds_toArray, List.set_cons_zero, List.set_cons_succ]
          refine wpT (i := 8) (v := undef) rfl rfl (by kernel_rfl) (by kernel_rfl) (by kernel_rfl) (fun _ _ _ h => h) (Or.inr ⟨by rfl, rfl⟩) hS ?_
          simp only [List.setIfInBounds_toArray, List.set_cons_zero, List.set_cons_succ]
          refine wpT (i := 9) (v := undef) rfl rfl (by kernel_rfl) (by kernel_rfl) (by kernel_rfl) (fun _ _ _ h => h) (Or.inr ⟨by rfl, rfl⟩) hS ?_
          simp only [List.setIfInBounds_toArray, List.set_cons_zero, List.set_cons_succ]
          refine wpT (i := 10) (v := undef) rfl rfl (by kernel_rfl) (by kernel_rfl) (by kernel_rfl) (fun _ _ _ h => h) (Or.inr ⟨by rfl, rfl⟩) hS ?_
          simp only [List.setIfInBounds_toArray, List.set_cons_zero, List.set_cons_succ]
          refine wpT (i := 11) (v := undef) rfl rfl (by kernel_rfl) (by kernel_rfl) (by kernel_rfl) (fun _ _ _ h => h) (Or.inr ⟨by rfl, rfl⟩) hS ?_
          simp only [List.setIfInBounds_toArray, List.set_cons_zero, List.set_cons_succ]
          refine wpT (i := 12) (v := undef) rfl rfl (by kernel_rfl) (by kernel_rfl) (by kernel_rfl) (fun _ _ _ h => h) (Or.inr ⟨by rfl, rfl⟩) hS ?_
          simp only [List.setIfInBounds_toArray, List.set_cons_zero, List.set_cons_succ]
          refine wpT (i := 13) (v := undef) rfl rfl (by kernel_rfl) (by kernel_rfl) (by kernel_rfl) (fun _ _ _ h => h) (Or.inr ⟨by rfl, rfl⟩) hS ?_
          simp only [List.setIfInBounds_toArray, List.set_cons_zero, List.set_cons_succ]
          refine wpT (i := 14) (v := undef) rfl rfl (by kernel_rfl) (by kernel_rfl) (by kernel_rfl) (fun _ _ _ h => h) (Or.inr ⟨by rfl, rfl⟩) hS ?_
          simp only [List.setIfInBounds_toArray, List.set_cons_zero, List.set_cons_succ]
          refine wpT (i := 15) (v := undef) rfl rfl (by kernel_rfl) (by kernel_rfl) (by kernel_rfl) (fun _ _ _ h => h) (Or.inr ⟨by rfl, rfl⟩) hS ?_
          simp only [List.setIfInBounds_toArray, List.set_cons_zero, List.set_cons_succ]
          refine wpT (i := 16) (v := ?_) rfl rfl (by kernel_rfl) (by kernel_rfl) (by kernel_rfl) (fun _ _ _ h => h) (Or.inl ⟨by rfl, ?_⟩) hS ?_
          rotate_left
          · (intro w hSw; (try dsimp only at hSw); go_simp; first | done | with_reducible rfl)
          simp only [List.setIfInBounds_toArray, List.set_cons_zero, List.set_cons_succ]
          refine wpAnyH_done (by kernel_rfl) ?_ _
          refine NoPanic.normal ?_
          go_wp2_with fail
          go_meet
          exact ⟨by rw [HV.out]; rfl, (by (repeat (first | with_reducible exact Below.refl _ _ | with_reducible assumption | with_reducible apply bel_alloc | with_reducible apply bel_drew | with_reducible apply bel_drewN | ((with_reducible refine bel_set ?_ ?_); rotate_left; (simp <;> omega)) | (with_reducible refine bel_trans ?_ (by with_reducible assumption)))))⟩
        | true =>
          by_cases hk0 : 0 < k
          · obtain ⟨j, hj⟩ : ∃ j, k = j + 1 := ⟨k - 1, by omega⟩
            have hkj : (k : Int) - 1 = (j : Int) := by omega
            have hj0 : (0 : Int) ≤ (j : Int) := by omega
            have hj1 : (j : Int) < (n : Int) := by omega
            have hjw : IntKind.i64.wrap (j : Int) = (j : Int) := IntWalk.i64_in _ (by omega)
            have hk2 : (0 : Int) < (k : Int) := by omega
            have hjx : j < xs.length := by omega
            have d1 : wr.cell? ⟨g, off + j * 2, none⟩ = some (.int .i64 xs[j].1) := by
              obtain ⟨g', off', e, _, h1, _⟩ := RdC.at_ hrw hjx
              simp only [Option.some.injEq, Addr.mk.injEq, and_true] at e
              obtain ⟨rfl, rfl⟩ := e
              exact h1
            have d2 : wr.cell? ⟨g, off + j * 2 + 1, none⟩ = some (.int .i64 xs[j].2) := by
              obtain ⟨g', off', e, _, _, h1⟩ := RdC.at_ hrw hjx
              simp only [Option.some.injEq, Addr.mk.injEq, and_true] at e
              obtain ⟨rfl, rfl⟩ := e
              exact h1
            obtain ⟨⟨x', y'⟩, hx'⟩ : ∃ p, xs[j] = p := ⟨_, rfl⟩
            rw [hx'] at d1 d2
            have HV : Hid (shapeAt xs k (x, y) = befC (x', y') (x, y)) := by
              unfold Hid shapeAt
              rw [ho, Bool.true_and, show (k == 0) = false from by simp; omega, Bool.false_or, show k - 1 = j from by omega, List.getD_eq_getElem?_getD, List.getElem?_eq_getElem hjx, hx']; rfl
            have HO := Lib.hid ho
            generalize hW : wr.alloc (.cells #[.int .i64 x, .int .i64 y] 55) = W
            have hq := Blk.new wr 55 #[.int .i64 x, .int .i64 y]
            have hb2 : Below wr.heap.size wr (wr.alloc (.cells #[.int .i64 x, .int .i64 y] 55)) := (by (repeat (first | with_reducible exact Below.refl _ _ | with_reducible assumption | with_reducible apply bel_alloc | with_reducible apply bel_drew | with_reducible apply bel_drewN | ((with_reducible refine bel_set ?_ ?_); rotate_left; (simp <;> omega)) | (with_reducible refine bel_trans ?_ (by with_reducible assumption)))))
            have q3 := keep_alloc (o := .cells #[.int .i64 x, .int .i64 y] 55) d1
            have q4 := keep_alloc (o := .cells #[.int .i64 x, .int .i64 y] 55) d2
            rw [hW] at hq hb2 q3 q4
            clear hW ho hx' hj
            have q1 : W.cell? ⟨wr.heap.size, 0, none⟩ = some (.int .i64 x) := by simpa using hq.cell 0
            have q2 : W.cell? ⟨wr.heap.size, 1, none⟩ = some (.int .i64 y) := by simpa using hq.cell 1
            refine wp_region_noPanic ?_
            refine wp_region_held_drew (S := (fun w' => w'.cell? ⟨wr.heap.size, 0, none⟩ = some (.int .i64 x) ∧ w'.cell? ⟨wr.heap.size, 1, none⟩ = some (.int .i64 y) ∧ w'.cell? ⟨g, off + j * 2, none⟩ = some (.int .i64 x') ∧ w'.cell? ⟨g, off + j * 2 + 1, none⟩ = some (.int .i64 y'))) (by kernel_rfl) ?_ (fun hS => ?_)
            · ((go_split_ands; (try dsimp only); (repeat' (with_reducible apply And.intro)) <;> (repeat (first | with_reducible assumption | with_reducible apply keep_alloc | with_reducible apply keep_drew | with_reducible refine keep_below hb1 ?_ | ((with_reducible refine keep_set ?_ ?_); rotate_left; (simp <;> omega))))))
            refine wpT (i := 0) (v := ?_) rfl rfl (by kernel_rfl) (by kernel_rfl) (by kernel_rfl) (fun _ _ _ h => h) (Or.inl ⟨by rfl, ?_⟩) hS ?_
            rotate_left
            · (intro w hSw; (try dsimp only at hSw); go_simp; first | done | with_reducible rfl)
            simp only [List.setIfInBounds_toArray, List.set_cons_zero, List.set_cons_succ]
            refine wpAnyH_ready (rs := [1]) (by kernel_rfl) (by simp) ?_
            refine AllReadyH.cons rfl (fun K hK => ?_) AllReadyH.nil
            go_simp
            (go_at_call 67; refine (onBoard_i _ _ _).mono ?_; rw [HO.out]; rintro e w1 ⟨rfl, hb1⟩)
            try go_wp2_with fail
            refine hK.out _ _ ?_ (fun hS2 => ?_)
            · (clear hK K; ((go_split_ands; (try dsimp only); (repeat' (with_reducible apply And.intro)) <;> (repeat (first | with_reducible assumption | with_reducible apply keep_alloc | with_reducible apply keep_drew | with_reducible refine keep_below hb1 ?_ | ((with_reducible refine keep_set ?_ ?_); rotate_left; (simp <;> omega)))))))
            clear hS hK K
            have hS := hS2
            clear hS2
            refine wpT (i := 2) (v := ?_) rfl rfl (by kernel_rfl) (by kernel_rfl) (by kernel_rfl) (fun _ _ _ h => h) (Or.inl ⟨by rfl, ?_⟩) hS ?_
            rotate_left
            · (intro w hSw; (try dsimp only at hSw); go_simp; first | done | with_reducible rfl)
            simp only [List.setIfInBounds_toArray, List.set_cons_zero, List.set_cons_succ]
            refine wpT (i := 3) (v := ?_) rfl rfl (by kernel_rfl) (by kernel_rfl) (by kernel_rfl) (fun _ _ _ h => h) (Or.inl ⟨by rfl, ?_⟩) hS ?_
            rotate_left
            · (intro w hSw; (try dsimp only at hSw); go_simp; first | done | with_reducible rfl)
            simp only [List.setIfInBounds_toArray, List.set_cons_zero, List.set_cons_succ]
            refine wpT (i := 4) (v := ?_) rfl rfl (by kernel_rfl) (by kernel_rfl) (by kernel_rfl) (fun _ _ _ h => h) (Or.inl ⟨by rfl, ?_⟩) hS ?_
            rotate_left
            · (intro w hSw; (try dsimp only at hSw); go_simp; first | done | with_reducible rfl)
            simp only [List.setIfInBounds_toArray, List.set_cons_zero, List.set_cons_succ]
            refine wpT (i := 5) (v := ?_) rfl rfl (by kernel_rfl) (by kernel_rfl) (by kernel_rfl) (fun _ _ _ h => h) (Or.inl ⟨by rfl, ?_⟩) hS ?_
            rotate_left
            · (intro w hSw; (try dsimp only at hSw); go_simp; first | done | with_reducible rfl)
            simp only [List.setIfInBounds_toArray, List.set_cons_zero, List.set_cons_succ]
            refine wpT (i := 6) (v := ?_) rfl rfl (by kernel_rfl) (by kernel_rfl) (by kernel_rfl) (fun _ _ _ h => h) (Or.inl ⟨by rfl, ?_⟩) hS ?_
            rotate_left
            · (intro w hSw; (try dsimp only at hSw); go_simp; first | done | with_reducible rfl)
            simp only [List.setIfInBounds_toArray, List.set_cons_zero, List.set_cons_succ]
            refine wpT (i := 7) (v := ?_) rfl rfl (by kernel_rfl) (by kernel_rfl) (by kernel_rfl) (fun _ _ _ h => h) (Or.inl ⟨by rfl, ?_⟩) hS ?_
            rotate_left
            · (intro w hSw; (try dsimp only at hSw); go_simp; first | done | with_reducible rfl)
            simp only [List.setIfInBounds_toArray, List.set_cons_zero, List.set_cons_succ]
            refine wpT (i := 8) (v := ?_) rfl rfl (by kernel_rfl) (by kernel_rfl) (by kernel_rfl) (fun _ _ _ h => h) (Or.inl ⟨by rfl, ?_⟩) hS ?_
            rotate_left
            · (intro w hSw; (try dsimp only at hSw); go_simp; first | done | with_reducible rfl)
            simp only [List.setIfInBounds_toArray, List.set_cons_zero, List.set_cons_succ]
            refine wpT (i := 9) (v := ?_) rfl rfl (by kernel_rfl) (by kernel_rfl) (by kernel_rfl) (fun _ _ _ h => h) (Or.inl ⟨by rfl, ?_⟩) hS ?_
            rotate_left
            · (intro w hSw; (try dsimp only at hSw); go_simp; first | done | with_reducible rfl)
            simp only [List.setIfInBounds_toArray, List.set_cons_zero, List.set_cons_succ]
            refine wpT (i := 10) (v := ?_) rfl rfl (by kernel_rfl) (by kernel_rfl) (by kernel_rfl) (fun _ _ _ h => h) (Or.inl ⟨by rfl, ?_⟩) hS ?_
            rotate_left
            · (intro w hSw; (try dsimp only at hSw); go_simp; first | done | with_reducible rfl)
            simp only [List.setIfInBounds_toArray, List.set_cons_zero, List.set_cons_succ]
            refine wpT (i := 11) (v := ?_) rfl rfl (by kernel_rfl) (by kernel_rfl) (by kernel_rfl) (fun _ _ _ h => h) (Or.inl ⟨by rfl, ?_⟩) hS ?_
            rotate_left
            · (intro w hSw; (try dsimp only at hSw); go_simp; first | done | with_reducible rfl)
            simp only [List.setIfInBounds_toArray, List.set_cons_zero, List.set_cons_succ]
            refine wpT (i := 12) (v := ?_) rfl rfl (by kernel_rfl) (by kernel_rfl) (by kernel_rfl) (fun _ _ _ h => h) (Or.inl ⟨by rfl, ?_⟩) hS ?_
            rotate_left
            · (intro w hSw; (try dsimp only at hSw); go_simp; first | done | with_reducible rfl)
            simp only [List.setIfInBounds_toArray, List.set_cons_zero, List.set_cons_succ]
            refine wpAnyH_ready (rs := [13]) (by kernel_rfl) (by simp) ?_
            refine AllReadyH.cons rfl (fun K hK => ?_) AllReadyH.nil
            go_simp
            (go_at_call 70; refine (before_i _ _ _ _ _).mono ?_; rintro e w2 ⟨rfl, hb3⟩)
            try go_wp2_with fail
            refine hK.out _ _ ?_ (fun hS2 => ?_)
            · (clear hK K; ((go_split_ands; (try dsimp only); (repeat' (with_reducible apply And.intro)) <;> (repeat (first | with_reducible assumption | with_reducible apply keep_alloc | with_reducible apply keep_drew | with_reducible refine keep_below hb3 ?_ | ((with_reducible refine keep_set ?_ ?_); rotate_left; (simp <;> omega)))))))
            clear hS hK K
            have hS := hS2
            clear hS2
            refine wpT (i := 14) (v := ?_) rfl rfl (by kernel_rfl) (by kernel_rfl) (by kernel_rfl) (fun _ _ _ h => h) (Or.inl ⟨by rfl, ?_⟩) hS ?_
            rotate_left
            · (intro w hSw; (try dsimp only at hSw); go_simp; first | done | with_reducible rfl)
            simp only [List.setIfInBounds_toArray, List.set_cons_zero, List.set_cons_succ]
            refine wpT (i := 15) (v := ?_) rfl rfl (by kernel_rfl) (by kernel_rfl) (by kernel_rfl) (fun _ _ _ h => h) (Or.inl ⟨by rfl, ?_⟩) hS ?_
            rotate_left
            · (intro w hSw; (try dsimp only at hSw); go_simp; first | done | with_reducible rfl)
            simp only [List.setIfInBounds_toArray, List.set_cons_zero, List.set_cons_succ]
            refine wpT (i := 16) (v := ?_) rfl rfl (by kernel_rfl) (by kernel_rfl) (by kernel_rfl) (fun _ _ _ h => h) (Or.inl ⟨by rfl, ?_⟩) hS ?_
            rotate_left
            · (intro w hSw; (try dsimp only at hSw); go_simp; first | done | with_reducible rfl)
            simp only [List.setIfInBounds_toArray, List.set_cons_zero, List.set_cons_succ]
            refine wpAnyH_done (by kernel_rfl) ?_ _
            refine NoPanic.normal ?_
            go_wp2_with fail
            go_meet
            exact ⟨by rw [HV.out], (by (repeat (first | with_reducible exact Below.refl _ _ | with_reducible assumption | with_reducible apply bel_alloc | with_reducible apply bel_drew | with_reducible apply bel_drewN | ((with_reducible refine bel_set ?_ ?_); rotate_left; (simp <;> omega)) | (with_reducible refine bel_trans ?_ (by with_reducible assumption)))))⟩
          · have hk3 : k = 0 := by omega
            have HV : Hid (shapeAt xs k (x, y) = true) := by unfold Hid shapeAt; rw [ho, hk3]; rfl
            have HO := Lib.hid ho
            have hk2 : decide ((0 : Int) < (k : Int)) = false := by simp; omega
            have hk4 : ¬ (0 : Int) < (k : Int) := by omega
            generalize hW : wr.alloc (.cells #[.int .i64 x, .int .i64 y] 55) = W
            have hq := Blk.new wr 55 #[.int .i64 x, .int .i64 y]
            have hb2 : Below wr.heap.size wr (wr.alloc (.cells #[.int .i64 x, .int .i64 y] 55)) := (by (repeat (first | with_reducible exact Below.refl _ _ | with_reducible assumption | with_reducible apply bel_alloc | with_reducible apply bel_drew | with_reducible apply bel_drewN | ((with_reducible refine bel_set ?_ ?_); rotate_left; (simp <;> omega)) | (with_reducible refine bel_trans ?_ (by with_reducible assumption)))))
            rw [hW] at hq hb2
            clear hW ho hk3
            have q1 : W.cell? ⟨wr.heap.size, 0, none⟩ = some (.int .i64 x) := by simpa using hq.cell 0
            have q2 : W.cell? ⟨wr.heap.size, 1, none⟩ = some (.int .i64 y) := by simpa using hq.cell 1
            refine wp_region_noPanic ?_
            refine wp_region_held_drew (S := (fun w' => w'.cell? ⟨wr.heap.size, 0, none⟩ = some (.int .i64 x) ∧ w'.cell? ⟨wr.heap.size, 1, none⟩ = some (.int .i64 y))) (by kernel_rfl) ?_ (fun hS => ?_)
            · ((go_split_ands; (try dsimp only); (repeat' (with_reducible apply And.intro)) <;> (repeat (first | with_reducible assumption | with_reducible apply keep_alloc | with_reducible apply keep_drew | with_reducible refine keep_below hb1 ?_ | ((with_reducible refine keep_set ?_ ?_); rotate_left; (simp <;> omega))))))
            refine wpT (i := 0) (v := ?_) rfl rfl (by kernel_rfl) (by kernel_rfl) (by kernel_rfl) (fun _ _ _ h => h) (Or.inl ⟨by rfl, ?_⟩) hS ?_
            rotate_left
            · (intro w hSw; (try dsimp only at hSw); go_simp; first | done | with_reducible rfl)
            simp only [List.setIfInBounds_toArray, List.set_cons_zero, List.set_cons_succ]
            refine wpAnyH_ready (rs := [1]) (by kernel_rfl) (by simp) ?_
            refine AllReadyH.cons rfl (fun K hK => ?_) AllReadyH.nil
            go_simp
            (go_at_call 67; refine (onBoard_i _ _ _).mono ?_; rw [HO.out]; rintro e w1 ⟨rfl, hb1⟩)
            try go_wp2_with fail
            refine hK.out _ _ ?_ (fun hS2 => ?_)
            · (clear hK K; ((go_split_ands; (try dsimp only); (repeat' (with_reducible apply And.intro)) <;> (repeat (first | with_reducible assumption | with_reducible apply keep_alloc | with_reducible apply keep_drew | with_reducible refine keep_below hb1 ?_ | ((with_reducible refine keep_set ?_ ?_); rotate_left; (simp <;> omega)))))))
            clear hS hK K
            have hS := hS2
            clear hS2
            refine wpT (i := 2) (v := ?_) rfl rfl (by kernel_rfl) (by kernel_rfl) (by kernel_rfl) (fun _ _ _ h => h) (Or.inl ⟨by rfl, ?_⟩) hS ?_
            rotate_left
            · (intro w hSw; (try dsimp only at hSw); go_simp; first | done | with_reducible rfl)
            simp only [List.setIfInBounds_toArray, List.set_cons_zero, List.set_cons_succ]
            refine wpT (i := 3) (v := ?_) rfl rfl (by kernel_rfl) (by kernel_rfl) (by kernel_rfl) (fun _ _ _ h => h) (Or.inl ⟨by rfl, ?_⟩) hS ?_
            rotate_left
            · (intro w hSw; (try dsimp only at hSw); go_simp; first | done | with_reducible rfl)
            simp only [List.setIfInBounds_toArray, List.set_cons_zero, List.set_cons_succ]
            refine wpT (i := 4) (v := ?_) rfl rfl (by kernel_rfl) (by kernel_rfl) (by kernel_rfl) (fun _ _ _ h => h) (Or.inl ⟨by rfl, ?_⟩) hS ?_
            rotate_left
            · (intro w hSw; (try dsimp only at hSw); go_simp; first | done | with_reducible rfl)
            simp only [List.setIfInBounds_toArray, List.set_cons_zero, List.set_cons_succ]
            refine wpT (i := 5) (v := ?_) rfl rfl (by kernel_rfl) (by kernel_rfl) (by kernel_rfl) (fun _ _ _ h => h) (Or.inl ⟨by rfl, ?_⟩) hS ?_
            rotate_left
            · (intro w hSw; (try dsimp only at hSw); go_simp; first | done | with_reducible rfl)
            simp only [List.setIfInBounds_toArray, List.set_cons_zero, List.set_cons_succ]
            refine wpT (i := 6) (v := ?_) rfl rfl (by kernel_rfl) (by kernel_rfl) (by kernel_rfl) (fun _ _ _ h => h) (Or.inl ⟨by rfl, ?_⟩) hS ?_
            rotate_left
            · (intro w hSw; (try dsimp only at hSw); go_simp; first | done | with_reducible rfl)
            simp only [List.setIfInBounds_toArray, List.set_cons_zero, List.set_cons_succ]
            refine wpT (i := 7) (v := undef) rfl rfl (by kernel_rfl) (by kernel_rfl) (by kernel_rfl) (fun _ _ _ h => h) (Or.inr ⟨by rfl, rfl⟩) hS ?_
            simp only [List.setIfInBounds_toArray, List.set_cons_zero, List.set_cons_succ]
            refine wpT (i := 8) (v := undef) rfl rfl (by kernel_rfl) (by kernel_rfl) (by kernel_rfl) (fun _ _ _ h => h) (Or.inr ⟨by rfl, rfl⟩) hS ?_
            simp only [List.setIfInBounds_toArray, List.set_cons_zero, List.set_cons_succ]
            refine wpT (i := 9) (v := undef) rfl rfl (by kernel_rfl) (by kernel_rfl) (by kernel_rfl) (fun _ _ _ h => h) (Or.inr ⟨by rfl, rfl⟩) hS ?_
            simp only [List.setIfInBounds_toArray, List.set_cons_zero, List.set_cons_succ]
            refine wpT (i := 10) (v := undef) rfl rfl (by kernel_rfl) (by kernel_rfl) (by kernel_rfl) (fun _ _ _ h => h) (Or.inr ⟨by rfl, rfl⟩) hS ?_
            simp only [List.setIfInBounds_toArray, List.set_cons_zero, List.set_cons_succ]
            refine wpT (i := 11) (v := undef) rfl rfl (by kernel_rfl) (by kernel_rfl) (by kernel_rfl) (fun _ _ _ h => h) (Or.inr ⟨by rfl, rfl⟩) hS ?_
            simp only [List.setIfInBounds_toArray, List.set_cons_zero, List.set_cons_succ]
            refine wpT (i := 12) (v := undef) rfl rfl (by kernel_rfl) (by kernel_rfl) (by kernel_rfl) (fun _ _ _ h => h) (Or.inr ⟨by rfl, rfl⟩) hS ?_
            simp only [List.setIfInBounds_toArray, List.set_cons_zero, List.set_cons_succ]
            refine wpT (i := 13) (v := undef) rfl rfl (by kernel_rfl) (by kernel_rfl) (by kernel_rfl) (fun _ _ _ h => h) (Or.inr ⟨by rfl, rfl⟩) hS ?_
            simp only [List.setIfInBounds_toArray, List.set_cons_zero, List.set_cons_succ]
            refine wpT (i := 14) (v := undef) rfl rfl (by kernel_rfl) (by kernel_rfl) (by kernel_rfl) (fun _ _ _ h => h) (Or.inr ⟨by rfl, rfl⟩) hS ?_
            simp only [List.setIfInBounds_toArray, List.set_cons_zero, List.set_cons_succ]
            refine wpT (i := 15) (v := ?_) rfl rfl (by kernel_rfl) (by kernel_rfl) (by kernel_rfl) (fun _ _ _ h => h) (Or.inl ⟨by rfl, ?_⟩) hS ?_
            rotate_left
            · (intro w hSw; (try dsimp only at hSw); go_simp; first | done | with_reducible rfl)
            simp only [List.setIfInBounds_toArray, List.set_cons_zero, List.set_cons_succ]
            refine wpT (i := 16) (v := ?_) rfl rfl (by kernel_rfl) (by kernel_rfl) (by kernel_rfl) (fun _ _ _ h => h) (Or.inl ⟨by rfl, ?_⟩) hS ?_
            rotate_left
            · (intro w hSw; (try dsimp only at hSw); go_simp; first | done | with_reducible rfl)
            simp only [List.setIfInBounds_toArray, List.set_cons_zero, List.set_cons_succ]
            refine wpAnyH_done (by kernel_rfl) ?_ _
            refine NoPanic.normal ?_
            go_wp2_with fail
            go_meet
            exact ⟨by rw [HV.out]; rfl, (by (repeat (first | with_reducible exact Below.refl _ _ | with_reducible assumption | with_reducible apply bel_alloc | with_reducible apply bel_drew | with_reducible apply bel_drewN | ((with_reducible refine bel_set ?_ ?_); rotate_left; (simp <;> omega)) | (with_reducible refine bel_trans ?_ (by with_reducible assumption)))))⟩
      case rest =>
        obtain ⟨rfl, hb3⟩ := hcut
        cases hg : shapeAt xs k (x, y) with
        | true =>
          have HN : Hid (shapeTo xs (k + 1) = true) := by show shapeTo xs (k + 1) = true; rw [HS.out, HG.out, hg]; rfl
          clear hg
          go_wp2
          exact ⟨⟨k + 1, by omega, by go_num, HN.out, (by (repeat (first | with_reducible exact Below.refl _ _ | with_reducible assumption | with_reducible apply bel_alloc | with_reducible apply bel_drew | with_reducible apply bel_drewN | ((with_reducible refine bel_set ?_ ?_); rotate_left; (simp <;> omega)) | (with_reducible refine bel_trans ?_ (by with_reducible assumption)))))⟩, by simp [intOf]; omega⟩
        | false =>
          have HN := Lib.hid (HNO.out hg)
          clear hg
          go_wp2
          go_ret
          exact ⟨by rw [HN.out]; rfl, (by (repeat (first | with_reducible exact Below.refl _ _ | with_reducible assumption | with_reducible apply bel_alloc | with_reducible apply bel_drew | with_reducible apply bel_drewN | ((with_reducible refine bel_set ?_ ?_); rotate_left; (simp <;> omega)) | (with_reducible refine bel_trans ?_ (by with_reducible assumption)))))⟩
    · have hkk : k = n := by omega
      subst hkk
      have hv : isShape xs = (decide ((1 : Int) ≤ (k : Int)) && decide ((k : Int) ≤ 8)) := by
        unfold isShape
        rw [HL.out, hgo]
        rw [Bool.true_and]
        congr 1 <;> (rw [decide_eq_decide]; omega)
      have HV := Lib.hid hv
      clear hgo hv
      go_wp2_with (go_at_call 48; refine (between_b _ _ _ (isShape xs) _ HV.out).mono ?_; rintro e w1 ⟨rfl, hb1⟩)
      go_ret
      exact ⟨rfl, (by (repeat (first | with_reducible exact Below.refl _ _ | with_reducible assumption | with_reducible apply bel_alloc | with_reducible apply bel_drew | with_reducible apply bel_drewN | ((with_reducible refine bel_set ?_ ?_); rotate_left; (simp <;> omega)) | (with_reducible refine bel_trans ?_ (by with_reducible assumption)))))⟩
end Go.Proofs.Ytagkopemcabkpaa

/- The program's search for what hangs together. -/
namespace Go.Proofs.Ytagkopemcabkpaa
open Go.RowKit
set_option linter.unusedVariables false
attribute [local go_sem ↓] Go.wp_at_zero Go.wp_at_succ

set_option maxHeartbeats 1600000 in
theorem hangs_i (A : Option Addr) (n c : Nat) (xs : List C) (w : World) (hr : Rd w A (vC xs)) (hl : xs.length = n) (hs : isShape xs = true) :
    Calls Try.prog 80 #[.slice A n c] w (Ret w (.bool (conn xs))) := by
  have HL := Lib.hid hl
  have hlen := shape_len hs
  have hsm := shape_small hs
  have hn8 : n ≤ 8 := by omega
  have hn1 : 1 ≤ n := by omega
  have hnp : (0 : Int) < (n : Int) := by omega
  have hnz : ((n : Int) == 0) = false := by simp; omega
  have hmk := mk_L w n (by omega)
  have hM0 := Marks.init xs (by omega)
  have hC0 := cnt_init xs.length (by omega)
  rw [hl] at hM0 hC0
  have hB0 : Blk (w.alloc (.cells ((vL (List.replicate n false)).set 0 (.bool true)).toArray 4)) w.heap.size 4 (vL ((List.replicate n false).set 0 true)).toArray := by
    have h := Blk.new w 4 (vL ((List.replicate n false).set 0 true)).toArray
    rw [show vL ((List.replicate n false).set 0 true) = (vL (List.replicate n false)).set 0 (.bool true) from by simp [vL, List.map_set]] at h ⊢
    exact h
  have k0 : (w.alloc (.cells (vL (List.replicate n false)).toArray 4)).cell? ⟨w.heap.size, 0, none⟩ = some (.bool false) := blkL_cell (Blk.new _ _ _) (by rw [List.getElem?_replicate, if_pos (by omega)])
  have k0f : (w.alloc (.cells (vL (List.replicate n false)).toArray 4)).frozen? ⟨w.heap.size, 0, none⟩ = false := (Blk.new w 4 (vL (List.replicate n false)).toArray).frozen 0
  have HS := Lib.hid hs
  have HSM := Lib.hid hsm
  have HM0 := Lib.hid hM0
  have HC0 := Lib.hid hC0
  have HB0 := Lib.hid hB0
  clear hs hlen hsm hl hM0 hC0 hB0
  go_enter Try.func80, Try.ntmps80
  go_wp2
  go_loopw [5, 4] (fun m s wr => ∃ (fl : List Bool) (b : Bool) (q : Nat), m = .bool b ∧ s = .int .i64 q ∧ q = cnt fl ∧ q ≤ n ∧ Marks xs fl ∧ (b = false → Cl xs fl n 0) ∧ Blk wr w.heap.size 4 (vL fl).toArray ∧ Below w.heap.size w wr) (fun m s _ => n - (intOf s).toNat + boolOf m)
  case atStart => exact ⟨_, true, 1, rfl, rfl, HC0.out.symm, hn1, HM0.out, by simp, HB0.out, (by (repeat (first | with_reducible exact Below.refl _ _ | with_reducible assumption | with_reducible apply bel_alloc | with_reducible apply bel_drew | with_reducible apply bel_drewN | ((with_reducible refine bel_set ?_ ?_); rotate_left; (simp <;> omega)) | (with_reducible refine bel_trans ?_ (by with_reducible assumption)))))⟩
  case round =>
    clear hmk k0 k0f HM0 HC0 HB0
    obtain ⟨fl, b, q, rfl, rfl, hq, hqn, hM, hC, hB, hb⟩ := hrel
    cases b with
    | false =>
      have hv := conn_marks hM HS.out (hC rfl) (by rw [HL.out]; omega)
      rw [HL.out, ← hq] at hv
      have hv2 : conn xs = ((q : Int) == (n : Int)) := by
        rw [hv, Bool.eq_iff_iff, decide_eq_true_eq, beq_iff_eq]; omega
      have HV := Lib.hid hv2
      clear hv hv2 hC hM hB hq
      go_wp2
      go_ret
      exact ⟨by rw [HV.out]; rfl, (by (repeat (first | with_reducible exact Below.refl _ _ | with_reducible assumption | with_reducible apply bel_alloc | with_reducible apply bel_drew | with_reducible apply bel_drewN | ((with_reducible refine bel_set ?_ ?_); rotate_left; (simp <;> omega)) | (with_reducible refine bel_trans ?_ (by with_reducible assumption)))))⟩
    | true =>
      have HQ := Lib.hid hq
      have HM := Lib.hid hM
      have HB := Lib.hid hB
      clear hq hM hB hC
      go_wp2
      go_loopw [19, 5, 4] (fun i m s wr => ∃ (k : Nat) (fl : List Bool) (b : Bool) (p : Nat), k ≤ n ∧ i = .int .i64 k ∧ m = .bool b ∧ s = .int .i64 p ∧ p = cnt fl ∧ p ≤ n ∧ q ≤ p ∧ (b = true → q < p) ∧ Marks xs fl ∧ (b = false → Cl xs fl k 0) ∧ Blk wr w.heap.size 4 (vL fl).toArray ∧ Below w.heap.size w wr) (fun i _ _ _ => n - (intOf i).toNat)
      case atStart => exact ⟨0, fl, false, q, Nat.zero_le _, rfl, rfl, rfl, HQ.out, hqn, Nat.le_refl _, by simp, HM.out, fun _ => Cl.zero _ _, HB.out, hb⟩
      case round =>
        clear HQ HM HB hb hqn
        obtain ⟨k, fl, b, p, hk, rfl, rfl, rfl, hp, hpn, hqp, hbq, hM, hC, hB, hb⟩ := hrel
        by_cases hlt : k < n
        · have HP := Lib.hid hp
          have HM := Lib.hid hM
          have HB := Lib.hid hB
          have HC := Lib.hid hC
          have HBQ := Lib.hid hbq
          clear hp hM hB hC hbq
          go_wp2
          go_loopw [24, 5, 4] (fun i m s wr => ∃ (j : Nat) (fl : List Bool) (b : Bool) (p : Nat), j ≤ n ∧ i = .int .i64 j ∧ m = .bool b ∧ s = .int .i64 p ∧ p = cnt fl ∧ p ≤ n ∧ q ≤ p ∧ (b = true → q < p) ∧ Marks xs fl ∧ (b = false → Cl xs fl k j) ∧ Blk wr w.heap.size 4 (vL fl).toArray ∧ Below w.heap.size w wr) (fun i _ _ _ => n - (intOf i).toNat)
          case atStart => exact ⟨0, fl, b, p, Nat.zero_le _, rfl, rfl, rfl, HP.out, hpn, hqp, HBQ.out, HM.out, HC.out, HB.out, hb⟩
          case round =>
            clear HP HM HB HC HBQ hb hpn hqp
            obtain ⟨j, fl, b, p, hj, rfl, rfl, rfl, hp, hpn, hqp, hbq, hM, hC, hB, hb⟩ := hrel
            by_cases hlj : j < n
            · have hkx : k < xs.length := by rw [HL.out]; omega
              have hjx : j < xs.length := by rw [HL.out]; omega
              have hrw := hr.below hb
              obtain ⟨g, off, rfl, hgw, c1, c2⟩ := RdC.at_ hrw hkx
              have d12 : wr.cell? ⟨g, off + j * 2, none⟩ = some (.int .i64 xs[j].1) ∧ wr.cell? ⟨g, off + j * 2 + 1, none⟩ = some (.int .i64 xs[j].2) := by
                obtain ⟨g', off', e, _, h1, h2⟩ := RdC.at_ hrw hjx
                simp only [Option.some.injEq, Addr.mk.injEq, and_true] at e
                obtain ⟨rfl, rfl⟩ := e
                exact ⟨h1, h2⟩
              obtain ⟨d1, d2⟩ := d12
              have hne := nearI_eq (HSM.out _ (List.getElem_mem hkx)) (HSM.out _ (List.getElem_mem hjx))
              obtain ⟨f1, hf1⟩ : ∃ f1, fl[k]? = some f1 := ⟨_, List.getElem?_eq_getElem (by rw [hM.len]; exact hkx)⟩
              obtain ⟨f2, hf2⟩ : ∃ f2, fl[j]? = some f2 := ⟨_, List.getElem?_eq_getElem (by rw [hM.len]; exact hjx)⟩
              have b1 := blkL_cell hB hf1
              have b2 := blkL_cell hB hf2
              have HNX : Hid (f1 = true → near xs[k] xs[j] = true → Marks xs (fl.set j true)) := fun h1 h2 => hM.set_ hkx hjx (by rw [hf1, h1]) h2
              have HCN : Hid ((f1 && (!f2 && near xs[k] xs[j])) = false → b = false → Cl xs fl k (j + 1)) := fun h1 h2 => (hC h2).step hkx hjx fun h3 h4 => by
                rw [hf1] at h3; injection h3 with h3
                rw [h3, h4] at h1
                rw [hf2]; simpa using h1
              have HCT : Hid (f2 = false → cnt (fl.set j true) = p + 1) := fun h => by rw [cnt_set _ _ (by rw [hf2, h]), ← hp]
              have HLE : Hid (Marks xs (fl.set j true) → f2 = false → p + 1 ≤ n) := fun h1 h2 => by
                have := cnt_le (fl.set j true)
                rw [h1.len, HL.out, cnt_set _ _ (by rw [hf2, h2]), ← hp] at this
                exact this
              obtain ⟨⟨x, y⟩, hx⟩ : ∃ p, xs[k] = p := ⟨_, rfl⟩
              obtain ⟨⟨x', y'⟩, hx'⟩ : ∃ p, xs[j] = p := ⟨_, rfl⟩
              rw [hx] at c1 c2
              rw [hx'] at d1 d2
              rw [hx, hx'] at hne HNX HCN
              have hi0 : (0 : Int) ≤ (k : Int) := by omega
              have hi1 : (k : Int) < (n : Int) := by omega
              have hi2 : (0 : Int) ≤ (j : Int) := by omega
              have hi3 : (j : Int) < (n : Int) := by omega
              have hgl := hB.lt
              have hfz := hB.frozen j
              have HP := Lib.hid hp
              have HM := Lib.hid hM
              have HB := Lib.hid hB
              have HC := Lib.hid hC
              have HBQ := Lib.hid hbq
              have HW := Lib.hid hne
              clear hp hM hB hC hbq hne hx hx' hf1 hf2
              go_upto_region 15 with fail
              go_cut [48] (fun s wx => s = .bool (f1 && (!f2 && near (x, y) (x', y'))) ∧ Below wr.heap.size wr wx)
              case first =>
                cases f1 with
                | false =>
                  refine wp_region_noPanic ?_
                  refine wp_region_held_drew (S := (fun w' => w'.cell? ⟨w.heap.size, k, none⟩ = some (.bool false) ∧ w'.cell? ⟨w.heap.size, j, none⟩ = some (.bool f2) ∧ w'.cell? ⟨g, off + k * 2, none⟩ = some (.int .i64 x) ∧ w'.cell? ⟨g, off + k * 2 + 1, none⟩ = some (.int .i64 y) ∧ w'.cell? ⟨g, off + j * 2, none⟩ = some (.int .i64 x') ∧ w'.cell? ⟨g, off + j * 2 + 1, none⟩ = some (.int .i64 y'))) (by kernel_rfl) ?_ (fun hS => ?_)
                  · ((go_split_ands; (try dsimp only); (repeat' (with_reducible apply And.intro)) <;> (repeat (first | with_reducible assumption | with_reducible apply keep_alloc | with_reducible apply keep_drew | with_reducible refine keep_below hb1 ?_ | ((with_reducible refine keep_set ?_ ?_); rotate_left; (simp <;> omega))))))
                  refine wpT (i := 0) (v := ?_) rfl rfl (by kernel_rfl) (by kernel_rfl) (by kernel_rfl) (fun _ _ _ h => h) (Or.inl ⟨by rfl, ?_⟩) hS ?_
                  rotate_left
                  · (intro w hSw; (try dsimp only at hSw); go_simp; first | done | with_reducible rfl)
                  simp only [List.setIfInBounds_toArray, List.set_cons_zero, List.set_cons_succ]
                  refine wpT (i := 1) (v := ?_) rfl rfl (by kernel_rfl) (by kernel_rfl) (by kernel_rfl) (fun _ _ _ h => h) (Or.inl ⟨by rfl, ?_⟩) hS ?_
                  rotate_left
                  · (intro w hSw; (try dsimp only at hSw); go_simp; first | done | with_reducible rfl)
                  simp only [List.setIfInBounds_toArray, List.set_cons_zero, List.set_cons_succ]
                  refine wpT (i := 2) (v := ?_) rfl rfl (by kernel_rfl) (by kernel_rfl) (by kernel_rfl) (fun _ _ _ h => h) (Or.inl ⟨by rfl, ?_⟩) hS ?_
                  rotate_left
                  · (intro w hSw; (try dsimp only at hSw); go_simp; first | done | with_reducible rfl)
                  simp only [List.setIfInBounds_toArray, List.set_cons_zero, List.set_cons_succ]
                  refine wpT (i := 3) (v := ?_) rfl rfl (by kernel_rfl) (by kernel_rfl) (by kernel_rfl) (fun _ _ _ h => h) (Or.inl ⟨by rfl, ?_⟩) hS ?_
                  rotate_left
                  · (intro w hSw; (try dsimp only at hSw); go_simp; first | done | with_reducible rfl)
                  simp only [List.setIfInBounds_toArray, List.set_cons_zero, List.set_cons_succ]
                  refine wpT (i := 4) (v := ?_) rfl rfl (by kernel_rfl) (by kernel_rfl) (by kernel_rfl) (fun _ _ _ h => h) (Or.inl ⟨by rfl, ?_⟩) hS ?_
                  rotate_left
                  · (intro w hSw; (try dsimp only at hSw); go_simp; first | done | with_reducible rfl)
                  simp only [List.setIfInBounds_toArray, List.set_cons_zero, List.set_cons_succ]
                  refine wpT (i := 5) (v := undef) rfl rfl (by kernel_rfl) (by kernel_rfl) (by kernel_rfl) (fun _ _ _ h => h) (Or.inr ⟨by rfl, rfl⟩) hS ?_
                  simp only [List.setIfInBounds_toArray, List.set_cons_zero, List.set_cons_succ]
                  refine wpT (i := 6) (v := undef) rfl rfl (by kernel_rfl) (by kernel_rfl) (by kernel_rfl) (fun _ _ _ h => h) (Or.inr ⟨by rfl, rfl⟩) hS ?_
                  simp only [List.setIfInBounds_toArray, List.set_cons_zero, List.set_cons_succ]
                  refine wpT (i := 7) (v := undef) rfl rfl (by kernel_rfl) (by kernel_rfl) (by kernel_rfl) (fun _ _ _ h => h) (Or.inr ⟨by rfl, rfl⟩) hS ?_
                  simp only [List.setIfInBounds_toArray, List.set_cons_zero, List.set_cons_succ]
                  refine wpT (i := 8) (v := undef) rfl rfl (by kernel_rfl) (by kernel_rfl) (by kernel_rfl) (fun _ _ _ h => h) (Or.inr ⟨by rfl, rfl⟩) hS ?_
                  simp only [List.setIfInBounds_toArray, List.set_cons_zero, List.set_cons_succ]
                  refine wpT (i := 9) (v := undef) rfl rfl (by kernel_rfl) (by kernel_rfl) (by kernel_rfl) (fun _ _ _ h => h) (Or.inr ⟨by rfl, rfl⟩) hS ?_
                  simp only [List.setIfInBounds_toArray, List.set_cons_zero, List.set_cons_succ]
                  refine wpT (i := 10) (v := ?_) rfl rfl (by kernel_rfl) (by kernel_rfl) (by kernel_rfl) (fun _ _ _ h => h) (Or.inl ⟨by rfl, ?_⟩) hS ?_
                  rotate_left
                  · (intro w hSw; (try dsimp only at hSw); go_simp; first | done | with_reducible rfl)
                  simp only [List.setIfInBounds_toArray, List.set_cons_zero, List.set_cons_succ]
                  refine wpT (i := 11) (v := ?_) rfl rfl (by kernel_rfl) (by kernel_rfl) (by kernel_rfl) (fun _ _ _ h => h) (Or.inl ⟨by rfl, ?_⟩) hS ?_
                  rotate_left
                  · (intro w hSw; (try dsimp only at hSw); go_simp; first | done | with_reducible rfl)
                  simp only [List.setIfInBounds_toArray, List.set_cons_zero, List.set_cons_succ]
                  refine wpT (i := 12) (v := undef) rfl rfl (by kernel_rfl) (by kernel_rfl) (by kernel_rfl) (fun _ _ _ h => h) (Or.inr ⟨by rfl, rfl⟩) hS ?_
                  simp only [List.setIfInBounds_toArray, List.set_cons_zero, List.set_cons_succ]
                  refine wpT (i := 13) (v := undef) rfl rfl (by kernel_rfl) (by kernel_rfl) (by kernel_rfl) (fun _ _ _ h => h) (Or.inr ⟨by rfl, rfl⟩) hS ?_
                  simp only [List.setIfInBounds_toArray, List.set_cons_zero, List.set_cons_succ]
                  refine wpT (i := 14) (v := undef) rfl rfl (by kernel_rfl) (by kernel_rfl) (by kernel_rfl) (fun _ _ _ h => h) (Or.inr ⟨by rfl, rfl⟩) hS ?_
                  simp only [List.setIfInBounds_toArray, List.set_cons_zero, List.set_cons_succ]
                  refine wpT (i := 15) (v := undef) rfl rfl (by kernel_rfl) (by kernel_rfl) (by kernel_rfl) (fun _ _ _ h => h) (Or.inr ⟨by rfl, rfl⟩) hS ?_
                  simp only [List.setIfInBounds_toArray, List.set_cons_zero, List.set_cons_succ]
                  refine wpT (i := 16) (v := undef) rfl rfl (by kernel_rfl) (by kernel_rfl) (by kernel_rfl) (fun _ _ _ h => h) (Or.inr ⟨by rfl, rfl⟩) hS ?_
                  simp only [List.setIfInBounds_toArray, List.set_cons_zero, List.set_cons_succ]
                  refine wpT (i := 17) (v := undef) rfl rfl (by kernel_rfl) (by kernel_rfl) (by kernel_rfl) (fun _ _ _ h => h) (Or.inr ⟨by rfl, rfl⟩) hS ?_
                  simp only [List.setIfInBounds_toArray, List.set_cons_zero, List.set_cons_succ]
                  refine wpT (i := 18) (v := undef) rfl rfl (by kernel_rfl) (by kernel_rfl) (by kernel_rfl) (fun _ _ _ h => h) (Or.inr ⟨by rfl, rfl⟩) hS ?_
                  simp only [List.setIfInBounds_toArray, List.set_cons_zero, List.set_cons_succ]
                  refine wpT (i := 19) (v := undef) rfl rfl (by kernel_rfl) (by kernel_rfl) (by kernel_rfl) (fun _ _ _ h => h) (Or.inr ⟨by rfl, rfl⟩) hS ?_
                  simp only [List.setIfInBounds_toArray, List.set_cons_zero, List.set_cons_succ]
                  refine wpT (i := 20) (v := undef) rfl rfl (by kernel_rfl) (by kernel_rfl) (by kernel_rfl) (fun _ _ _ h => h) (Or.inr ⟨by rfl, rfl⟩) hS ?_
                  simp only [List.setIfInBounds_toArray, List.set_cons_zero, List.set_cons_succ]
                  refine wpT (i := 21) (v := ?_) rfl rfl (by kernel_rfl) (by kernel_rfl) (by kernel_rfl) (fun _ _ _ h => h) (Or.inl ⟨by rfl, ?_⟩) hS ?_
                  rotate_left
                  · (intro w hSw; (try dsimp only at hSw); go_simp; first | done | with_reducible rfl)
                  simp only [List.setIfInBounds_toArray, List.set_cons_zero, List.set_cons_succ]
                  refine wpAnyH_done (by kernel_rfl) ?_ _
                  refine NoPanic.normal ?_
                  go_wp2_with fail
                  go_meet
                  exact ⟨rfl, (by (repeat (first | with_reducible exact Below.refl _ _ | with_reducible assumption | with_reducible apply bel_alloc | with_reducible apply bel_drew | with_reducible apply bel_drewN | ((with_reducible refine bel_set ?_ ?_); rotate_left; (simp <;> omega)) | (with_reducible refine bel_trans ?_ (by with_reducible assumption)))))⟩
                | true =>
                  cases f2 with
                  | true =>
                    refine wp_region_noPanic ?_
                    refine wp_region_held_drew (S := (fun w' => w'.cell? ⟨w.heap.size, k, none⟩ = some (.bool true) ∧ w'.cell? ⟨w.heap.size, j, none⟩ = some (.bool true) ∧ w'.cell? ⟨g, off + k * 2, none⟩ = some (.int .i64 x) ∧ w'.cell? ⟨g, off + k * 2 + 1, none⟩ = some (.int .i64 y) ∧ w'.cell? ⟨g, off + j * 2, none⟩ = some (.int .i64 x') ∧ w'.cell? ⟨g, off + j * 2 + 1, none⟩ = some (.int .i64 y'))) (by kernel_rfl) ?_ (fun hS => ?_)
                    · ((go_split_ands; (try dsimp only); (repeat' (with_reducible apply And.intro)) <;> (repeat (first | with_reducible assumption | with_reducible apply keep_alloc | with_reducible apply keep_drew | with_reducible refine keep_below hb1 ?_ | ((with_reducible refine keep_set ?_ ?_); rotate_left; (simp <;> omega))))))
                    refine wpT (i := 0) (v := ?_) rfl rfl (by kernel_rfl) (by kernel_rfl) (by kernel_rfl) (fun _ _ _ h => h) (Or.inl ⟨by rfl, ?_⟩) hS ?_
                    rotate_left
                    · (intro w hSw; (try dsimp only at hSw); go_simp; first | done | with_reducible rfl)
                    simp only [List.setIfInBounds_toArray, List.set_cons_zero, List.set_cons_succ]
                    refine wpT (i := 1) (v := ?_) rfl rfl (by kernel_rfl) (by kernel_rfl) (by kernel_rfl) (fun _ _ _ h => h) (Or.inl ⟨by rfl, ?_⟩) hS ?_
                    rotate_left
                    · (intro w hSw; (try dsimp only at hSw); go_simp; first | done | with_reducible rfl)
                    simp only [List.setIfInBounds_toArray, List.set_cons_zero, List.set_cons_succ]
                    refine wpT (i := 2) (v := ?_) rfl rfl (by kernel_rfl) (by kernel_rfl) (by kernel_rfl) (fun _ _ _ h => h) (Or.inl ⟨by rfl, ?_⟩) hS ?_
                    rotate_left
                    · (intro w hSw; (try dsimp only at hSw); go_simp; first | done | with_reducible rfl)
                    simp only [List.setIfInBounds_toArray, List.set_cons_zero, List.set_cons_succ]
                    refine wpT (i := 3) (v := ?_) rfl rfl (by kernel_rfl) (by kernel_rfl) (by kernel_rfl) (fun _ _ _ h => h) (Or.inl ⟨by rfl, ?_⟩) hS ?_
                    rotate_left
                    · (intro w hSw; (try dsimp only at hSw); go_simp; first | done | with_reducible rfl)
                    simp only [List.setIfInBounds_toArray, List.set_cons_zero, List.set_cons_succ]
                    refine wpT (i := 4) (v := ?_) rfl rfl (by kernel_rfl) (by kernel_rfl) (by kernel_rfl) (fun _ _ _ h => h) (Or.inl ⟨by rfl, ?_⟩) hS ?_
                    rotate_left
                    · (intro w hSw; (try dsimp only at hSw); go_simp; first | done | with_reducible rfl)
                    simp only [List.setIfInBounds_toArray, List.set_cons_zero, List.set_cons_succ]
                    refine wpT (i := 5) (v := ?_) rfl rfl (by kernel_rfl) (by kernel_rfl) (by kernel_rfl) (fun _ _ _ h => h) (Or.inl ⟨by rfl, ?_⟩) hS ?_
                    rotate_left
                    · (intro w hSw; (try dsimp only at hSw); go_simp; first | done | with_reducible rfl)
                    simp only [List.setIfInBounds_toArray, List.set_cons_zero, List.set_cons_succ]
                    refine wpT (i := 6) (v := ?_) rfl rfl (by kernel_rfl) (by kernel_rfl) (by kernel_rfl) (fun _ _ _ h => h) (Or.inl ⟨by rfl, ?_⟩) hS ?_
                    rotate_left
                    · (intro w hSw; (try dsimp only at hSw); go_simp; first | done | with_reducible rfl)
                    simp only [List.setIfInBounds_toArray, List.set_cons_zero, List.set_cons_succ]
                    refine wpT (i := 7) (v := ?_) rfl rfl (by kernel_rfl) (by kernel_rfl) (by kernel_rfl) (fun _ _ _ h => h) (Or.inl ⟨by rfl, ?_⟩) hS ?_
                    rotate_left
                    · (intro w hSw; (try dsimp only at hSw); go_simp; first | done | with_reducible rfl)
                    simp only [List.setIfInBounds_toArray, List.set_cons_zero, List.set_cons_succ]
                    refine wpT (i := 8) (v := ?_) rfl rfl (by kernel_rfl) (by kernel_rfl) (by kernel_rfl) (fun _ _ _ h => h) (Or.inl ⟨by rfl, ?_⟩) hS ?_
                    rotate_left
                    · (intro w hSw; (try dsimp only at hSw); go_simp; first | done | with_reducible rfl)
                    simp only [List.setIfInBounds_toArray, List.set_cons_zero, List.set_cons_succ]
                    refine wpT (i := 9) (v := ?_) rfl rfl (by kernel_rfl) (by kernel_rfl) (by kernel_rfl) (fun _ _ _ h => h) (Or.inl ⟨by rfl, ?_⟩) hS ?_
                    rotate_left
                    · (intro w hSw; (try dsimp only at hSw); go_simp; first | done | with_reducible rfl)
                    simp only [List.setIfInBounds_toArray, List.set_cons_zero, List.set_cons_succ]
                    refine wpT (i := 10) (v := ?_) rfl rfl (by kernel_rfl) (by kernel_rfl) (by kernel_rfl) (fun _ _ _ h => h) (Or.inl ⟨by rfl, ?_⟩) hS ?_
                    rotate_left
                    · (intro w hSw; (try dsimp only at hSw); go_simp; first | done | with_reducible rfl)
                    simp only [List.setIfInBounds_toArray, List.set_cons_zero, List.set_cons_succ]
                    refine wpT (i := 11) (v := ?_) rfl rfl (by kernel_rfl) (by kernel_rfl) (by kernel_rfl) (fun _ _ _ h => h) (Or.inl ⟨by rfl, ?_⟩) hS ?_
                    rotate_left
                    · (intro w hSw; (try dsimp only at hSw); go_simp; first | done | with_reducible rfl)
                    simp only [List.setIfInBounds_toArray, List.set_cons_zero, List.set_cons_succ]
                    refine wpT (i := 12) (v := undef) rfl rfl (by kernel_rfl) (by kernel_rfl) (by kernel_rfl) (fun _ _ _ h => h) (Or.inr ⟨by rfl, rfl⟩) hS ?_
                    simp only [List.setIfInBounds_toArray, List.set_cons_zero, List.set_cons_succ]
                    refine wpT (i := 13) (v := undef) rfl rfl (by kernel_rfl) (by kernel_rfl) (by kernel_rfl) (fun _ _ _ h => h) (Or.inr ⟨by rfl, rfl⟩) hS ?_
                    simp only [List.setIfInBounds_toArray, List.set_cons_zero, List.set_cons_succ]
                    refine wpT (i := 14) (v := undef) rfl rfl (by kernel_rfl) (by kernel_rfl) (by kernel_rfl) (fun _ _ _ h => h) (Or.inr ⟨by rfl, rfl⟩) hS ?_
                    simp only [List.setIfInBounds_toArray, List.set_cons_zero, List.set_cons_succ]
                    refine wpT (i := 15) (v := undef) rfl rfl (by kernel_rfl) (by kernel_rfl) (by kernel_rfl) (fun _ _ _ h => h) (Or.inr ⟨by rfl, rfl⟩) hS ?_
                    simp only [List.setIfInBounds_toArray, List.set_cons_zero, List.set_cons_succ]
                    refine wpT (i := 16) (v := undef) rfl rfl (by kernel_rfl) (by kernel_rfl) (by kernel_rfl) (fun _ _ _ h => h) (Or.inr ⟨by rfl, rfl⟩) hS ?_
                    simp only [List.setIfInBounds_toArray, List.set_cons_zero, List.set_cons_succ]
                    refine wpT (i := 17) (v := undef) rfl rfl (by kernel_rfl) (by kernel_rfl) (by kernel_rfl) (fun _ _ _ h => h) (Or.inr ⟨by rfl, rfl⟩) hS ?_
                    simp only [List.setIfInBounds_toArray, List.set_cons_zero, List.set_cons_succ]
                    refine wpT (i := 18) (v := undef) rfl rfl (by kernel_rfl) (by kernel_rfl) (by kernel_rfl) (fun _ _ _ h => h) (Or.inr ⟨by rfl, rfl⟩) hS ?_
                    simp only [List.setIfInBounds_toArray, List.set_cons_zero, List.set_cons_succ]
                    refine wpT (i := 19) (v := undef) rfl rfl (by kernel_rfl) (by kernel_rfl) (by kernel_rfl) (fun _ _ _ h => h) (Or.inr ⟨by rfl, rfl⟩) hS ?_
                    simp only [List.setIfInBounds_toArray, List.set_cons_zero, List.set_cons_succ]
                    refine wpT (i := 20) (v := undef) rfl rfl (by kernel_rfl) (by kernel_rfl) (by kernel_rfl) (fun _ _ _ h => h) (Or.inr ⟨by rfl, rfl⟩) hS ?_
                    simp only [List.setIfInBounds_toArray, List.set_cons_zero, List.set_cons_succ]
                    refine wpT (i := 21) (v := ?_) rfl rfl (by kernel_rfl) (by kernel_rfl) (by kernel_rfl) (fun _ _ _ h => h) (Or.inl ⟨by rfl, ?_⟩) hS ?_
                    rotate_left
                    · (intro w hSw; (try dsimp only at hSw); go_simp; first | done | with_reducible rfl)
                    simp only [List.setIfInBounds_toArray, List.set_cons_zero, List.set_cons_succ]
                    refine wpAnyH_done (by kernel_rfl) ?_ _
                    refine NoPanic.normal ?_
                    go_wp2_with fail
                    go_meet
                    exact ⟨rfl, (by (repeat (first | with_reducible exact Below.refl _ _ | with_reducible assumption | with_reducible apply bel_alloc | with_reducible apply bel_drew | with_reducible apply bel_drewN | ((with_reducible refine bel_set ?_ ?_); rotate_left; (simp <;> omega)) | (with_reducible refine bel_trans ?_ (by with_reducible assumption)))))⟩
                  | false =>
                    refine wp_region_noPanic ?_
                    refine wp_region_held_drew (S := (fun w' => w'.cell? ⟨w.heap.size, k, none⟩ = some (.bool true) ∧ w'.cell? ⟨w.heap.size, j, none⟩ = some (.bool false) ∧ w'.cell? ⟨g, off + k * 2, none⟩ = some (.int .i64 x) ∧ w'.cell? ⟨g, off + k * 2 + 1, none⟩ = some (.int .i64 y) ∧ w'.cell? ⟨g, off + j * 2, none⟩ = some (.int .i64 x') ∧ w'.cell? ⟨g, off + j * 2 + 1, none⟩ = some (.int .i64 y'))) (by kernel_rfl) ?_ (fun hS => ?_)
                    · ((go_split_ands; (try dsimp only); (repeat' (with_reducible apply And.intro)) <;> (repeat (first | with_reducible assumption | with_reducible apply keep_alloc | with_reducible apply keep_drew | with_reducible refine keep_below hb1 ?_ | ((with_reducible refine keep_set ?_ ?_); rotate_left; (simp <;> omega))))))
                    refine wpT (i := 0) (v := ?_) rfl rfl (by kernel_rfl) (by kernel_rfl) (by kernel_rfl) (fun _ _ _ h => h) (Or.inl ⟨by rfl, ?_⟩) hS ?_
                    rotate_left
                    · (intro w hSw; (try dsimp only at hSw); go_simp; first | done | with_reducible rfl)
                    simp only [List.setIfInBounds_toArray, List.set_cons_zero, List.set_cons_succ]
                    refine wpT (i := 1) (v := ?_) rfl rfl (by kernel_rfl) (by kernel_rfl) (by kernel_rfl) (fun _ _ _ h => h) (Or.inl ⟨by rfl, ?_⟩) hS ?_
                    rotate_left
                    · (intro w hSw; (try dsimp only at hSw); go_simp; first | done | with_reducible rfl)
                    simp only [List.setIfInBounds_toArray, List.set_cons_zero, List.set_cons_succ]
                    refine wpT (i := 2) (v := ?_) rfl rfl (by kernel_rfl) (by kernel_rfl) (by kernel_rfl) (fun _ _ _ h => h) (Or.inl ⟨by rfl, ?_⟩) hS ?_
                    rotate_left
                    · (intro w hSw; (try dsimp only at hSw); go_simp; first | done | with_reducible rfl)
                    simp only [List.setIfInBounds_toArray, List.set_cons_zero, List.set_cons_succ]
                    refine wpT (i := 3) (v := ?_) rfl rfl (by kernel_rfl) (by kernel_rfl) (by kernel_rfl) (fun _ _ _ h => h) (Or.inl ⟨by rfl, ?_⟩) hS ?_
                    rotate_left
                    · (intro w hSw; (try dsimp only at hSw); go_simp; first | done | with_reducible rfl)
                    simp only [List.setIfInBounds_toArray, List.set_cons_zero, List.set_cons_succ]
                    refine wpT (i := 4) (v := ?_) rfl rfl (by kernel_rfl) (by kernel_rfl) (by kernel_rfl) (fun _ _ _ h => h) (Or.inl ⟨by rfl, ?_⟩) hS ?_
                    rotate_left
                    · (intro w hSw; (try dsimp only at hSw); go_simp; first | done | with_reducible rfl)
                    simp only [List.setIfInBounds_toArray, List.set_cons_zero, List.set_cons_succ]
                    refine wpT (i := 5) (v := ?_) rfl rfl (by kernel_rfl) (by kernel_rfl) (by kernel_rfl) (fun _ _ _ h => h) (Or.inl ⟨by rfl, ?_⟩) hS ?_
                    rotate_left
                    · (intro w hSw; (try dsimp only at hSw); go_simp; first | done | with_reducible rfl)
                    simp only [List.setIfInBounds_toArray, List.set_cons_zero, List.set_cons_succ]
                    refine wpT (i := 6) (v := ?_) rfl rfl (by kernel_rfl) (by kernel_rfl) (by kernel_rfl) (fun _ _ _ h => h) (Or.inl ⟨by rfl, ?_⟩) hS ?_
                    rotate_left
                    · (intro w hSw; (try dsimp only at hSw); go_simp; first | done | with_reducible rfl)
                    simp only [List.setIfInBounds_toArray, List.set_cons_zero, List.set_cons_succ]
                    refine wpT (i := 7) (v := ?_) rfl rfl (by kernel_rfl) (by kernel_rfl) (by kernel_rfl) (fun _ _ _ h => h) (Or.inl ⟨by rfl, ?_⟩) hS ?_
                    rotate_left
                    · (intro w hSw; (try dsimp only at hSw); go_simp; first | done | with_reducible rfl)
                    simp only [List.setIfInBounds_toArray, List.set_cons_zero, List.set_cons_succ]
                    refine wpT (i := 8) (v := ?_) rfl rfl (by kernel_rfl) (by kernel_rfl) (by kernel_rfl) (fun _ _ _ h => h) (Or.inl ⟨by rfl, ?_⟩) hS ?_
                    rotate_left
                    · (intro w hSw; (try dsimp only at hSw); go_simp; first | done | with_reducible rfl)
                    simp only [List.setIfInBounds_toArray, List.set_cons_zero, List.set_cons_succ]
                    refine wpT (i := 9) (v := ?_) rfl rfl (by kernel_rfl) (by kernel_rfl) (by kernel_rfl) (fun _ _ _ h => h) (Or.inl ⟨by rfl, ?_⟩) hS ?_
                    rotate_left
                    · (intro w hSw; (try dsimp only at hSw); go_simp; first | done | with_reducible rfl)
                    simp only [List.setIfInBounds_toArray, List.set_cons_zero, List.set_cons_succ]
                    refine wpT (i := 10) (v := ?_) rfl rfl (by kernel_rfl) (by kernel_rfl) (by kernel_rfl) (fun _ _ _ h => h) (Or.inl ⟨by rfl, ?_⟩) hS ?_
                    rotate_left
                    · (intro w hSw; (try dsimp only at hSw); go_simp; first | done | with_reducible rfl)
                    simp only [List.setIfInBounds_toArray, List.set_cons_zero, List.set_cons_succ]
                    refine wpT (i := 11) (v := ?_) rfl rfl (by kernel_rfl) (by kernel_rfl) (by kernel_rfl) (fun _ _ _ h => h) (Or.inl ⟨by rfl, ?_⟩) hS ?_
                    rotate_left
                    · (intro w hSw; (try dsimp only at hSw); go_simp; first | done | with_reducible rfl)
                    simp only [List.setIfInBounds_toArray, List.set_cons_zero, List.set_cons_succ]
                    refine wpT (i := 12) (v := ?_) rfl rfl (by kernel_rfl) (by kernel_rfl) (by kernel_rfl) (fun _ _ _ h => h) (Or.inl ⟨by rfl, ?_⟩) hS ?_
                    rotate_left
                    · (intro w hSw; (try dsimp only at hSw); go_simp; first | done | with_reducible rfl)
                    simp only [List.setIfInBounds_toArray, List.set_cons_zero, List.set_cons_succ]
                    refine wpT (i := 13) (v := ?_) rfl rfl (by kernel_rfl) (by kernel_rfl) (by kernel_rfl) (fun _ _ _ h => h) (Or.inl ⟨by rfl, ?_⟩) hS ?_
                    rotate_left
                    · (intro w hSw; (try dsimp only at hSw); go_simp; first | done | with_reducible rfl)
                    simp only [List.setIfInBounds_toArray, List.set_cons_zero, List.set_cons_succ]
                    refine wpT (i := 14) (v := ?_) rfl rfl (by kernel_rfl) (by kernel_rfl) (by kernel_rfl) (fun _ _ _ h => h) (Or.inl ⟨by rfl, ?_⟩) hS ?_
                    rotate_left
                    · (intro w hSw; (try dsimp only at hSw); go_simp; first | done | with_reducible rfl)
                    simp only [List.setIfInBounds_toArray, List.set_cons_zero, List.set_cons_succ]
                    refine wpT (i := 15) (v := ?_) rfl rfl (by kernel_rfl) (by kernel_rfl) (by kernel_rfl) (fun _ _ _ h => h) (Or.inl ⟨by rfl, ?_⟩) hS ?_
                    rotate_left
                    · (intro w hSw; (try dsimp only at hSw); go_simp; first | done | with_reducible rfl)
                    simp only [List.setIfInBounds_toArray, List.set_cons_zero, List.set_cons_succ]
                    refine wpT (i := 16) (v := ?_) rfl rfl (by kernel_rfl) (by kernel_rfl) (by kernel_rfl) (fun _ _ _ h => h) (Or.inl ⟨by rfl, ?_⟩) hS ?_
                    rotate_left
                    · (intro w hSw; (try dsimp only at hSw); go_simp; first | done | with_reducible rfl)
                    simp only [List.setIfInBounds_toArray, List.set_cons_zero, List.set_cons_succ]
                    refine wpT (i := 17) (v := ?_) rfl rfl (by kernel_rfl) (by kernel_rfl) (by kernel_rfl) (fun _ _ _ h => h) (Or.inl ⟨by rfl, ?_⟩) hS ?_
                    rotate_left
                    · (intro w hSw; (try dsimp only at hSw); go_simp; first | done | with_reducible rfl)
                    simp only [List.setIfInBounds_toArray, List.set_cons_zero, List.set_cons_succ]
                    refine wpT (i := 18) (v := ?_) rfl rfl (by kernel_rfl) (by kernel_rfl) (by kernel_rfl) (fun _ _ _ h => h) (Or.inl ⟨by rfl, ?_⟩) hS ?_
                    rotate_left
                    · (intro w hSw; (try dsimp only at hSw); go_simp; first | done | with_reducible rfl)
                    simp only [List.setIfInBounds_toArray, List.set_cons_zero, List.set_cons_succ]
                    refine wpT (i := 19) (v := ?_) rfl rfl (by kernel_rfl) (by kernel_rfl) (by kernel_rfl) (fun _ _ _ h => h) (Or.inl ⟨by rfl, ?_⟩) hS ?_
                    rotate_left
                    · (intro w hSw; (try dsimp only at hSw); go_simp; first | done | with_reducible rfl)
                    simp only [List.setIfInBounds_toArray, List.set_cons_zero, List.set_cons_succ]
                    refine wpAnyH_ready (rs := [20]) (by kernel_rfl) (by simp) ?_
                    refine AllReadyH.cons rfl (fun K hK => ?_) AllReadyH.nil
                    go_simp
                    (go_at_call 89; refine (beside_i _ _ _ _ _).mono ?_; rw [HW.out]; rintro e w1 ⟨rfl, hb1⟩)
                    try go_wp2_with fail
                    refine hK.out _ _ ?_ (fun hS2 => ?_)
                    · (clear hK K; ((go_split_ands; (try dsimp only); (repeat' (with_reducible apply And.intro)) <;> (repeat (first | with_reducible assumption | with_reducible apply keep_alloc | with_reducible apply keep_drew | with_reducible refine keep_below hb1 ?_ | ((with_reducible refine keep_set ?_ ?_); rotate_left; (simp <;> omega)))))))
                    clear hS hK K
                    have hS := hS2
                    clear hS2
                    refine wpT (i := 21) (v := ?_) rfl rfl (by kernel_rfl) (by kernel_rfl) (by kernel_rfl) (fun _ _ _ h => h) (Or.inl ⟨by rfl, ?_⟩) hS ?_
                    rotate_left
                    · (intro w hSw; (try dsimp only at hSw); go_simp; first | done | with_reducible rfl)
                    simp only [List.setIfInBounds_toArray, List.set_cons_zero, List.set_cons_succ]
                    refine wpAnyH_done (by kernel_rfl) ?_ _
                    refine NoPanic.normal ?_
                    go_wp2_with fail
                    go_meet
                    exact ⟨by simp, (by (repeat (first | with_reducible exact Below.refl _ _ | with_reducible assumption | with_reducible apply bel_alloc | with_reducible apply bel_drew | with_reducible apply bel_drewN | ((with_reducible refine bel_set ?_ ?_); rotate_left; (simp <;> omega)) | (with_reducible refine bel_trans ?_ (by with_reducible assumption)))))⟩
              case rest =>
                obtain ⟨rfl, hb3⟩ := hcut
                cases hv : (f1 && (!f2 && near (x, y) (x', y'))) with
                | true =>
                  simp only [Bool.and_eq_true, Bool.not_eq_true'] at hv
                  obtain ⟨v1, v2, v3⟩ := hv
                  have hM2 := HNX.out v1 v3
                  have HC2 := Lib.hid (HCT.out v2)
                  have HL2 := HLE.out hM2 v2
                  have HM2 := Lib.hid hM2
                  have hB2 := HB.out.below hb3
                  have e1 := keep_below hb3 b2
                  have e2 := hB2.frozen j
                  have HB3 := Lib.hid (blkL_set hB2 j true)
                  clear hM2 hB2 v1 v2 v3 b1 b2 c1 c2 d1 d2 hfz
                  go_wp2_with fail
                  exact ⟨⟨j + 1, _, true, p + 1, by omega, by go_num, rfl, by go_num, HC2.out.symm, HL2, by omega, fun _ => by omega, HM2.out, by simp, HB3.out, (by (repeat (first | with_reducible exact Below.refl _ _ | with_reducible assumption | with_reducible apply bel_alloc | with_reducible apply bel_drew | with_reducible apply bel_drewN | ((with_reducible refine bel_set ?_ ?_); rotate_left; (simp <;> omega)) | (with_reducible refine bel_trans ?_ (by with_reducible assumption)))))⟩, by simp [intOf]; omega⟩
                | false =>
                  have HCN2 := Lib.hid (HCN.out hv)
                  have HB2 := Lib.hid (HB.out.below hb3)
                  clear hv b1 b2 c1 c2 d1 d2 hfz
                  go_wp2_with fail
                  exact ⟨⟨j + 1, fl, b, p, by omega, by go_num, rfl, rfl, HP.out, hpn, hqp, HBQ.out, HM.out, HCN2.out, HB2.out, (by (repeat (first | with_reducible exact Below.refl _ _ | with_reducible assumption | with_reducible apply bel_alloc | with_reducible apply bel_drew | with_reducible apply bel_drewN | ((with_reducible refine bel_set ?_ ?_); rotate_left; (simp <;> omega)) | (with_reducible refine bel_trans ?_ (by with_reducible assumption)))))⟩, by simp [intOf]; omega⟩
            · have hjn : j = n := by omega
              have HP := Lib.hid hp
              have HM := Lib.hid hM
              have HB := Lib.hid hB
              have HC : Hid (b = false → Cl xs fl (k + 1) 0) := fun h => (hC h).row (by rw [HL.out]; omega)
              have HBQ := Lib.hid hbq
              have hj5 : ¬ (j : Int) < (n : Int) := by omega
              clear hjn hp hM hB hC hbq
              go_wp2
              exact ⟨⟨k + 1, fl, b, p, by omega, by go_num, rfl, rfl, HP.out, hpn, hqp, HBQ.out, HM.out, HC.out, HB.out, (by (repeat (first | with_reducible exact Below.refl _ _ | with_reducible assumption | with_reducible apply bel_alloc | with_reducible apply bel_drew | with_reducible apply bel_drewN | ((with_reducible refine bel_set ?_ ?_); rotate_left; (simp <;> omega)) | (with_reducible refine bel_trans ?_ (by with_reducible assumption)))))⟩, by simp [intOf]; omega⟩
        · have hkn : k = n := by omega
          have HP := Lib.hid hp
          have HM := Lib.hid hM
          have HB := Lib.hid hB
          have HC : Hid (b = false → Cl xs fl n 0) := by rw [← hkn]; exact hC
          have HBQ := Lib.hid hbq
          have hj5 : ¬ (k : Int) < (n : Int) := by omega
          clear hkn hp hM hB hC hbq
          go_wp2
          exact ⟨⟨fl, b, p, rfl, rfl, HP.out, hpn, HM.out, HC.out, HB.out, (by (repeat (first | with_reducible exact Below.refl _ _ | with_reducible assumption | with_reducible apply bel_alloc | with_reducible apply bel_drew | with_reducible apply bel_drewN | ((with_reducible refine bel_set ?_ ?_); rotate_left; (simp <;> omega)) | (with_reducible refine bel_trans ?_ (by with_reducible assumption)))))⟩, by have := HBQ.out; cases b <;> simp [intOf, boolOf] at * <;> omega⟩
end Go.Proofs.Ytagkopemcabkpaa

/- The reference's search by breadth: what is known on the way. No program is in sight. -/
namespace Go.Proofs.Ytagkopemcabkpaa
open Go.RowKit
set_option linter.unusedVariables false
structure Bfs (xs seen : List C) (i j : Nat) : Prop where
  h0 : s0 xs ∈ seen
  sub : ∀ c ∈ seen, c ∈ xs
  nd : seen.Nodup
  rch : ∀ c ∈ seen, Rch xs (s0 xs) c
  cl : ∀ a (ha : a < seen.length) c, c ∈ xs → near seen[a] c = true → (a < i ∨ a = i ∧ ∃ b, b < j ∧ xs[b]? = some c) → c ∈ seen
theorem Bfs.init (xs : List C) (h : 1 ≤ xs.length) : Bfs xs [s0 xs] 0 0 := by
  have h0 : s0 xs ∈ xs := by
    cases xs with
    | nil => simp at h
    | cons a t => simp [s0]
  refine ⟨by simp, fun c hc => ?_, by simp, fun c hc => ?_, fun a ha c _ _ h1 => ?_⟩
  · simp only [List.mem_singleton] at hc; rw [hc]; exact h0
  · simp only [List.mem_singleton] at hc; rw [hc]; exact .base
  · rcases h1 with h1 | ⟨_, b, h1, _⟩ <;> omega
theorem Bfs.len {xs seen : List C} {i j : Nat} (h : Bfs xs seen i j) : seen.length ≤ xs.length := nodup_len seen xs h.nd h.sub
theorem Bfs.skip {xs seen : List C} {i j : Nat} (h : Bfs xs seen i j) (hi : i < seen.length) (hj : j < xs.length) (hn : near seen[i] xs[j] = true → hasC seen xs[j].1 xs[j].2 = true) : Bfs xs seen i (j + 1) := by
  refine ⟨h.h0, h.sub, h.nd, h.rch, fun a ha c hc hnr h1 => ?_⟩
  by_cases e : a = i ∧ xs[j]? = some c
  · obtain ⟨rfl, e⟩ := e
    rw [List.getElem?_eq_getElem hj] at e
    injection e with e
    subst e
    exact (hasC_iff _ _).1 (hn hnr)
  · refine h.cl a ha c hc hnr ?_
    rcases h1 with h1 | ⟨h1, b, hb, hbc⟩
    · exact .inl h1
    · refine .inr ⟨h1, b, ?_, hbc⟩
      rcases Nat.lt_or_ge b j with h2 | h2
      · exact h2
      · obtain rfl : b = j := by omega
        exact absurd ⟨h1, hbc⟩ e
theorem Bfs.push {xs seen : List C} {i j : Nat} (h : Bfs xs seen i j) (hi : i < seen.length) (hj : j < xs.length) (hn : near seen[i] xs[j] = true) (hh : hasC seen xs[j].1 xs[j].2 = false) : Bfs xs (seen ++ [xs[j]]) i (j + 1) := by
  have hnot : xs[j] ∉ seen := fun hm => by rw [(hasC_iff _ _).2 hm] at hh; cases hh
  refine ⟨by simp [h.h0], fun c hc => ?_, ?_, fun c hc => ?_, fun a ha c hc hnr h1 => ?_⟩
  · rcases List.mem_append.1 hc with hc | hc
    · exact h.sub c hc
    · simp only [List.mem_singleton] at hc; rw [hc]; exact List.getElem_mem hj
  · rw [List.nodup_append]
    refine ⟨h.nd, by simp, fun a ha b hb => ?_⟩
    simp only [List.mem_singleton] at hb
    subst hb
    rintro rfl
    exact hnot ha
  · rcases List.mem_append.1 hc with hc | hc
    · exact h.rch c hc
    · simp only [List.mem_singleton] at hc; rw [hc]; exact .step (h.rch _ (List.getElem_mem hi)) (List.getElem_mem hj) hn
  · rw [List.mem_append, List.mem_singleton]
    by_cases ha' : a < seen.length
    · rw [List.getElem_append_left ha'] at hnr
      by_cases e : c = xs[j]
      · exact .inr e
      · refine .inl (h.cl a ha' c hc hnr ?_)
        rcases h1 with h1 | ⟨h1, b, hb, hbc⟩
        · exact .inl h1
        · refine .inr ⟨h1, b, ?_, hbc⟩
          rcases Nat.lt_or_ge b j with h2 | h2
          · exact h2
          · obtain rfl : b = j := by omega
            rw [List.getElem?_eq_getElem hj] at hbc
            injection hbc with hbc
            exact absurd hbc.symm e
    · rcases h1 with h1 | ⟨h1, _⟩ <;> omega
theorem Bfs.row {xs seen : List C} {i j : Nat} (h : Bfs xs seen i j) (hj : xs.length ≤ j) : Bfs xs seen (i + 1) 0 := by
  refine ⟨h.h0, h.sub, h.nd, h.rch, fun a ha c hc hnr h1 => h.cl a ha c hc hnr ?_⟩
  rcases h1 with h1 | ⟨_, b, hb, _⟩
  · rcases Nat.lt_or_ge a i with h2 | h2
    · exact .inl h2
    · obtain ⟨b, hb, e⟩ := List.mem_iff_getElem.1 hc
      exact .inr ⟨by omega, b, by omega, by rw [List.getElem?_eq_getElem hb, e]⟩
  · omega
theorem Bfs.fin {xs seen : List C} {i j : Nat} (h : Bfs xs seen i j) (hs : xs.Nodup) (hi : seen.length ≤ i) : conn xs = decide (seen.length = xs.length) :=
  conn_of_list xs seen h.h0 h.sub h.nd hs h.rch fun b hb c hc hn => by
    obtain ⟨a, ha, rfl⟩ := List.mem_iff_getElem.1 hb
    exact h.cl a ha c hc hn (.inl (by omega))
end Go.Proofs.Ytagkopemcabkpaa

/- The order of cells and shapes: walks of the reference. -/
namespace Go.Proofs.Ytagkopemcabkpaa
open Go.RowKit
set_option linter.unusedVariables false
attribute [local go_sem ↓] Go.wp_at_zero Go.wp_at_succ

theorem onB_split (x y : Int) : onB (x, y) = ((decide (0 ≤ x) && decide (x ≤ 7)) && (decide (0 ≤ y) && decide (y ≤ 7))) := rfl
set_option maxHeartbeats 1600000 in
theorem IsShape_s (A : Option Addr) (n c : Nat) (xs : List C) (w : World) (hr : Rd w A (vC xs)) (hl : xs.length = n) (hn : n ≤ 1099511627776) :
    Calls Try.prog 61 #[.slice A n c] w (Ret w (.bool (isShape xs))) := by
  have HL := Lib.hid hl
  clear hl
  go_enter Try.func61, Try.ntmps61
  go_wp2
  go_loopw [3] (fun i wr => ∃ k : Nat, k ≤ n ∧ i = .int .i64 k ∧ shapeTo xs k = true ∧ Below w.heap.size w wr) (fun i _ => n - (intOf i).toNat)
  case atStart => exact ⟨0, Nat.zero_le _, rfl, rfl, Below.refl _ _⟩
  case round =>
    obtain ⟨k, hk, rfl, hgo, hb⟩ := hrel
    by_cases hlt : k < n
    · have hkx : k < xs.length := by rw [HL.out]; omega
      obtain ⟨g, off, rfl, hgw, c1, c2⟩ := RdC.at_ (hr.below hb) hkx
      have hs := shapeTo_succ xs k hkx
      have hno := isShape_no xs k hkx
      obtain ⟨⟨x, y⟩, hx⟩ : ∃ p, xs[k] = p := ⟨_, rfl⟩
      rw [hx] at c1 c2 hs hno
      have hi0 : (0 : Int) ≤ (k : Int) := by omega
      have hi1 : (k : Int) < (n : Int) := by omega
      have HS := Lib.hid hs
      have HNO := Lib.hid hno
      have HG := Lib.hid hgo
      have hrw := hr.below hb
      clear hs hno hgo hx
      go_upto_region 4 with fail
      go_cut [42] (fun s wx => s = .bool (!shapeAt xs k (x, y)) ∧ Below wr.heap.size wr wx)
      case first =>
        cases hbx : (decide (0 ≤ x) && decide (x ≤ 7)) with
        | false =>
          have HV : Hid (shapeAt xs k (x, y) = false) := by unfold Hid shapeAt; rw [onB_split, hbx]; rfl
          have HX := Lib.hid hbx.symm
          clear hbx
          refine wp_region_noPanic ?_
          refine wp_region_held_drew (S := (fun w' => w'.cell? ⟨g, off + k * 2, none⟩ = some (.int .i64 x) ∧ w'.cell? ⟨g, off + k * 2 + 1, none⟩ = some (.int .i64 y))) (by kernel_rfl) ?_ (fun hS => ?_)
          · ((go_split_ands; (try dsimp only); (repeat' (with_reducible apply And.intro)) <;> (repeat (first | with_reducible assumption | with_reducible apply keep_alloc | with_reducible apply keep_drew | with_reducible refine keep_below hb1 ?_ | ((with_reducible refine keep_set ?_ ?_); rotate_left; (simp <;> omega))))))
          refine wpT (i := 0) (v := ?_) rfl rfl (by kernel_rfl) (by kernel_rfl) (by kernel_rfl) (fun _ _ _ h => h) (Or.inl ⟨by rfl, ?_⟩) hS ?_
          rotate_left
          · (intro w hSw; (try dsimp only at hSw); go_simp; first | done | with_reducible rfl)
          simp only [List.setIfInBounds_toArray, List.set_cons_zero, List.set_cons_succ]
          refine wpT (i := 1) (v := ?_) rfl rfl (by kernel_rfl) (by kernel_rfl) (by kernel_rfl) (fun _ _ _ h => h) (Or.inl ⟨by rfl, ?_⟩) hS ?_
          rotate_left
          · (intro w hSw; (try dsimp only at hSw); go_simp; first | done | with_reducible rfl)
          simp only [List.setIfInBounds_toArray, List.set_cons_zero, List.set_cons_succ]
          refine wpT (i := 2) (v := ?_) rfl rfl (by kernel_rfl) (by kernel_rfl) (by kernel_rfl) (fun _ _ _ h => h) (Or.inl ⟨by rfl, ?_⟩) hS ?_
          rotate_left
          · (intro w hSw; (try dsimp only at hSw); go_simp; first | done | with_reducible rfl)
          simp only [List.setIfInBounds_toArray, List.set_cons_zero, List.set_cons_succ]
          refine wpT (i := 3) (v := ?_) rfl rfl (by kernel_rfl) (by kernel_rfl) (by kernel_rfl) (fun _ _ _ h => h) (Or.inl ⟨by rfl, ?_⟩) hS ?_
          rotate_left
          · (intro w hSw; (try dsimp only at hSw); go_simp; first | done | with_reducible rfl)
          simp only [List.setIfInBounds_toArray, List.set_cons_zero, List.set_cons_succ]
          refine wpT (i := 4) (v := ?_) rfl rfl (by kernel_rfl) (by kernel_rfl) (by kernel_rfl) (fun _ _ _ h => h) (Or.inl ⟨by rfl, ?_⟩) hS ?_
          rotate_left
          · (intro w hSw; (try dsimp only at hSw); go_simp; first | done | with_reducible rfl)
          simp only [List.setIfInBounds_toArray, List.set_cons_zero, List.set_cons_succ]
          refine wpAnyH_ready (rs := [5]) (by kernel_rfl) (by simp) ?_
          refine AllReadyH.cons rfl (fun K hK => ?_) AllReadyH.nil
          go_simp
          (go_at_call 50; refine (l1In_b _ _ _ _ _ HX.out).mono ?_; rintro e w1 ⟨rfl, hb1⟩)
          try go_wp2_with fail
          refine hK.out _ _ ?_ (fun hS2 => ?_)
          · (clear hK K; ((go_split_ands; (try dsimp only); (repeat' (with_reducible apply And.intro)) <;> (repeat (first | with_reducible assumption | with_reducible apply keep_alloc | with_reducible apply keep_drew | with_reducible refine keep_below hb1 ?_ | ((with_reducible refine keep_set ?_ ?_); rotate_left; (simp <;> omega)))))))
          clear hS hK K
          have hS := hS2
          clear hS2
          refine wpT (i := 6) (v := ?_) rfl rfl (by kernel_rfl) (by kernel_rfl) (by kernel_rfl) (fun _ _ _ h => h) (Or.inl ⟨by rfl, ?_⟩) hS ?_
          rotate_left
          · (intro w hSw; (try dsimp only at hSw); go_simp; first | done | with_reducible rfl)
          simp only [List.setIfInBounds_toArray, List.set_cons_zero, List.set_cons_succ]
          refine wpT (i := 7) (v := ?_) rfl rfl (by kernel_rfl) (by kernel_rfl) (by kernel_rfl) (fun _ _ _ h => h) (Or.inl ⟨by rfl, ?_⟩) hS ?_
          rotate_left
          · (intro w hSw; (try dsimp only at hSw); go_simp; first | done | with_reducible rfl)
          simp only [List.setIfInBounds_toArray, List.set_cons_zero, List.set_cons_succ]
          refine wpT (i := 8) (v := undef) rfl rfl (by kernel_rfl) (by kernel_rfl) (by kernel_rfl) (fun _ _ _ h => h) (Or.inr ⟨by rfl, rfl⟩) hS ?_
          simp only [List.setIfInBounds_toArray, List.set_cons_zero, List.set_cons_succ]
          refine wpT (i := 9) (v := undef) rfl rfl (by kernel_rfl) (by kernel_rfl) (by kernel_rfl) (fun _ _ _ h => h) (Or.inr ⟨by rfl, rfl⟩) hS ?_
          simp only [List.setIfInBounds_toArray, List.set_cons_zero, List.set_cons_succ]
          refine wpT (i := 10) (v := undef) rfl rfl (by kernel_rfl) (by kernel_rfl) (by kernel_rfl) (fun _ _ _ h => h) (Or.inr ⟨by rfl, rfl⟩) hS ?_
          simp only [List.setIfInBounds_toArray, List.set_cons_zero, List.set_cons_succ]
          refine wpT (i := 11) (v := undef) rfl rfl (by kernel_rfl) (by kernel_rfl) (by kernel_rfl) (fun _ _ _ h => h) (Or.inr ⟨by rfl, rfl⟩) hS ?_
          simp only [List.setIfInBounds_toArray, List.set_cons_zero, List.set_cons_succ]
          refine wpT (i := 12) (v := undef) rfl rfl (by kernel_rfl) (by kernel_rfl) (by kernel_rfl) (fun _ _ _ h => h) (Or.inr ⟨by rfl, rfl⟩) hS ?_
          simp only [List.setIfInBounds_toArray, List.set_cons_zero, List.set_cons_succ]
          refine wpT (i := 13) (v := undef) rfl rfl (by kernel_rfl) (by kernel_rfl) (by kernel_rfl) (fun _ _ _ h => h) (Or.inr ⟨by rfl, rfl⟩) hS ?_
          simp only [List.setIfInBounds_toArray, List.set_cons_zero, List.set_cons_succ]
          refine wpT (i := 14) (v := undef) rfl rfl (by kernel_rfl) (by kernel_rfl) (by kernel_rfl) (fun _ _ _ h => h) (Or.inr ⟨by rfl, rfl⟩) hS ?_
          simp only [List.setIfInBounds_toArray, List.set_cons_zero, List.set_cons_succ]
          refine wpT (i := 15) (v := ?_) rfl rfl (by kernel_rfl) (by kernel_rfl) (by kernel_rfl) (fun _ _ _ h => h) (Or.inl ⟨by rfl, ?_⟩) hS ?_
          rotate_left
          · (intro w hSw; (try dsimp only at hSw); go_simp; first | done | with_reducible rfl)
          simp only [List.setIfInBounds_toArray, List.set_cons_zero, List.set_cons_succ]
          refine wpT (i := 16) (v := ?_) rfl rfl (by kernel_rfl) (by kernel_rfl) (by kernel_rfl) (fun _ _ _ h => h) (Or.inl ⟨by rfl, ?_⟩) hS ?_
          rotate_left
          · (intro w hSw; (try dsimp only at hSw); go_simp; first | done | with_reducible rfl)
          simp only [List.setIfInBounds_toArray, List.set_cons_zero, List.set_cons_succ]
          refine wpT (i := 17) (v := undef) rfl rfl (by kernel_rfl) (by kernel_rfl) (by kernel_rfl) (fun _ _ _ h => h) (Or.inr ⟨by rfl, rfl⟩) hS ?_
          simp only [List.setIfInBounds_toArray, List.set_cons_zero, List.set_cons_succ]
          refine wpT (i := 18) (v := undef) rfl rfl (by kernel_rfl) (by kernel_rfl) (by kernel_rfl) (fun _ _ _ h => h) (Or.inr ⟨by rfl, rfl⟩) hS ?_
          simp only [List.setIfInBounds_toArray, List.set_cons_zero, List.set_cons_succ]
          refine wpT (i := 19) (v := undef) rfl rfl (by kernel_rfl) (by kernel_rfl) (by kernel_rfl) (fun _ _ _ h => h) (Or.inr ⟨by rfl, rfl⟩) hS ?_
          simp only [List.setIfInBounds_toArray, List.set_cons_zero, List.set_cons_succ]
          refine wpT (i := 20) (v := undef) rfl rfl (by kernel_rfl) (by kernel_rfl) (by kernel_rfl) (fun _ _ _ h => h) (Or.inr ⟨by rfl, rfl⟩) hS ?_
          simp only [List.setIfInBounds_toArray, List.set_cons_zero, List.set_cons_succ]
          refine wpT (i := 21) (v := undef) rfl rfl (by kernel_rfl) (by kernel_rfl) (by kernel_rfl) (fun _ _ _ h => h) (Or.inr ⟨by rfl, rfl⟩) hS ?_
          simp only [List.setIfInBounds_toArray, List.set_cons_zero, List.set_cons_succ]
          refine wpT (i := 22) (v := undef) rfl rfl (by kernel_rfl) (by kernel_rfl) (by kernel_rfl) (fun _ _ _ h => h) (Or.inr ⟨by rfl, rfl⟩) hS ?_
          simp only [List.setIfInBounds_toArray, List.set_cons_zero, List.set_cons_succ]
          refine wpT (i := 23) (v := undef) rfl rfl (by kernel_rfl) (by kernel_rfl) (by kernel_rfl) (fun _ _ _ h => h) (Or.inr ⟨by rfl, rfl⟩) hS ?_
          simp only [List.setIfInBounds_toArray, List.set_cons_zero, List.set_cons_succ]
          refine wpT (i := 24) (v := undef) rfl rfl (by kernel_rfl) (by kernel_rfl) (by kernel_rfl) (fun _ _ _ h => h) (Or.inr ⟨by rfl, rfl⟩) hS ?_
          simp only [List.setIfInBounds_toArray, List.set_cons_zero, List.set_cons_succ]
          refine wpT (i := 25) (v := undef) rfl rfl (by kernel_rfl) (by kernel_rfl) (by kernel_rfl) (fun _ _ _ h => h) (Or.inr ⟨by rfl, rfl⟩) hS ?_
          simp only [List.setIfInBounds_toArray, List.set_cons_zero, List.set_cons_succ]
          refine wpT (i := 26) (v := undef) rfl rfl (by kernel_rfl) (by kernel_rfl) (by kernel_rfl) (fun _ _ _ h => h) (Or.inr ⟨by rfl, rfl⟩) hS ?_
          simp only [List.setIfInBounds_toArray, List.set_cons_zero, List.set_cons_succ]
          refine wpT (i := 27) (v := undef) rfl rfl (by kernel_rfl) (by kernel_rfl) (by kernel_rfl) (fun _ _ _ h => h) (Or.inr ⟨by rfl, rfl⟩) hS ?_
          simp only [List.setIfInBounds_toArray, List.set_cons_zero, List.set_cons_succ]
          refine wpT (i := 28) (v := undef) rfl rfl (by kernel_rfl) (by kernel_rfl) (by kernel_rfl) (fun _ _ _ h => h) (Or.inr ⟨by rfl, rfl⟩) hS ?_
          simp only [List.setIfInBounds_toArray, List.set_cons_zero, List.set_cons_succ]
          refine wpT (i := 29) (v := undef) rfl rfl (by kernel_rfl) (by kernel_rfl) (by kernel_rfl) (fun _ _ _ h => h) (Or.inr ⟨by rfl, rfl⟩) hS ?_
          simp only [List.setIfInBounds_toArray, List.set_cons_zero, List.set_cons_succ]
          refine wpT (i := 30) (v := undef) rfl rfl (by kernel_rfl) (by kernel_rfl) (by kernel_rfl) (fun _ _ _ h => h) (Or.inr ⟨by rfl, rfl⟩) hS ?_
          simp only [List.setIfInBounds_toArray, List.set_cons_zero, List.set_cons_succ]
          refine wpT (i := 31) (v := undef) rfl rfl (by kernel_rfl) (by kernel_rfl) (by kernel_rfl) (fun _ _ _ h => h) (Or.inr ⟨by rfl, rfl⟩) hS ?_
          simp only [List.setIfInBounds_toArray, List.set_cons_zero, List.set_cons_succ]
          refine wpT (i := 32) (v := ?_) rfl rfl (by kernel_rfl) (by kernel_rfl) (by kernel_rfl) (fun _ _ _ h => h) (Or.inl ⟨by rfl, ?_⟩) hS ?_
          rotate_left
          · (intro w hSw; (try dsimp only at hSw); go_simp; first | done | with_reducible rfl)
          simp only [List.setIfInBounds_toArray, List.set_cons_zero, List.set_cons_succ]
          refine wpAnyH_done (by kernel_rfl) ?_ _
          refine NoPanic.normal ?_
          go_wp2_with fail
          go_meet
          exact ⟨by rw [HV.out]; rfl, (by (repeat (first | with_reducible exact Below.refl _ _ | with_reducible assumption | with_reducible apply bel_alloc | with_reducible apply bel_drew | with_reducible apply bel_drewN | ((with_reducible refine bel_set ?_ ?_); rotate_left; (simp <;> omega)) | (with_reducible refine bel_trans ?_ (by with_reducible assumption)))))⟩
        | true =>
          cases hby : (decide (0 ≤ y) && decide (y ≤ 7)) with
          | false =>
            have HV : Hid (shapeAt xs k (x, y) = false) := by unfold Hid shapeAt; rw [onB_split, hbx, hby]; rfl
            have HX := Lib.hid hbx.symm
            have HY := Lib.hid hby.symm
            clear hbx hby
            refine wp_region_noPanic ?_
            refine wp_region_held_drew (S := (fun w' => w'.cell? ⟨g, off + k * 2, none⟩ = some (.int .i64 x) ∧ w'.cell? ⟨g, off + k * 2 + 1, none⟩ = some (.int .i64 y))) (by kernel_rfl) ?_ (fun hS => ?_)
            · ((go_split_ands; (try dsimp only); (repeat' (with_reducible apply And.intro)) <;> (repeat (first | with_reducible assumption | with_reducible apply keep_alloc | with_reducible apply keep_drew | with_reducible refine keep_below hb1 ?_ | ((with_reducible refine keep_set ?_ ?_); rotate_left; (simp <;> omega))))))
            refine wpT (i := 0) (v := ?_) rfl rfl (by kernel_rfl) (by kernel_rfl) (by kernel_rfl) (fun _ _ _ h => h) (Or.inl ⟨by rfl, ?_⟩) hS ?_
            rotate_left
            · (intro w hSw; (try dsimp only at hSw); go_simp; first | done | with_reducible rfl)
            simp only [List.setIfInBounds_toArray, List.set_cons_zero, List.set_cons_succ]
            refine wpT (i := 1) (v := ?_) rfl rfl (by kernel_rfl) (by kernel_rfl) (by kernel_rfl) (fun _ _ _ h => h) (Or.inl ⟨by rfl, ?_⟩) hS ?_
            rotate_left
            · (intro w hSw; (try dsimp only at hSw); go_simp; first | done | with_reducible rfl)
            simp only [List.setIfInBounds_toArray, List.set_cons_zero, List.set_cons_succ]
            refine wpT (i := 2) (v := ?_) rfl rfl (by kernel_rfl) (by kernel_rfl) (by kernel_rfl) (fun _ _ _ h => h) (Or.inl ⟨by rfl, ?_⟩) hS ?_
            rotate_left
            · (intro w hSw; (try dsimp only at hSw); go_simp; first | done | with_reducible rfl)
            simp only [List.setIfInBounds_toArray, List.set_cons_zero, List.set_cons_succ]
            refine wpT (i := 3) (v := ?_) rfl rfl (by kernel_rfl) (by kernel_rfl) (by kernel_rfl) (fun _ _ _ h => h) (Or.inl ⟨by rfl, ?_⟩) hS ?_
            rotate_left
            · (intro w hSw; (try dsimp only at hSw); go_simp; first | done | with_reducible rfl)
            simp only [List.setIfInBounds_toArray, List.set_cons_zero, List.set_cons_succ]
            refine wpT (i := 4) (v := ?_) rfl rfl (by kernel_rfl) (by kernel_rfl) (by kernel_rfl) (fun _ _ _ h => h) (Or.inl ⟨by rfl, ?_⟩) hS ?_
            rotate_left
            · (intro w hSw; (try dsimp only at hSw); go_simp; first | done | with_reducible rfl)
            simp only [List.setIfInBounds_toArray, List.set_cons_zero, List.set_cons_succ]
            refine wpAnyH_ready (rs := [5]) (by kernel_rfl) (by simp) ?_
            refine AllReadyH.cons rfl (fun K hK => ?_) AllReadyH.nil
            go_simp
            (go_at_call 50; refine (l1In_b _ _ _ _ _ HX.out).mono ?_; rintro e w1 ⟨rfl, hb1⟩)
            try go_wp2_with fail
            refine hK.out _ _ ?_ (fun hS2 => ?_)
            · (clear hK K; ((go_split_ands; (try dsimp only); (repeat' (with_reducible apply And.intro)) <;> (repeat (first | with_reducible assumption | with_reducible apply keep_alloc | with_reducible apply keep_drew | with_reducible refine keep_below hb1 ?_ | ((with_reducible refine keep_set ?_ ?_); rotate_left; (simp <;> omega)))))))
            clear hS hK K
            have hS := hS2
            clear hS2
            refine wpT (i := 6) (v := ?_) rfl rfl (by kernel_rfl) (by kernel_rfl) (by kernel_rfl) (fun _ _ _ h => h) (Or.inl ⟨by rfl, ?_⟩) hS ?_
            rotate_left
            · (intro w hSw; (try dsimp only at hSw); go_simp; first | done | with_reducible rfl)
            simp only [List.setIfInBounds_toArray, List.set_cons_zero, List.set_cons_succ]
            refine wpT (i := 7) (v := ?_) rfl rfl (by kernel_rfl) (by kernel_rfl) (by kernel_rfl) (fun _ _ _ h => h) (Or.inl ⟨by rfl, ?_⟩) hS ?_
            rotate_left
            · (intro w hSw; (try dsimp only at hSw); go_simp; first | done | with_reducible rfl)
            simp only [List.setIfInBounds_toArray, List.set_cons_zero, List.set_cons_succ]
            refine wpT (i := 8) (v := ?_) rfl rfl (by kernel_rfl) (by kernel_rfl) (by kernel_rfl) (fun _ _ _ h => h) (Or.inl ⟨by rfl, ?_⟩) hS ?_
            rotate_left
            · (intro w hSw; (try dsimp only at hSw); go_simp; first | done | with_reducible rfl)
            simp only [List.setIfInBounds_toArray, List.set_cons_zero, List.set_cons_succ]
            refine wpT (i := 9) (v := ?_) rfl rfl (by kernel_rfl) (by kernel_rfl) (by kernel_rfl) (fun _ _ _ h => h) (Or.inl ⟨by rfl, ?_⟩) hS ?_
            rotate_left
            · (intro w hSw; (try dsimp only at hSw); go_simp; first | done | with_reducible rfl)
            simp only [List.setIfInBounds_toArray, List.set_cons_zero, List.set_cons_succ]
            refine wpT (i := 10) (v := ?_) rfl rfl (by kernel_rfl) (by kernel_rfl) (by kernel_rfl) (fun _ _ _ h => h) (Or.inl ⟨by rfl, ?_⟩) hS ?_
            rotate_left
            · (intro w hSw; (try dsimp only at hSw); go_simp; first | done | with_reducible rfl)
            simp only [List.setIfInBounds_toArray, List.set_cons_zero, List.set_cons_succ]
            refine wpT (i := 11) (v := ?_) rfl rfl (by kernel_rfl) (by kernel_rfl) (by kernel_rfl) (fun _ _ _ h => h) (Or.inl ⟨by rfl, ?_⟩) hS ?_
            rotate_left
            · (intro w hSw; (try dsimp only at hSw); go_simp; first | done | with_reducible rfl)
            simp only [List.setIfInBounds_toArray, List.set_cons_zero, List.set_cons_succ]
            refine wpT (i := 12) (v := ?_) rfl rfl (by kernel_rfl) (by kernel_rfl) (by kernel_rfl) (fun _ _ _ h => h) (Or.inl ⟨by rfl, ?_⟩) hS ?_
            rotate_left
            · (intro w hSw; (try dsimp only at hSw); go_simp; first | done | with_reducible rfl)
            simp only [List.setIfInBounds_toArray, List.set_cons_zero, List.set_cons_succ]
            refine wpAnyH_ready (rs := [13]) (by kernel_rfl) (by simp) ?_
            refine AllReadyH.cons rfl (fun K hK => ?_) AllReadyH.nil
            go_simp
            (go_at_call 50; refine (l1In_b _ _ _ _ _ HY.out).mono ?_; rintro e w2 ⟨rfl, hb2⟩)
            try go_wp2_with fail
            refine hK.out _ _ ?_ (fun hS2 => ?_)
            · (clear hK K; ((go_split_ands; (try dsimp only); (repeat' (with_reducible apply And.intro)) <;> (repeat (first | with_reducible assumption | with_reducible apply keep_alloc | with_reducible apply keep_drew | with_reducible refine keep_below hb2 ?_ | ((with_reducible refine keep_set ?_ ?_); rotate_left; (simp <;> omega)))))))
            clear hS hK K
            have hS := hS2
            clear hS2
            refine wpT (i := 14) (v := ?_) rfl rfl (by kernel_rfl) (by kernel_rfl) (by kernel_rfl) (fun _ _ _ h => h) (Or.inl ⟨by rfl, ?_⟩) hS ?_
            rotate_left
            · (intro w hSw; (try dsimp only at hSw); go_simp; first | done | with_reducible rfl)
            simp only [List.setIfInBounds_toArray, List.set_cons_zero, List.set_cons_succ]
            refine wpT (i := 15) (v := ?_) rfl rfl (by kernel_rfl) (by kernel_rfl) (by kernel_rfl) (fun _ _ _ h => h) (Or.inl ⟨by rfl, ?_⟩) hS ?_
            rotate_left
            · (intro w hSw; (try dsimp only at hSw); go_simp; first | done | with_reducible rfl)
            simp only [List.setIfInBounds_toArray, List.set_cons_zero, List.set_cons_succ]
            refine wpT (i := 16) (v := ?_) rfl rfl (by kernel_rfl) (by kernel_rfl) (by kernel_rfl) (fun _ _ _ h => h) (Or.inl ⟨by rfl, ?_⟩) hS ?_
            rotate_left
            · (intro w hSw; (try dsimp only at hSw); go_simp; first | done | with_reducible rfl)
            simp only [List.setIfInBounds_toArray, List.set_cons_zero, List.set_cons_succ]
            refine wpT (i := 17) (v := undef) rfl rfl (by kernel_rfl) (by kernel_rfl) (by kernel_rfl) (fun _ _ _ h => h) (Or.inr ⟨by rfl, rfl⟩) hS ?_
            simp only [List.setIfInBounds_toArray, List.set_cons_zero, List.set_cons_succ]
            refine wpT (i := 18) (v := undef) rfl rfl (by kernel_rfl) (by kernel_rfl) (by kernel_rfl) (fun _ _ _ h => h) (Or.inr ⟨by rfl, rfl⟩) hS ?_
            simp only [List.setIfInBounds_toArray, List.set_cons_zero, List.set_cons_succ]
            refine wpT (i := 19) (v := undef) rfl rfl (by kernel_rfl) (by kernel_rfl) (by kernel_rfl) (fun _ _ _ h => h) (Or.inr ⟨by rfl, rfl⟩) hS ?_
            simp only [List.setIfInBounds_toArray, List.set_cons_zero, List.set_cons_succ]
            refine wpT (i := 20) (v := undef) rfl rfl (by kernel_rfl) (by kernel_rfl) (by kernel_rfl) (fun _ _ _ h => h) (Or.inr ⟨by rfl, rfl⟩) hS ?_
            simp only [List.setIfInBounds_toArray, List.set_cons_zero, List.set_cons_succ]
            refine wpT (i := 21) (v := undef) rfl rfl (by kernel_rfl) (by kernel_rfl) (by kernel_rfl) (fun _ _ _ h => h) (Or.inr ⟨by rfl, rfl⟩) hS ?_
            simp only [List.setIfInBounds_toArray, List.set_cons_zero, List.set_cons_succ]
            refine wpT (i := 22) (v := undef) rfl rfl (by kernel_rfl) (by kernel_rfl) (by kernel_rfl) (fun _ _ _ h => h) (Or.inr ⟨by rfl, rfl⟩) hS ?_
            simp only [List.setIfInBounds_toArray, List.set_cons_zero, List.set_cons_succ]
            refine wpT (i := 23) (v := undef) rfl rfl (by kernel_rfl) (by kernel_rfl) (by kernel_rfl) (fun _ _ _ h => h) (Or.inr ⟨by rfl, rfl⟩) hS ?_
            simp only [List.setIfInBounds_toArray, List.set_cons_zero, List.set_cons_succ]
            refine wpT (i := 24) (v := undef) rfl rfl (by kernel_rfl) (by kernel_rfl) (by kernel_rfl) (fun _ _ _ h => h) (Or.inr ⟨by rfl, rfl⟩) hS ?_
            simp only [List.setIfInBounds_toArray, List.set_cons_zero, List.set_cons_succ]
            refine wpT (i := 25) (v := undef) rfl rfl (by kernel_rfl) (by kernel_rfl) (by kernel_rfl) (fun _ _ _ h => h) (Or.inr ⟨by rfl, rfl⟩) hS ?_
            simp only [List.setIfInBounds_toArray, List.set_cons_zero, List.set_cons_succ]
            refine wpT (i := 26) (v := undef) rfl rfl (by kernel_rfl) (by kernel_rfl) (by kernel_rfl) (fun _ _ _ h => h) (Or.inr ⟨by rfl, rfl⟩) hS ?_
            simp only [List.setIfInBounds_toArray, List.set_cons_zero, List.set_cons_succ]
            refine wpT (i := 27) (v := undef) rfl rfl (by kernel_rfl) (by kernel_rfl) (by kernel_rfl) (fun _ _ _ h => h) (Or.inr ⟨by rfl, rfl⟩) hS ?_
            simp only [List.setIfInBounds_toArray, List.set_cons_zero, List.set_cons_succ]
            refine wpT (i := 28) (v := undef) rfl rfl (by kernel_rfl) (by kernel_rfl) (by kernel_rfl) (fun _ _ _ h => h) (Or.inr ⟨by rfl, rfl⟩) hS ?_
            simp only [List.setIfInBounds_toArray, List.set_cons_zero, List.set_cons_succ]
            refine wpT (i := 29) (v := undef) rfl rfl (by kernel_rfl) (by kernel_rfl) (by kernel_rfl) (fun _ _ _ h => h) (Or.inr ⟨by rfl, rfl⟩) hS ?_
            simp only [List.setIfInBounds_toArray, List.set_cons_zero, List.set_cons_succ]
            refine wpT (i := 30) (v := undef) rfl rfl (by kernel_rfl) (by kernel_rfl) (by kernel_rfl) (fun _ _ _ h => h) (Or.inr ⟨by rfl, rfl⟩) hS ?_
            simp only [List.setIfInBounds_toArray, List.set_cons_zero, List.set_cons_succ]
            refine wpT (i := 31) (v := undef) rfl rfl (by kernel_rfl) (by kernel_rfl) (by kernel_rfl) (fun _ _ _ h => h) (Or.inr ⟨by rfl, rfl⟩) hS ?_
            simp only [List.setIfInBounds_toArray, List.set_cons_zero, List.set_cons_succ]
            refine wpT (i := 32) (v := ?_) rfl rfl (by kernel_rfl) (by kernel_rfl) (by kernel_rfl) (fun _ _ _ h => h) (Or.inl ⟨by rfl, ?_⟩) hS ?_
            rotate_left
            · (intro w hSw; (try dsimp only at hSw); go_simp; first | done | with_reducible rfl)
            simp only [List.setIfInBounds_toArray, List.set_cons_zero, List.set_cons_succ]
            refine wpAnyH_done (by kernel_rfl) ?_ _
            refine NoPanic.normal ?_
            go_wp2_with fail
            go_meet
            exact ⟨by rw [HV.out]; rfl, (by (repeat (first | with_reducible exact Below.refl _ _ | with_reducible assumption | with_reducible apply bel_alloc | with_reducible apply bel_drew | with_reducible apply bel_drewN | ((with_reducible refine bel_set ?_ ?_); rotate_left; (simp <;> omega)) | (with_reducible refine bel_trans ?_ (by with_reducible assumption)))))⟩
          | true =>
            have ho : onB (x, y) = true := by rw [onB_split, hbx, hby]; rfl
            have HX := Lib.hid hbx.symm
            have HY := Lib.hid hby.symm
            clear hbx hby
            by_cases hk0 : 0 < k
            · obtain ⟨j, hj⟩ : ∃ j, k = j + 1 := ⟨k - 1, by omega⟩
              have hkj : (k : Int) - 1 = (j : Int) := by omega
              have hj0 : (0 : Int) ≤ (j : Int) := by omega
              have hj1 : (j : Int) < (n : Int) := by omega
              have hjw : IntKind.i64.wrap (j : Int) = (j : Int) := IntWalk.i64_in _ (by omega)
              have hk2 : (0 : Int) < (k : Int) := by omega
              have hjx : j < xs.length := by omega
              have d1 : wr.cell? ⟨g, off + j * 2, none⟩ = some (.int .i64 xs[j].1) := by
                obtain ⟨g', off', e, _, h1, _⟩ := RdC.at_ hrw hjx
                simp only [Option.some.injEq, Addr.mk.injEq, and_true] at e
                obtain ⟨rfl, rfl⟩ := e
                exact h1
              have d2 : wr.cell? ⟨g, off + j * 2 + 1, none⟩ = some (.int .i64 xs[j].2) := by
                obtain ⟨g', off', e, _, _, h1⟩ := RdC.at_ hrw hjx
                simp only [Option.some.injEq, Addr.mk.injEq, and_true] at e
                obtain ⟨rfl, rfl⟩ := e
                exact h1
              obtain ⟨⟨x', y'⟩, hx'⟩ : ∃ p, xs[j] = p := ⟨_, rfl⟩
              rw [hx'] at d1 d2
              have HV : Hid (shapeAt xs k (x, y) = befC (x', y') (x, y)) := by
                unfold Hid shapeAt
                rw [ho, Bool.true_and, show (k == 0) = false from by simp; omega, Bool.false_or, show k - 1 = j from by omega, List.getD_eq_getElem?_getD, List.getElem?_eq_getElem hjx, hx']; rfl
              clear ho hx' hj
              refine wp_region_noPanic ?_
              refine wp_region_held_drew (S := (fun w' => w'.cell? ⟨g, off + k * 2, none⟩ = some (.int .i64 x) ∧ w'.cell? ⟨g, off + k * 2 + 1, none⟩ = some (.int .i64 y) ∧ w'.cell? ⟨g, off + j * 2, none⟩ = some (.int .i64 x') ∧ w'.cell? ⟨g, off + j * 2 + 1, none⟩ = some (.int .i64 y'))) (by kernel_rfl) ?_ (fun hS => ?_)
              · ((go_split_ands; (try dsimp only); (repeat' (with_reducible apply And.intro)) <;> (repeat (first | with_reducible assumption | with_reducible apply keep_alloc | with_reducible apply keep_drew | with_reducible refine keep_below hb1 ?_ | ((with_reducible refine keep_set ?_ ?_); rotate_left; (simp <;> omega))))))
              refine wpT (i := 0) (v := ?_) rfl rfl (by kernel_rfl) (by kernel_rfl) (by kernel_rfl) (fun _ _ _ h => h) (Or.inl ⟨by rfl, ?_⟩) hS ?_
              rotate_left
              · (intro w hSw; (try dsimp only at hSw); go_simp; first | done | with_reducible rfl)
              simp only [List.setIfInBounds_toArray, List.set_cons_zero, List.set_cons_succ]
              refine wpT (i := 1) (v := ?_) rfl rfl (by kernel_rfl) (by kernel_rfl) (by kernel_rfl) (fun _ _ _ h => h) (Or.inl ⟨by rfl, ?_⟩) hS ?_
              rotate_left
              · (intro w hSw; (try dsimp only at hSw); go_simp; first | done | with_reducible rfl)
              simp only [List.setIfInBounds_toArray, List.set_cons_zero, List.set_cons_succ]
              refine wpT (i := 2) (v := ?_) rfl rfl (by kernel_rfl) (by kernel_rfl) (by kernel_rfl) (fun _ _ _ h => h) (Or.inl ⟨by rfl, ?_⟩) hS ?_
              rotate_left
              · (intro w hSw; (try dsimp only at hSw); go_simp; first | done | with_reducible rfl)
              simp only [List.setIfInBounds_toArray, List.set_cons_zero, List.set_cons_succ]
              refine wpT (i := 3) (v := ?_) rfl rfl (by kernel_rfl) (by kernel_rfl) (by kernel_rfl) (fun _ _ _ h => h) (Or.inl ⟨by rfl, ?_⟩) hS ?_
              rotate_left
              · (intro w hSw; (try dsimp only at hSw); go_simp; first | done | with_reducible rfl)
              simp only [List.setIfInBounds_toArray, List.set_cons_zero, List.set_cons_succ]
              refine wpT (i := 4) (v := ?_) rfl rfl (by kernel_rfl) (by kernel_rfl) (by kernel_rfl) (fun _ _ _ h => h) (Or.inl ⟨by rfl, ?_⟩) hS ?_
              rotate_left
              · (intro w hSw; (try dsimp only at hSw); go_simp; first | done | with_reducible rfl)
              simp only [List.setIfInBounds_toArray, List.set_cons_zero, List.set_cons_succ]
              refine wpAnyH_ready (rs := [5]) (by kernel_rfl) (by simp) ?_
              refine AllReadyH.cons rfl (fun K hK => ?_) AllReadyH.nil
              go_simp
              (go_at_call 50; refine (l1In_b _ _ _ _ _ HX.out).mono ?_; rintro e w1 ⟨rfl, hb1⟩)
              try go_wp2_with fail
              refine hK.out _ _ ?_ (fun hS2 => ?_)
              · (clear hK K; ((go_split_ands; (try dsimp only); (repeat' (with_reducible apply And.intro)) <;> (repeat (first | with_reducible assumption | with_reducible apply keep_alloc | with_reducible apply keep_drew | with_reducible refine keep_below hb1 ?_ | ((with_reducible refine keep_set ?_ ?_); rotate_left; (simp <;> omega)))))))
              clear hS hK K
              have hS := hS2
              clear hS2
              refine wpT (i := 6) (v := ?_) rfl rfl (by kernel_rfl) (by kernel_rfl) (by kernel_rfl) (fun _ _ _ h => h) (Or.inl ⟨by rfl, ?_⟩) hS ?_
              rotate_left
              · (intro w hSw; (try dsimp only at hSw); go_simp; first | done | with_reducible rfl)
              simp only [List.setIfInBounds_toArray, List.set_cons_zero, List.set_cons_succ]
              refine wpT (i := 7) (v := ?_) rfl rfl (by kernel_rfl) (by kernel_rfl) (by kernel_rfl) (fun _ _ _ h => h) (Or.inl ⟨by rfl, ?_⟩) hS ?_
              rotate_left
              · (intro w hSw; (try dsimp only at hSw); go_simp; first | done | with_reducible rfl)
              simp only [List.setIfInBounds_toArray, List.set_cons_zero, List.set_cons_succ]
              refine wpT (i := 8) (v := ?_) rfl rfl (by kernel_rfl) (by kernel_rfl) (by kernel_rfl) (fun _ _ _ h => h) (Or.inl ⟨by rfl, ?_⟩) hS ?_
              rotate_left
              · (intro w hSw; (try dsimp only at hSw); go_simp; first | done | with_reducible rfl)
              simp only [List.setIfInBounds_toArray, List.set_cons_zero, List.set_cons_succ]
              refine wpT (i := 9) (v := ?_) rfl rfl (by kernel_rfl) (by kernel_rfl) (by kernel_rfl) (fun _ _ _ h => h) (Or.inl ⟨by rfl, ?_⟩) hS ?_
              rotate_left
              · (intro w hSw; (try dsimp only at hSw); go_simp; first | done | with_reducible rfl)
              simp only [List.setIfInBounds_toArray, List.set_cons_zero, List.set_cons_succ]
              refine wpT (i := 10) (v := ?_) rfl rfl (by kernel_rfl) (by kernel_rfl) (by kernel_rfl) (fun _ _ _ h => h) (Or.inl ⟨by rfl, ?_⟩) hS ?_
              rotate_left
              · (intro w hSw; (try dsimp only at hSw); go_simp; first | done | with_reducible rfl)
              simp only [List.setIfInBounds_toArray, List.set_cons_zero, List.set_cons_succ]
              refine wpT (i := 11) (v := ?_) rfl rfl (by kernel_rfl) (by kernel_rfl) (by kernel_rfl) (fun _ _ _ h => h) (Or.inl ⟨by rfl, ?_⟩) hS ?_
              rotate_left
              · (intro w hSw; (try dsimp only at hSw); go_simp; first | done | with_reducible rfl)
              simp only [List.setIfInBounds_toArray, List.set_cons_zero, List.set_cons_succ]
              refine wpT (i := 12) (v := ?_) rfl rfl (by kernel_rfl) (by kernel_rfl) (by kernel_rfl) (fun _ _ _ h => h) (Or.inl ⟨by rfl, ?_⟩) hS ?_
              rotate_left
              · (intro w hSw; (try dsimp only at hSw); go_simp; first | done | with_reducible rfl)
              simp only [List.setIfInBounds_toArray, List.set_cons_zero, List.set_cons_succ]
              refine wpAnyH_ready (rs := [13]) (by kernel_rfl) (by simp) ?_
              refine AllReadyH.cons rfl (fun K hK => ?_) AllReadyH.nil
              go_simp
              (go_at_call 50; refine (l1In_b _ _ _ _ _ HY.out).mono ?_; rintro e w2 ⟨rfl, hb2⟩)
              try go_wp2_with fail
              refine hK.out _ _ ?_ (fun hS2 => ?_)
              · (clear hK K; ((go_split_ands; (try dsimp only); (repeat' (with_reducible apply And.intro)) <;> (repeat (first | with_reducible assumption | with_reducible apply keep_alloc | with_reducible apply keep_drew | with_reducible refine keep_below hb2 ?_ | ((with_reducible refine keep_set ?_ ?_); rotate_left; (simp <;> omega)))))))
              clear hS hK K
              have hS := hS2
              clear hS2
              refine wpT (i := 14) (v := ?_) rfl rfl (by kernel_rfl) (by kernel_rfl) (by kernel_rfl) (fun _ _ _ h => h) (Or.inl ⟨by rfl, ?_⟩) hS ?_
              rotate_left
              · (intro w hSw; (try dsimp only at hSw); go_simp; first | done | with_reducible rfl)
              simp only [List.setIfInBounds_toArray, List.set_cons_zero, List.set_cons_succ]
              refine wpT (i := 15) (v := ?_) rfl rfl (by kernel_rfl) (by kernel_rfl) (by kernel_rfl) (fun _ _ _ h => h) (Or.inl ⟨by rfl, ?_⟩) hS ?_
              rotate_left
              · (intro w hSw; (try dsimp only at hSw); go_simp; first | done | with_reducible rfl)
              simp only [List.setIfInBounds_toArray, List.set_cons_zero, List.set_cons_succ]
              refine wpT (i := 16) (v := ?_) rfl rfl (by kernel_rfl) (by kernel_rfl) (by kernel_rfl) (fun _ _ _ h => h) (Or.inl ⟨by rfl, ?_⟩) hS ?_
              rotate_left
              · (intro w hSw; (try dsimp only at hSw); go_simp; first | done | with_reducible rfl)
              simp only [List.setIfInBounds_toArray, List.set_cons_zero, List.set_cons_succ]
              refine wpT (i := 17) (v := ?_) rfl rfl (by kernel_rfl) (by kernel_rfl) (by kernel_rfl) (fun _ _ _ h => h) (Or.inl ⟨by rfl, ?_⟩) hS ?_
              rotate_left
              · (intro w hSw; (try dsimp only at hSw); go_simp; first | done | with_reducible rfl)
              simp only [List.setIfInBounds_toArray, List.set_cons_zero, List.set_cons_succ]
              refine wpT (i := 18) (v := ?_) rfl rfl (by kernel_rfl) (by kernel_rfl) (by kernel_rfl) (fun _ _ _ h => h) (Or.inl ⟨by rfl, ?_⟩) hS ?_
              rotate_left
              · (intro w hSw; (try dsimp only at hSw); go_simp; first | done | with_reducible rfl)
              simp only [List.setIfInBounds_toArray, List.set_cons_zero, List.set_cons_succ]
              refine wpT (i := 19) (v := ?_) rfl rfl (by kernel_rfl) (by kernel_rfl) (by kernel_rfl) (fun _ _ _ h => h) (Or.inl ⟨by rfl, ?_⟩) hS ?_
              rotate_left
              · (intro w hSw; (try dsimp only at hSw); go_simp; first | done | with_reducible rfl)
              simp only [List.setIfInBounds_toArray, List.set_cons_zero, List.set_cons_succ]
              refine wpT (i := 20) (v := ?_) rfl rfl (by kernel_rfl) (by kernel_rfl) (by kernel_rfl) (fun _ _ _ h => h) (Or.inl ⟨by rfl, ?_⟩) hS ?_
              rotate_left
              · (intro w hSw; (try dsimp only at hSw); go_simp; first | done | with_reducible rfl)
              simp only [List.setIfInBounds_toArray, List.set_cons_zero, List.set_cons_succ]
              refine wpT (i := 21) (v := ?_) rfl rfl (by kernel_rfl) (by kernel_rfl) (by kernel_rfl) (fun _ _ _ h => h) (Or.inl ⟨by rfl, ?_⟩) hS ?_
              rotate_left
              · (intro w hSw; (try dsimp only at hSw); go_simp; first | done | with_reducible rfl)
              simp only [List.setIfInBounds_toArray, List.set_cons_zero, List.set_cons_succ]
              refine wpT (i := 22) (v := ?_) rfl rfl (by kernel_rfl) (by kernel_rfl) (by kernel_rfl) (fun _ _ _ h => h) (Or.inl ⟨by rfl, ?_⟩) hS ?_
              rotate_left
              · (intro w hSw; (try dsimp only at hSw); go_simp; first | done | with_reducible rfl)
              simp only [List.setIfInBounds_toArray, List.set_cons_zero, List.set_cons_succ]
              refine wpT (i := 23) (v := ?_) rfl rfl (by kernel_rfl) (by kernel_rfl) (by kernel_rfl) (fun _ _ _ h => h) (Or.inl ⟨by rfl, ?_⟩) hS ?_
              rotate_left
              · (intro w hSw; (try dsimp only at hSw); go_simp; first | done | with_reducible rfl)
              simp only [List.setIfInBounds_toArray, List.set_cons_zero, List.set_cons_succ]
              refine wpT (i := 24) (v := ?_) rfl rfl (by kernel_rfl) (by kernel_rfl) (by kernel_rfl) (fun _ _ _ h => h) (Or.inl ⟨by rfl, ?_⟩) hS ?_
              rotate_left
              · (intro w hSw; (try dsimp only at hSw); go_simp; first | done | with_reducible rfl)
              simp only [List.setIfInBounds_toArray, List.set_cons_zero, List.set_cons_succ]
              refine wpT (i := 25) (v := ?_) rfl rfl (by kernel_rfl) (by kernel_rfl) (by kernel_rfl) (fun _ _ _ h => h) (Or.inl ⟨by rfl, ?_⟩) hS ?_
              rotate_left
              · (intro w hSw; (try dsimp only at hSw); go_simp; first | done | with_reducible rfl)
              simp only [List.setIfInBounds_toArray, List.set_cons_zero, List.set_cons_succ]
              refine wpT (i := 26) (v := ?_) rfl rfl (by kernel_rfl) (by kernel_rfl) (by kernel_rfl) (fun _ _ _ h => h) (Or.inl ⟨by rfl, ?_⟩) hS ?_
              rotate_left
              · (intro w hSw; (try dsimp only at hSw); go_simp; first | done | with_reducible rfl)
              simp only [List.setIfInBounds_toArray, List.set_cons_zero, List.set_cons_succ]
              refine wpT (i := 27) (v := ?_) rfl rfl (by kernel_rfl) (by kernel_rfl) (by kernel_rfl) (fun _ _ _ h => h) (Or.inl ⟨by rfl, ?_⟩) hS ?_
              rotate_left
              · (intro w hSw; (try dsimp only at hSw); go_simp; first | done | with_reducible rfl)
              simp only [List.setIfInBounds_toArray, List.set_cons_zero, List.set_cons_succ]
              refine wpT (i := 28) (v := ?_) rfl rfl (by kernel_rfl) (by kernel_rfl) (by kernel_rfl) (fun _ _ _ h => h) (Or.inl ⟨by rfl, ?_⟩) hS ?_
              rotate_left
              · (intro w hSw; (try dsimp only at hSw); go_simp; first | done | with_reducible rfl)
              simp only [List.setIfInBounds_toArray, List.set_cons_zero, List.set_cons_succ]
              refine wpAnyH_ready (rs := [29]) (by kernel_rfl) (by simp) ?_
              refine AllReadyH.cons rfl (fun K hK => ?_) AllReadyH.nil
              go_simp
              (go_at_call 84; refine (l2Before_s _ _ _ _ _).mono ?_; rintro e w3 ⟨rfl, hb3⟩)
              try go_wp2_with fail
              refine hK.out _ _ ?_ (fun hS2 => ?_)
              · (clear hK K; ((go_split_ands; (try dsimp only); (repeat' (with_reducible apply And.intro)) <;> (repeat (first | with_reducible assumption | with_reducible apply keep_alloc | with_reducible apply keep_drew | with_reducible refine keep_below hb3 ?_ | ((with_reducible refine keep_set ?_ ?_); rotate_left; (simp <;> omega)))))))
              clear hS hK K
              have hS := hS2
              clear hS2
              refine wpT (i := 30) (v := ?_) rfl rfl (by kernel_rfl) (by kernel_rfl) (by kernel_rfl) (fun _ _ _ h => h) (Or.inl ⟨by rfl, ?_⟩) hS ?_
              rotate_left
              · (intro w hSw; (try dsimp only at hSw); go_simp; first | done | with_reducible rfl)
              simp only [List.setIfInBounds_toArray, List.set_cons_zero, List.set_cons_succ]
              refine wpT (i := 31) (v := ?_) rfl rfl (by kernel_rfl) (by kernel_rfl) (by kernel_rfl) (fun _ _ _ h => h) (Or.inl ⟨by rfl, ?_⟩) hS ?_
              rotate_left
              · (intro w hSw; (try dsimp only at hSw); go_simp; first | done | with_reducible rfl)
              simp only [List.setIfInBounds_toArray, List.set_cons_zero, List.set_cons_succ]
              refine wpT (i := 32) (v := ?_) rfl rfl (by kernel_rfl) (by kernel_rfl) (by kernel_rfl) (fun _ _ _ h => h) (Or.inl ⟨by rfl, ?_⟩) hS ?_
              rotate_left
              · (intro w hSw; (try dsimp only at hSw); go_simp; first | done | with_reducible rfl)
              simp only [List.setIfInBounds_toArray, List.set_cons_zero, List.set_cons_succ]
              refine wpAnyH_done (by kernel_rfl) ?_ _
              refine NoPanic.normal ?_
              go_wp2_with fail
              go_meet
              exact ⟨by rw [HV.out], (by (repeat (first | with_reducible exact Below.refl _ _ | with_reducible assumption | with_reducible apply bel_alloc | with_reducible apply bel_drew | with_reducible apply bel_drewN | ((with_reducible refine bel_set ?_ ?_); rotate_left; (simp <;> omega)) | (with_reducible refine bel_trans ?_ (by with_reducible assumption)))))⟩
            · have hk3 : k = 0 := by omega
              have HV : Hid (shapeAt xs k (x, y) = true) := by unfold Hid shapeAt; rw [ho, hk3]; rfl
              have hk2 : decide ((0 : Int) < (k : Int)) = false := by simp; omega
              have hk4 : ¬ (0 : Int) < (k : Int) := by omega
              clear ho hk3
              refine wp_region_noPanic ?_
              refine wp_region_held_drew (S := (fun w' => w'.cell? ⟨g, off + k * 2, none⟩ = some (.int .i64 x) ∧ w'.cell? ⟨g, off + k * 2 + 1, none⟩ = some (.int .i64 y))) (by kernel_rfl) ?_ (fun hS => ?_)
              · ((go_split_ands; (try dsimp only); (repeat' (with_reducible apply And.intro)) <;> (repeat (first | with_reducible assumption | with_reducible apply keep_alloc | with_reducible apply keep_drew | with_reducible refine keep_below hb1 ?_ | ((with_reducible refine keep_set ?_ ?_); rotate_left; (simp <;> omega))))))
              refine wpT (i := 0) (v := ?_) rfl rfl (by kernel_rfl) (by kernel_rfl) (by kernel_rfl) (fun _ _ _ h => h) (Or.inl ⟨by rfl, ?_⟩) hS ?_
              rotate_left
              · (intro w hSw; (try dsimp only at hSw); go_simp; first | done | with_reducible rfl)
              simp only [List.setIfInBounds_toArray, List.set_cons_zero, List.set_cons_succ]
              refine wpT (i := 1) (v := ?_) rfl rfl (by kernel_rfl) (by kernel_rfl) (by kernel_rfl) (fun _ _ _ h => h) (Or.inl ⟨by rfl, ?_⟩) hS ?_
              rotate_left
              · (intro w hSw; (try dsimp only at hSw); go_simp; first | done | with_reducible rfl)
              simp only [List.setIfInBounds_toArray, List.set_cons_zero, List.set_cons_succ]
              refine wpT (i := 2) (v := ?_) rfl rfl (by kernel_rfl) (by kernel_rfl) (by kernel_rfl) (fun _ _ _ h => h) (Or.inl ⟨by rfl, ?_⟩) hS ?_
              rotate_left
              · (intro w hSw; (try dsimp only at hSw); go_simp; first | done | with_reducible rfl)
              simp only [List.setIfInBounds_toArray, List.set_cons_zero, List.set_cons_succ]
              refine wpT (i := 3) (v := ?_) rfl rfl (by kernel_rfl) (by kernel_rfl) (by kernel_rfl) (fun _ _ _ h => h) (Or.inl ⟨by rfl, ?_⟩) hS ?_
              rotate_left
              · (intro w hSw; (try dsimp only at hSw); go_simp; first | done | with_reducible rfl)
              simp only [List.setIfInBounds_toArray, List.set_cons_zero, List.set_cons_succ]
              refine wpT (i := 4) (v := ?_) rfl rfl (by kernel_rfl) (by kernel_rfl) (by kernel_rfl) (fun _ _ _ h => h) (Or.inl ⟨by rfl, ?_⟩) hS ?_
              rotate_left
              · (intro w hSw; (try dsimp only at hSw); go_simp; first | done | with_reducible rfl)
              simp only [List.setIfInBounds_toArray, List.set_cons_zero, List.set_cons_succ]
              refine wpAnyH_ready (rs := [5]) (by kernel_rfl) (by simp) ?_
              refine AllReadyH.cons rfl (fun K hK => ?_) AllReadyH.nil
              go_simp
              (go_at_call 50; refine (l1In_b _ _ _ _ _ HX.out).mono ?_; rintro e w1 ⟨rfl, hb1⟩)
              try go_wp2_with fail
              refine hK.out _ _ ?_ (fun hS2 => ?_)
              · (clear hK K; ((go_split_ands; (try dsimp only); (repeat' (with_reducible apply And.intro)) <;> (repeat (first | with_reducible assumption | with_reducible apply keep_alloc | with_reducible apply keep_drew | with_reducible refine keep_below hb1 ?_ | ((with_reducible refine keep_set ?_ ?_); rotate_left; (simp <;> omega)))))))
              clear hS hK K
              have hS := hS2
              clear hS2
              refine wpT (i := 6) (v := ?_) rfl rfl (by kernel_rfl) (by kernel_rfl) (by kernel_rfl) (fun _ _ _ h => h) (Or.inl ⟨by rfl, ?_⟩) hS ?_
              rotate_left
              · (intro w hSw; (try dsimp only at hSw); go_simp; first | done | with_reducible rfl)
              simp only [List.setIfInBounds_toArray, List.set_cons_zero, List.set_cons_succ]
              refine wpT (i := 7) (v := ?_) rfl rfl (by kernel_rfl) (by kernel_rfl) (by kernel_rfl) (fun _ _ _ h => h) (Or.inl ⟨by rfl, ?_⟩) hS ?_
              rotate_left
              · (intro w hSw; (try dsimp only at hSw); go_simp; first | done | with_reducible rfl)
              simp only [List.setIfInBounds_toArray, List.set_cons_zero, List.set_cons_succ]
              refine wpT (i := 8) (v := ?_) rfl rfl (by kernel_rfl) (by kernel_rfl) (by kernel_rfl) (fun _ _ _ h => h) (Or.inl ⟨by rfl, ?_⟩) hS ?_
              rotate_left
              · (intro w hSw; (try dsimp only at hSw); go_simp; first | done | with_reducible rfl)
              simp only [List.setIfInBounds_toArray, List.set_cons_zero, List.set_cons_succ]
              refine wpT (i := 9) (v := ?_) rfl rfl (by kernel_rfl) (by kernel_rfl) (by kernel_rfl) (fun _ _ _ h => h) (Or.inl ⟨by rfl, ?_⟩) hS ?_
              rotate_left
              · (intro w hSw; (try dsimp only at hSw); go_simp; first | done | with_reducible rfl)
              simp only [List.setIfInBounds_toArray, List.set_cons_zero, List.set_cons_succ]
              refine wpT (i := 10) (v := ?_) rfl rfl (by kernel_rfl) (by kernel_rfl) (by kernel_rfl) (fun _ _ _ h => h) (Or.inl ⟨by rfl, ?_⟩) hS ?_
              rotate_left
              · (intro w hSw; (try dsimp only at hSw); go_simp; first | done | with_reducible rfl)
              simp only [List.setIfInBounds_toArray, List.set_cons_zero, List.set_cons_succ]
              refine wpT (i := 11) (v := ?_) rfl rfl (by kernel_rfl) (by kernel_rfl) (by kernel_rfl) (fun _ _ _ h => h) (Or.inl ⟨by rfl, ?_⟩) hS ?_
              rotate_left
              · (intro w hSw; (try dsimp only at hSw); go_simp; first | done | with_reducible rfl)
              simp only [List.setIfInBounds_toArray, List.set_cons_zero, List.set_cons_succ]
              refine wpT (i := 12) (v := ?_) rfl rfl (by kernel_rfl) (by kernel_rfl) (by kernel_rfl) (fun _ _ _ h => h) (Or.inl ⟨by rfl, ?_⟩) hS ?_
              rotate_left
              · (intro w hSw; (try dsimp only at hSw); go_simp; first | done | with_reducible rfl)
              simp only [List.setIfInBounds_toArray, List.set_cons_zero, List.set_cons_succ]
              refine wpAnyH_ready (rs := [13]) (by kernel_rfl) (by simp) ?_
              refine AllReadyH.cons rfl (fun K hK => ?_) AllReadyH.nil
              go_simp
              (go_at_call 50; refine (l1In_b _ _ _ _ _ HY.out).mono ?_; rintro e w2 ⟨rfl, hb2⟩)
              try go_wp2_with fail
              refine hK.out _ _ ?_ (fun hS2 => ?_)
              · (clear hK K; ((go_split_ands; (try dsimp only); (repeat' (with_reducible apply And.intro)) <;> (repeat (first | with_reducible assumption | with_reducible apply keep_alloc | with_reducible apply keep_drew | with_reducible refine keep_below hb2 ?_ | ((with_reducible refine keep_set ?_ ?_); rotate_left; (simp <;> omega)))))))
              clear hS hK K
              have hS := hS2
              clear hS2
              refine wpT (i := 14) (v := ?_) rfl rfl (by kernel_rfl) (by kernel_rfl) (by kernel_rfl) (fun _ _ _ h => h) (Or.inl ⟨by rfl, ?_⟩) hS ?_
              rotate_left
              · (intro w hSw; (try dsimp only at hSw); go_simp; first | done | with_reducible rfl)
              simp only [List.setIfInBounds_toArray, List.set_cons_zero, List.set_cons_succ]
              refine wpT (i := 15) (v := ?_) rfl rfl (by kernel_rfl) (by kernel_rfl) (by kernel_rfl) (fun _ _ _ h => h) (Or.inl ⟨by rfl, ?_⟩) hS ?_
              rotate_left
              · (intro w hSw; (try dsimp only at hSw); go_simp; first | done | with_reducible rfl)
              simp only [List.setIfInBounds_toArray, List.set_cons_zero, List.set_cons_succ]
              refine wpT (i := 16) (v := ?_) rfl rfl (by kernel_rfl) (by kernel_rfl) (by kernel_rfl) (fun _ _ _ h => h) (Or.inl ⟨by rfl, ?_⟩) hS ?_
              rotate_left
              · (intro w hSw; (try dsimp only at hSw); go_simp; first | done | with_reducible rfl)
              simp only [List.setIfInBounds_toArray, List.set_cons_zero, List.set_cons_succ]
              refine wpT (i := 17) (v := ?_) rfl rfl (by kernel_rfl) (by kernel_rfl) (by kernel_rfl) (fun _ _ _ h => h) (Or.inl ⟨by rfl, ?_⟩) hS ?_
              rotate_left
              · (intro w hSw; (try dsimp only at hSw); go_simp; first | done | with_reducible rfl)
              simp only [List.setIfInBounds_toArray, List.set_cons_zero, List.set_cons_succ]
              refine wpT (i := 18) (v := ?_) rfl rfl (by kernel_rfl) (by kernel_rfl) (by kernel_rfl) (fun _ _ _ h => h) (Or.inl ⟨by rfl, ?_⟩) hS ?_
              rotate_left
              · (intro w hSw; (try dsimp only at hSw); go_simp; first | done | with_reducible rfl)
              simp only [List.setIfInBounds_toArray, List.set_cons_zero, List.set_cons_succ]
              refine wpT (i := 19) (v := ?_) rfl rfl (by kernel_rfl) (by kernel_rfl) (by kernel_rfl) (fun _ _ _ h => h) (Or.inl ⟨by rfl, ?_⟩) hS ?_
              rotate_left
              · (intro w hSw; (try dsimp only at hSw); go_simp; first | done | with_reducible rfl)
              simp only [List.setIfInBounds_toArray, List.set_cons_zero, List.set_cons_succ]
              refine wpT (i := 20) (v := undef) rfl rfl (by kernel_rfl) (by kernel_rfl) (by kernel_rfl) (fun _ _ _ h => h) (Or.inr ⟨by rfl, rfl⟩) hS ?_
              simp only [List.setIfInBounds_toArray, List.set_cons_zero, List.set_cons_succ]
              refine wpT (i := 21) (v := undef) rfl rfl (by kernel_rfl) (by kernel_rfl) (by kernel_rfl) (fun _ _ _ h => h) (Or.inr ⟨by rfl, rfl⟩) hS ?_
              simp only [List.setIfInBounds_toArray, List.set_cons_zero, List.set_cons_succ]
              refine wpT (i := 22) (v := undef) rfl rfl (by kernel_rfl) (by kernel_rfl) (by kernel_rfl) (fun _ _ _ h => h) (Or.inr ⟨by rfl, rfl⟩) hS ?_
              simp only [List.setIfInBounds_toArray, List.set_cons_zero, List.set_cons_succ]
              refine wpT (i := 23) (v := undef) rfl rfl (by kernel_rfl) (by kernel_rfl) (by kernel_rfl) (fun _ _ _ h => h) (Or.inr ⟨by rfl, rfl⟩) hS ?_
              simp only [List.setIfInBounds_toArray, List.set_cons_zero, List.set_cons_succ]
              refine wpT (i := 24) (v := undef) rfl rfl (by kernel_rfl) (by kernel_rfl) (by kernel_rfl) (fun _ _ _ h => h) (Or.inr ⟨by rfl, rfl⟩) hS ?_
              simp only [List.setIfInBounds_toArray, List.set_cons_zero, List.set_cons_succ]
              refine wpT (i := 25) (v := undef) rfl rfl (by kernel_rfl) (by kernel_rfl) (by kernel_rfl) (fun _ _ _ h => h) (Or.inr ⟨by rfl, rfl⟩) hS ?_
              simp only [List.setIfInBounds_toArray, List.set_cons_zero, List.set_cons_succ]
              refine wpT (i := 26) (v := undef) rfl rfl (by kernel_rfl) (by kernel_rfl) (by kernel_rfl) (fun _ _ _ h => h) (Or.inr ⟨by rfl, rfl⟩) hS ?_
              simp only [List.setIfInBounds_toArray, List.set_cons_zero, List.set_cons_succ]
              refine wpT (i := 27) (v := undef) rfl rfl (by kernel_rfl) (by kernel_rfl) (by kernel_rfl) (fun _ _ _ h => h) (Or.inr ⟨by rfl, rfl⟩) hS ?_
              simp only [List.setIfInBounds_toArray, List.set_cons_zero, List.set_cons_succ]
              refine wpT (i := 28) (v := undef) rfl rfl (by kernel_rfl) (by kernel_rfl) (by kernel_rfl) (fun _ _ _ h => h) (Or.inr ⟨by rfl, rfl⟩) hS ?_
              simp only [List.setIfInBounds_toArray, List.set_cons_zero, List.set_cons_succ]
              refine wpT (i := 29) (v := undef) rfl rfl (by kernel_rfl) (by kernel_rfl) (by kernel_rfl) (fun _ _ _ h => h) (Or.inr ⟨by rfl, rfl⟩) hS ?_
              simp only [List.setIfInBounds_toArray, List.set_cons_zero, List.set_cons_succ]
              refine wpT (i := 30) (v := undef) rfl rfl (by kernel_rfl) (by kernel_rfl) (by kernel_rfl) (fun _ _ _ h => h) (Or.inr ⟨by rfl, rfl⟩) hS ?_
              simp only [List.setIfInBounds_toArray, List.set_cons_zero, List.set_cons_succ]
              refine wpT (i := 31) (v := ?_) rfl rfl (by kernel_rfl) (by kernel_rfl) (by kernel_rfl) (fun _ _ _ h => h) (Or.inl ⟨by rfl, ?_⟩) hS ?_
              rotate_left
              · (intro w hSw; (try dsimp only at hSw); go_simp; first | done | with_reducible rfl)
              simp only [List.setIfInBounds_toArray, List.set_cons_zero, List.set_cons_succ]
              refine wpT (i := 32) (v := ?_) rfl rfl (by kernel_rfl) (by kernel_rfl) (by kernel_rfl) (fun _ _ _ h => h) (Or.inl ⟨by rfl, ?_⟩) hS ?_
              rotate_left
              · (intro w hSw; (try dsimp only at hSw); go_simp; first | done | with_reducible rfl)
              simp only [List.setIfInBounds_toArray, List.set_cons_zero, List.set_cons_succ]
              refine wpAnyH_done (by kernel_rfl) ?_ _
              refine NoPanic.normal ?_
              go_wp2_with fail
              go_meet
              exact ⟨by rw [HV.out]; rfl, (by (repeat (first | with_reducible exact Below.refl _ _ | with_reducible assumption | with_reducible apply bel_alloc | with_reducible apply bel_drew | with_reducible apply bel_drewN | ((with_reducible refine bel_set ?_ ?_); rotate_left; (simp <;> omega)) | (with_reducible refine bel_trans ?_ (by with_reducible assumption)))))⟩
      case rest =>
        obtain ⟨rfl, hb3⟩ := hcut
        cases hg : shapeAt xs k (x, y) with
        | true =>
          have HN : Hid (shapeTo xs (k + 1) = true) := by show shapeTo xs (k + 1) = true; rw [HS.out, HG.out, hg]; rfl
          clear hg
          go_wp2
          exact ⟨⟨k + 1, by omega, by go_num, HN.out, (by (repeat (first | with_reducible exact Below.refl _ _ | with_reducible assumption | with_reducible apply bel_alloc | with_reducible apply bel_drew | with_reducible apply bel_drewN | ((with_reducible refine bel_set ?_ ?_); rotate_left; (simp <;> omega)) | (with_reducible refine bel_trans ?_ (by with_reducible assumption)))))⟩, by simp [intOf]; omega⟩
        | false =>
          have HN := Lib.hid (HNO.out hg)
          clear hg
          go_wp2
          go_ret
          exact ⟨by rw [HN.out]; rfl, (by (repeat (first | with_reducible exact Below.refl _ _ | with_reducible assumption | with_reducible apply bel_alloc | with_reducible apply bel_drew | with_reducible apply bel_drewN | ((with_reducible refine bel_set ?_ ?_); rotate_left; (simp <;> omega)) | (with_reducible refine bel_trans ?_ (by with_reducible assumption)))))⟩
    · have hkk : k = n := by omega
      subst hkk
      have hv : isShape xs = (decide ((1 : Int) ≤ (k : Int)) && decide ((k : Int) ≤ 8)) := by
        unfold isShape
        rw [HL.out, hgo]
        rw [Bool.true_and]
        congr 1 <;> (rw [decide_eq_decide]; omega)
      have HV := Lib.hid hv
      clear hgo hv
      go_wp2_with (go_at_call 50; refine (l1In_b _ _ _ (isShape xs) _ HV.out).mono ?_; rintro e w1 ⟨rfl, hb1⟩)
      go_ret
      exact ⟨rfl, (by (repeat (first | with_reducible exact Below.refl _ _ | with_reducible assumption | with_reducible apply bel_alloc | with_reducible apply bel_drew | with_reducible apply bel_drewN | ((with_reducible refine bel_set ?_ ?_); rotate_left; (simp <;> omega)) | (with_reducible refine bel_trans ?_ (by with_reducible assumption)))))⟩
end Go.Proofs.Ytagkopemcabkpaa
