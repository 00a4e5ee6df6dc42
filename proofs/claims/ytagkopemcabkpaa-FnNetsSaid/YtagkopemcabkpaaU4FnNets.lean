/- Texts of this claim, one behind the other: part 4. -/
import Derived.Test.YtagkopemcabkpaaU3FnNets
import Derived.Outline
import Derived.WalkLawsBesides
import Derived.WalkSpells
import Derived.BigQuiet
import Derived.Deep.QuietTactic
import Derived.Deep.RegionHeld3
import Derived.Deep.RegionWith
import Derived.Deep.DeepCutAuto
import Derived.Deep.CutBlock
import Derived.Deep.DrawnRows
import Derived.Shelf.Small.Bits
import Derived.Shelf.Strconv.Itoa0
import Derived.Shelf.Sort.Plain
import Derived.Ground.GgsProg
import Derived.Shelf.GgSortFunc.Insertion
import Derived.Shelf.GgSortFunc.Small
import Derived.Shelf.GgSortFunc.InsertionK
import Derived.Shelf.GgSortFunc.SmallK
import Derived.Shelf.GgSortFunc.Tiny
import Derived.Shelf.GgSortFunc.Compose
import Derived.Shelf.GgSortFunc.LotD
import Derived.Shelf.GgSortFunc.Pivot
import Derived.Shelf.GgSortFunc.Partition
import Derived.Shelf.GgSortFunc.Pdq
import Derived.Shelf.GgSortFunc.Whole
import Derived.Shelf.Slices.In.SortNone
import Derived.Shelf.Slices.In.SortNone2
import Derived.Shelf.SlSortFunc.Xorshift
import Derived.Shelf.SlSortFuncK.ComposeK
import Derived.Shelf.SlSortFuncK.SiftDownK
import Derived.Shelf.SlSortFuncK.HeapSortK
import Derived.Shelf.SlSortFuncK.PartialInsertionK
import Derived.Shelf.SlSortFuncK.LotDK
import Derived.Shelf.SlSortFuncK.PivotK
import Derived.Shelf.SlSortFuncK.PartitionK
import Derived.Shelf.SlSortFunc.SiftDown
import Derived.Shelf.SlSortFunc.HeapSort
import Derived.Shelf.SlSortFunc.PartialInsertion
import Derived.Shelf.SlSortFuncK.PdqK
import Derived.Shelf.SlSortFuncK.WholeK
import Derived.Test.YtagkopemcabkpaaProg
import Derived.Sort.OwnSortedInts
import Derived.Laws.BytesArg
import Derived.Laws.BitsLemmas
/- 'append(append(append([]T{}, a...), x), b...)' in a region that draws its order: the two literals may be made in either order. -/
namespace Go.Proofs.Ytagkopemcabkpaa
open Go.RowKit
set_option linter.unusedVariables false
section
variable {P : Program} {ops : Array Oper} {md : Region.Mode} {C : World → Prop} {Q : Exit → Act → World → Prop}
theorem rg_one {f i : Nat} {o : Oper} {listed : Array Bool} {a : Act} {w : World} (hr : Region.ready md ops listed = [i]) (hi : ops[i]? = some o) (hg : o.guard = none)
    (h : ∀ w', C w' → Ext w w' → o.wp P a w' (fun a' w'' => C w'' ∧ wpRg P md ops C Q f (listed.setIfInBounds i true) a' w'') Q) : wpRg P md ops C Q (f + 1) listed a w := by
  refine ⟨fun e => by rw [hr] at e; simp at e, fun j hj w' hc he => ?_⟩
  rw [hr] at hj
  obtain rfl : j = i := by simpa using hj
  unfold wpOp
  simp only [hi]
  rw [if_pos (by simp [Region.wanted, hg])]
  exact .inl (h w' hc he)
theorem rg_two {f i k : Nat} {o o2 : Oper} {listed : Array Bool} {a : Act} {w : World} (hr : Region.ready md ops listed = [i, k]) (hi : ops[i]? = some o) (hg : o.guard = none) (hk : ops[k]? = some o2) (hg2 : o2.guard = none)
    (h : ∀ w', C w' → Ext w w' → o.wp P a w' (fun a' w'' => C w'' ∧ wpRg P md ops C Q f (listed.setIfInBounds i true) a' w'') Q)
    (h2 : ∀ w', C w' → Ext w w' → o2.wp P a w' (fun a' w'' => C w'' ∧ wpRg P md ops C Q f (listed.setIfInBounds k true) a' w'') Q) : wpRg P md ops C Q (f + 1) listed a w := by
  refine ⟨fun e => by rw [hr] at e; simp at e, fun j hj w' hc he => ?_⟩
  rw [hr] at hj
  unfold wpOp
  rcases (by simpa using hj : j = i ∨ j = k) with rfl | rfl
  · simp only [hi]
    rw [if_pos (by simp [Region.wanted, hg])]
    exact .inl (h w' hc he)
  · simp only [hk]
    rw [if_pos (by simp [Region.wanted, hg2])]
    exact .inl (h2 w' hc he)
end
section
variable {P : Program} {ops : Array Oper} {C : World → Prop} {Q : Exit → Act → World → Prop} {w0 : World}
theorem wp_region_rg {id : Nat} {a : Act} {w : World} {l : List Oper} (n : Nat) (hl : l.length = n) (hm : P.follows .mixedOrders = true) (h : wpRg P .any l.toArray (ExC w) (NoPanic Q) n (Array.replicate n false) a w) : (Code.region id l.toArray true).wp P Q a w := by
  subst hl
  exact wp_region_noPanic (wp_region_any hm (wpAny_of_wpRg _ _ _ _ (ExC.drawn w) (wpRg_ext h (ExC.drawn w))))
/-- An operation that only reads is taken first. -/
theorem rgT {i d : Nat} {oi : Oper} {v : Value} {f : Nat} {listed : Array Bool} {ts : Array Value} {ds : List Deferred} {w : World} (hi : ops[i]? = some oi) (hd : oi.dst = some d)
    (hs : Region.noSelect ops = true) (hf : Region.free .any ops listed i = true) (hr : (Region.ready .any ops listed).contains i = true) (hw : Region.wanted oi (yielded ops ts) = true)
    (hy : ∀ w', ExC w0 w' → oi.quietAt P { tmps := ts, defers := ds } (Ext w') w' v)
    (h : wpRg P .any ops (ExC w0) (NoPanic Q) f (listed.setIfInBounds i true) { tmps := ts.setIfInBounds d v, defers := ds } w) : wpRg P .any ops (ExC w0) (NoPanic Q) (f + 1) listed { tmps := ts, defers := ds } w :=
  wpRg_first (fun _ _ h k => h.ext k) hi (Region.noSelect_spec hs) (fun _ _ _ h => h) f listed _ w (Region.free_spec hi hf) (by simpa using hr) (.inl ⟨hw, hy⟩) (by rw [hd]; exact h)
end
/-- a is a0 but for some slots. -/
structure Fr (S : List Nat) (a0 a : Act) : Prop where
  size : a.tmps.size = a0.tmps.size
  defers : a.defers = a0.defers
  same : ∀ t, t ∉ S → a.tmps[t]? = a0.tmps[t]?
theorem Fr.refl (S : List Nat) (a : Act) : Fr S a a := ⟨rfl, rfl, fun _ _ => rfl⟩
theorem Fr.put {S : List Nat} {a0 a : Act} (h : Fr S a0 a) {d : Nat} (hd : d ∈ S) (v : Value) : Fr S a0 (a.put (some d) v) := by
  refine ⟨by simp [Act.put, h.size], h.defers, fun t ht => ?_⟩
  have hne : d ≠ t := by rintro rfl; exact ht hd
  simp only [Act.put, Array.getElem?_setIfInBounds_ne hne]
  exact h.same t ht
theorem Fr.eval {S : List Nat} {a0 a : Act} (h : Fr S a0 a) {t : Nat} (ht : t ∉ S) : a.eval (.tmp t) = a0.eval (.tmp t) := by
  simp only [Act.eval, Array.getD_eq_getD_getElem?, h.same t ht]
theorem put_eval {a : Act} {d : Nat} (v : Value) (hd : d < a.tmps.size) : (a.put (some d) v).eval (.tmp d) = v := by simp [Act.eval, Act.put, hd]
theorem put_eval_ne {a : Act} {d t : Nat} (v : Value) (hne : d ≠ t) : (a.put (some d) v).eval (.tmp t) = a.eval (.tmp t) := by
  simp [Act.eval, Act.put, Array.getElem?_setIfInBounds_ne hne]
section
variable {P : Program} {o : Oper} {a : Act} {w : World} {K : Act → World → Prop} {Q : Exit → Act → World → Prop}
theorem wp_val {v : Value} {w' : World} (h : (execOp a.eval o).run P w = .ok (.value v) w') (hk : K (a.put o.dst v) w') : o.wp P a w K Q := by
  unfold Oper.wp
  rw [h]
  exact hk
end
theorem agree_set {S : List Nat} {s : Nat} {ts X : Array Value} (hz : ts.size = X.size) (h : ∀ t, t ∉ s :: S → ts[t]? = X[t]?) : ∀ t, t ∉ S → ts[t]? = (X.setIfInBounds s (ts.getD s undef))[t]? := by
  intro t ht
  by_cases e : s = t
  · subst e
    rcases Nat.lt_or_ge s ts.size with hl | hl
    · rw [Array.getElem?_setIfInBounds_self_of_lt (by omega), Array.getD_eq_getD_getElem?, Array.getElem?_eq_getElem hl]; rfl
    · rw [Array.getElem?_eq_none hl, Array.getElem?_eq_none (by simp; omega)]
  · rw [Array.getElem?_setIfInBounds_ne e]
    exact h t (by simp [Ne.symm e, ht])
theorem Fr.form {s0 sA sN sB sD dE : Nat} {a0 a : Act} (h : Fr [s0, sA, sN, sB, sD, dE] a0 a) {v : Value} (hv : a.eval (.tmp dE) = v) :
    ∃ v0 vA vN vB vD, a = { tmps := (((((a0.tmps.setIfInBounds s0 v0).setIfInBounds sA vA).setIfInBounds sN vN).setIfInBounds sB vB).setIfInBounds sD vD).setIfInBounds dE v, defers := a0.defers } := by
  refine ⟨a.tmps.getD s0 undef, a.tmps.getD sA undef, a.tmps.getD sN undef, a.tmps.getD sB undef, a.tmps.getD sD undef, ?_⟩
  have h1 := agree_set h.size h.same
  have h2 := agree_set (by simp [h.size]) h1
  have h3 := agree_set (by simp [h.size]) h2
  have h4 := agree_set (by simp [h.size]) h3
  have h5 := agree_set (by simp [h.size]) h4
  have h6 := agree_set (by simp [h.size]) h5
  have e : a.tmps = _ := Array.ext_getElem? fun t => h6 t (by simp)
  have hv' : a.tmps.getD dE undef = v := hv
  rw [hv'] at e
  obtain ⟨ts, ds⟩ := a
  have hd := h.defers
  simp only at hd e
  subst hd
  rw [← e]
/-- What is known of the region's six operations. -/
structure InsOps (P : Program) (ops : Array Oper) (T e : TypeId) (i0 iA iN iB iD iE s0 sA sN sB sD dE t1 t2 : Nat) (vn : Value) (news : List Value) (xn : Operand) : Prop where
  p0 : ∃ o : Oper, ops[i0]? = some o ∧ o.guard = none ∧ o.dst = some s0 ∧ ∀ a w, (execOp (Act.eval a) o).run P w = .ok (.value (.slice (some ⟨w.heap.size, 0, none⟩) 0 0)) (w.alloc (.cells #[] e))
  pA : ∃ o : Oper, ops[iA]? = some o ∧ o.guard = none ∧ o.dst = some sA ∧ o.op = .call { callee := .builtin .append, args := #[.tmp s0, .tmp t1], argTypes := #[T, T] }
  pN : ∃ o : Oper, ops[iN]? = some o ∧ o.guard = none ∧ o.dst = some sN ∧ ∀ a w, a.eval xn = vn → (execOp (Act.eval a) o).run P w = .ok (.value (.slice (some ⟨w.heap.size, 0, none⟩) 1 1)) (w.alloc (.cells news.toArray e))
  pB : ∃ o : Oper, ops[iB]? = some o ∧ o.guard = none ∧ o.dst = some sB ∧ o.op = .call { callee := .builtin .append, args := #[.tmp sA, .tmp sN], argTypes := #[T, T] }
  pD : ∃ o : Oper, ops[iD]? = some o ∧ o.guard = none ∧ o.dst = some sD ∧ o.op = .call { callee := .builtin .append, args := #[.tmp sB, .tmp t2], argTypes := #[T, T] }
  pE : ∃ o : Oper, ops[iE]? = some o ∧ o.guard = none ∧ o.dst = some dE ∧ o.op = .assign (.tmp sD)
/-- The slots differ. -/
structure InsSlots (s0 sA sN sB sD dE t1 t2 : Nat) (a0 : Act) : Prop where
  lt : s0 < a0.tmps.size ∧ sA < a0.tmps.size ∧ sN < a0.tmps.size ∧ sB < a0.tmps.size ∧ sD < a0.tmps.size ∧ dE < a0.tmps.size
  ne : s0 ≠ sN ∧ sA ≠ sN
  t1n : t1 ∉ [s0, sA, sN, sB, sD, dE]
  t2n : t2 ∉ [s0, sA, sN, sB, sD, dE]
section
variable {P : Program} {ops : Array Oper} {md : Region.Mode} {Q : Exit → Act → World → Prop}
variable {T e : TypeId} {i : TypeInfo} {z : Value} {size bytes : Nat} {i0 iA iN iB iD iE s0 sA sN sB sD dE t1 t2 : Nat} {vn : Value} {vs1 news vs2 : List Value} {xn : Operand} {A1 A2 : Option Addr} {m1 c1 m2 c2 : Nat} {a0 : Act} {w0 : World}
/-- The last two: the second append, the assignment. -/
theorem ins_3 (L : Array Bool) (ht : P.underlying T = some (.slice e)) (hi : P.info? e = some i) (hz : i.zero = some z) (hsize : i.size = size) (hby : i.bytes = bytes) (hzs : z.cells.size = size) (hsz : 0 < size)
    (ho : InsOps P ops T e i0 iA iN iB iD iE s0 sA sN sB sD dE t1 t2 vn news xn) (hs : InsSlots s0 sA sN sB sD dE t1 t2 a0)
    (hrD : Region.ready md ops L = [iD]) (hrE : Region.ready md ops (L.setIfInBounds iD true) = [iE]) (hrF : Region.ready md ops ((L.setIfInBounds iD true).setIfInBounds iE true) = [])
    (e2 : a0.eval (.tmp t2) = .slice A2 m2 c2) (r2 : Rd w0 A2 vs2) (l2 : vs2.length = m2 * size) (h2 : ∀ u ∈ vs2, u.oneCell' = true) (hm : m1 + 1 + m2 ≤ 1099511627776) (hbs : bytes ≤ 64)
    (hQ : ∀ a' w' A' c', Fr [s0, sA, sN, sB, sD, dE] a0 a' → a'.eval (.tmp dE) = .slice A' (m1 + 1 + m2) c' → w'.ownsRow w0.heap.size e size (.slice A' (m1 + 1 + m2) c') (m1 + 1 + m2) (vs1 ++ news ++ vs2) → Ext w0 w' → Q .normal a' w')
    (a : Act) (w : World) (hf : Fr [s0, sA, sN, sB, sD, dE] a0 a) (hx : Ext w0 w) {B : Option Addr} {cB : Nat} (eB : a.eval (.tmp sB) = .slice B (m1 + 1) cB) (oB : w.ownsRow w0.heap.size e size (.slice B (m1 + 1) cB) (m1 + 1) (vs1 ++ news)) :
    wpRg P md ops (ExC w0) Q 2 L a w := by
  obtain ⟨oD, d1, d2, d3, d4⟩ := ho.pD
  obtain ⟨oE, f1, f2, f3, f4⟩ := ho.pE
  refine rg_one hrD d1 d2 fun w1 hc1 he1 => ?_
  have hz1 := hc1.size
  refine wp_app w1 _ _ T d4 w0.heap.size e i z size bytes ht hi hz hsize hby hzs hsz B (m1 + 1) cB _ eB (own_keep oB he1) A2 m2 c2 vs2 (by rw [hf.eval hs.t2n]; exact e2) (r2.below hc1) l2 h2 (by unfold maxLen; omega)
    (Nat.le_trans (Nat.mul_le_mul hm hbs) (by omega)) hz1 ?_
  intro A' c' w2 o2 g2 at2
  have hx2 : Ext w0 w2 := bel_app hc1 g2 (fun g h => (own_lt oB g h).1)
  refine ⟨hx2, ?_⟩
  rw [d3]
  refine rg_one hrE f1 f2 fun w3 hc3 he3 => ?_
  have hlt := hs.lt
  have hf2 : Fr [s0, sA, sN, sB, sD, dE] a0 (a.put (some sD) (.slice A' (m1 + 1 + m2) c')) := hf.put (by simp) _
  have eD : (a.put (some sD) (.slice A' (m1 + 1 + m2) c')).eval (.tmp sD) = .slice A' (m1 + 1 + m2) c' := put_eval _ (by rw [hf.size]; exact hlt.2.2.2.2.1)
  refine wp_val (BigFrame.run_assign (.tmp sD) f4 _) ⟨hc3, ?_⟩
  rw [eD, f3]
  refine ⟨hrF, fun w4 hc4 he4 => ?_⟩
  exact hQ _ _ A' c' (hf2.put (by simp) _) (put_eval _ (by rw [hf2.size]; exact hlt.2.2.2.2.2)) (own_keep (own_keep o2 he3) he4) hc4
/-- The first append's slice and the new element are there. -/
theorem ins_2 (L : Array Bool) (ht : P.underlying T = some (.slice e)) (hi : P.info? e = some i) (hz : i.zero = some z) (hsize : i.size = size) (hby : i.bytes = bytes) (hzs : z.cells.size = size) (hsz : 0 < size)
    (ho : InsOps P ops T e i0 iA iN iB iD iE s0 sA sN sB sD dE t1 t2 vn news xn) (hs : InsSlots s0 sA sN sB sD dE t1 t2 a0)
    (hrB : Region.ready md ops L = [iB]) (hm : m1 + 1 + m2 ≤ 1099511627776) (hbs : bytes ≤ 64) (ln : news.length = size) (hn : ∀ u ∈ news, u.oneCell' = true)
    (h3 : ∀ a w B cB, Fr [s0, sA, sN, sB, sD, dE] a0 a → Ext w0 w → a.eval (.tmp sB) = .slice B (m1 + 1) cB → w.ownsRow w0.heap.size e size (.slice B (m1 + 1) cB) (m1 + 1) (vs1 ++ news) → wpRg P md ops (ExC w0) Q 2 (L.setIfInBounds iB true) a w)
    (a : Act) (w : World) (hf : Fr [s0, sA, sN, sB, sD, dE] a0 a) (hx : Ext w0 w) {B : Option Addr} {cB : Nat} (eA : a.eval (.tmp sA) = .slice B m1 cB) (oA : w.ownsRow w0.heap.size e size (.slice B m1 cB) m1 vs1)
    {N : Option Addr} {cN : Nat} (eN : a.eval (.tmp sN) = .slice N 1 cN) (rN : Rd w N news) : wpRg P md ops (ExC w0) Q 3 L a w := by
  obtain ⟨oB, d1, d2, d3, d4⟩ := ho.pB
  refine rg_one hrB d1 d2 fun w1 hc1 he1 => ?_
  have hz1 := hc1.size
  refine wp_app w1 _ _ T d4 w0.heap.size e i z size bytes ht hi hz hsize hby hzs hsz B m1 cB _ eA (own_keep oA he1) N 1 cN news eN (rN.below he1) (by rw [ln]; omega) hn (by unfold maxLen; omega)
    (Nat.le_trans (Nat.mul_le_mul (show m1 + 1 ≤ 1099511627776 by omega) hbs) (by omega)) hz1 ?_
  intro A' c' w2 o2 g2 at2
  have hx2 : Ext w0 w2 := bel_app hc1 g2 (fun g h => (own_lt oA g h).1)
  refine ⟨hx2, ?_⟩
  rw [d3]
  exact h3 _ _ A' c' (hf.put (by simp) _) hx2 (put_eval _ (by rw [hf.size]; exact hs.lt.2.2.2.1)) o2
/-- The whole tail. -/
theorem ins_tail (L : Array Bool) (ht : P.underlying T = some (.slice e)) (hi : P.info? e = some i) (hz : i.zero = some z) (hsize : i.size = size) (hby : i.bytes = bytes) (hzs : z.cells.size = size) (hsz : 0 < size)
    (ho : InsOps P ops T e i0 iA iN iB iD iE s0 sA sN sB sD dE t1 t2 vn news xn) (hs : InsSlots s0 sA sN sB sD dE t1 t2 a0) (hxn : ∀ a, Fr [s0, sA, sN, sB, sD, dE] a0 a → a.eval xn = vn)
    (r_ : Region.ready md ops L = [i0, iN]) (r0 : Region.ready md ops (L.setIfInBounds i0 true) = [iA, iN]) (rN : Region.ready md ops (L.setIfInBounds iN true) = [i0])
    (r0A : Region.ready md ops ((L.setIfInBounds i0 true).setIfInBounds iA true) = [iN]) (r0N : Region.ready md ops ((L.setIfInBounds i0 true).setIfInBounds iN true) = [iA])
    (i0N : i0 ≠ iN) (iAN : iA ≠ iN)
    (rB : Region.ready md ops (((L.setIfInBounds i0 true).setIfInBounds iA true).setIfInBounds iN true) = [iB])
    (rD : Region.ready md ops ((((L.setIfInBounds i0 true).setIfInBounds iA true).setIfInBounds iN true).setIfInBounds iB true) = [iD])
    (rE : Region.ready md ops (((((L.setIfInBounds i0 true).setIfInBounds iA true).setIfInBounds iN true).setIfInBounds iB true).setIfInBounds iD true) = [iE])
    (rF : Region.ready md ops ((((((L.setIfInBounds i0 true).setIfInBounds iA true).setIfInBounds iN true).setIfInBounds iB true).setIfInBounds iD true).setIfInBounds iE true) = [])
    (e1 : a0.eval (.tmp t1) = .slice A1 m1 c1) (q1 : Rd w0 A1 vs1) (l1 : vs1.length = m1 * size) (h1 : ∀ u ∈ vs1, u.oneCell' = true)
    (e2 : a0.eval (.tmp t2) = .slice A2 m2 c2) (q2 : Rd w0 A2 vs2) (l2 : vs2.length = m2 * size) (h2 : ∀ u ∈ vs2, u.oneCell' = true)
    (ln : news.length = size) (hn : ∀ u ∈ news, u.oneCell' = true) (hm : m1 + 1 + m2 ≤ 1099511627776) (hbs : bytes ≤ 64)
    (hQ : ∀ a' w' A' c', Fr [s0, sA, sN, sB, sD, dE] a0 a' → a'.eval (.tmp dE) = .slice A' (m1 + 1 + m2) c' → w'.ownsRow w0.heap.size e size (.slice A' (m1 + 1 + m2) c') (m1 + 1 + m2) (vs1 ++ news ++ vs2) → Ext w0 w' → Q .normal a' w') :
    wpRg P md ops (ExC w0) Q 6 L a0 w0 := by
  obtain ⟨o0, a1, a2, a3, a4⟩ := ho.p0
  obtain ⟨oA, b1, b2, b3, b4⟩ := ho.pA
  obtain ⟨oN, n1, n2, n3, n4⟩ := ho.pN
  have hlt := hs.lt
  have hsz0 : ∀ w : World, (w.alloc (.cells (#[] : Array Value) e)).ownsRow w.heap.size e size (.slice (some ⟨w.heap.size, 0, none⟩) 0 0) 0 [] := fun w => own_new w e size 0 #[] (by simp) (by simp [maxLen]) (Nat.le_refl _)
  -- behind the first append and the element
  have S2 : ∀ (a : Act) (w : World), Fr [s0, sA, sN, sB, sD, dE] a0 a → Ext w0 w → ∀ (B : Option Addr) (cB : Nat), a.eval (.tmp sA) = .slice B m1 cB → w.ownsRow w0.heap.size e size (.slice B m1 cB) m1 vs1 → ∀ (N : Option Addr) (cN : Nat), a.eval (.tmp sN) = .slice N 1 cN → Rd w N news →
      wpRg P md ops (ExC w0) Q 3 (((L.setIfInBounds i0 true).setIfInBounds iA true).setIfInBounds iN true) a w := fun a w hf hx B cB eA oA' N cN eN rN' =>
    ins_2 (m2 := m2) _ ht hi hz hsize hby hzs hsz ho hs rB hm hbs ln hn (fun a w B cB hf hx eB oB' => ins_3 _ ht hi hz hsize hby hzs hsz ho hs rD rE rF e2 q2 l2 h2 hm hbs hQ a w hf hx eB oB') a w hf hx eA oA' eN rN'
  -- the first append
  have SA : ∀ (a : Act) (w : World) (f : Nat) (L' : Array Bool), Fr [s0, sA, sN, sB, sD, dE] a0 a → Ext w0 w → ∀ (B : Option Addr) (cB : Nat), a.eval (.tmp s0) = .slice B 0 cB → w.ownsRow w0.heap.size e size (.slice B 0 cB) 0 [] →
      ∀ K : Act → World → Prop, (∀ A' c' w', Fr [s0, sA, sN, sB, sD, dE] a0 (a.put (some sA) (.slice A' m1 c')) → Ext w0 w' → w'.ownsRow w0.heap.size e size (.slice A' m1 c') m1 vs1 → w.grownBy w' (ob B) → (∀ g, ob B = some g → w0.heap.size ≤ g) → K (a.put (some sA) (.slice A' m1 c')) w') → oA.wp P a w K Q := by
    intro a w f L' hf hx B cB e0 o0' K hK
    refine wp_app w _ _ T b4 w0.heap.size e i z size bytes ht hi hz hsize hby hzs hsz B 0 cB [] e0 o0' A1 m1 c1 vs1 (by rw [hf.eval hs.t1n]; exact e1) (q1.below hx) l1 h1 (by unfold maxLen; omega)
      (by rw [Nat.zero_add]; exact Nat.le_trans (Nat.mul_le_mul (show m1 ≤ 1099511627776 by omega) hbs) (by omega)) hx.size ?_
    intro A' c' w2 o2 g2 at2
    simp only [Nat.zero_add, List.nil_append] at o2 ⊢
    rw [b3]
    exact hK A' c' w2 (hf.put (by simp) _) (bel_app hx g2 (fun g h => (own_lt o0' g h).1)) o2 g2 (fun g h => (own_lt o0' g h).1)
  refine rg_two r_ a1 a2 n1 n2 (fun w1 hc1 he1 => ?_) (fun w1 hc1 he1 => ?_)
  · -- the empty literal first
    refine wp_val (a4 a0 w1) ⟨bel_alloc hc1 _, ?_⟩
    rw [a3]
    have f0 : Fr [s0, sA, sN, sB, sD, dE] a0 (a0.put (some s0) (.slice (some ⟨w1.heap.size, 0, none⟩) 0 0)) := (Fr.refl _ _).put (by simp) _
    have ev0 : (a0.put (some s0) (.slice (some ⟨w1.heap.size, 0, none⟩) 0 0)).eval (.tmp s0) = .slice (some ⟨w1.heap.size, 0, none⟩) 0 0 := put_eval _ hlt.1
    have ow0 := own_base (hsz0 w1) hc1.size
    refine rg_two r0 b1 b2 n1 n2 (fun w2 hc2 he2 => ?_) (fun w2 hc2 he2 => ?_)
    · refine SA _ w2 0 L f0 hc2 _ _ ev0 (own_keep ow0 he2) _ fun A' c' w3 hf3 hx3 o3 _ _ => ⟨hx3, ?_⟩
      refine rg_one r0A n1 n2 fun w4 hc4 he4 => ?_
      refine wp_val (n4 _ w4 (hxn _ hf3)) ⟨bel_alloc hc4 _, ?_⟩
      rw [n3]
      refine S2 _ _ (hf3.put (by simp) _) (bel_alloc hc4 _) A' c' ?_ (own_keep (own_keep o3 he4) (bel_alloc (Below.refl _ _) _)) (some ⟨w4.heap.size, 0, none⟩) 1 (put_eval _ (by rw [hf3.size]; exact hlt.2.2.1)) (by simpa using rd_new w4 e news.toArray)
      rw [put_eval_ne _ hs.ne.2.symm]
      exact put_eval _ (by rw [f0.size]; exact hlt.2.1)
    · refine wp_val (n4 _ w2 (hxn _ f0)) ⟨bel_alloc hc2 _, ?_⟩
      rw [n3]
      refine rg_one r0N b1 b2 fun w3 hc3 he3 => ?_
      have f1 := f0.put (d := sN) (by simp) (.slice (some ⟨w2.heap.size, 0, none⟩) 1 1)
      have ev1 : ((a0.put (some s0) (.slice (some ⟨w1.heap.size, 0, none⟩) 0 0)).put (some sN) (.slice (some ⟨w2.heap.size, 0, none⟩) 1 1)).eval (.tmp s0) = .slice (some ⟨w1.heap.size, 0, none⟩) 0 0 := by
        rw [put_eval_ne _ hs.ne.1.symm]; exact ev0
      have evN : ((a0.put (some s0) (.slice (some ⟨w1.heap.size, 0, none⟩) 0 0)).put (some sN) (.slice (some ⟨w2.heap.size, 0, none⟩) 1 1)).eval (.tmp sN) = .slice (some ⟨w2.heap.size, 0, none⟩) 1 1 := put_eval _ (by rw [f0.size]; exact hlt.2.2.1)
      have rdN : Rd w3 (some ⟨w2.heap.size, 0, none⟩) news := Rd.below (by simpa using rd_new w2 e news.toArray) he3
      refine SA _ w3 0 L f1 hc3 _ _ ev1 (own_keep (own_keep (own_keep ow0 he2) (bel_alloc (Below.refl _ _) _)) he3) _ fun A' c' w4 hf4 hx4 o4 g4 _ => ⟨hx4, ?_⟩
      rw [Array.setIfInBounds_comm _ _ (Ne.symm iAN)]
      have hz := he2.size
      refine S2 _ _ hf4 hx4 A' c' (put_eval _ (by rw [f1.size]; exact hlt.2.1)) o4 (some ⟨w2.heap.size, 0, none⟩) 1 ?_ (rdN.grown g4 (fun g h e => by
        simp only [ob, Option.map_some, Option.some.injEq] at h e
        simp at hz
        omega))
      rw [put_eval_ne _ hs.ne.2]
      exact evN
  · -- the element first
    refine wp_val (n4 a0 w1 (hxn _ (Fr.refl _ _))) ⟨bel_alloc hc1 _, ?_⟩
    rw [n3]
    have f0 : Fr [s0, sA, sN, sB, sD, dE] a0 (a0.put (some sN) (.slice (some ⟨w1.heap.size, 0, none⟩) 1 1)) := (Fr.refl _ _).put (by simp) _
    have evN : (a0.put (some sN) (.slice (some ⟨w1.heap.size, 0, none⟩) 1 1)).eval (.tmp sN) = .slice (some ⟨w1.heap.size, 0, none⟩) 1 1 := put_eval _ hlt.2.2.1
    have rdN0 : Rd (w1.alloc (.cells news.toArray e)) (some ⟨w1.heap.size, 0, none⟩) news := by simpa using rd_new w1 e news.toArray
    refine rg_one rN a1 a2 fun w2 hc2 he2 => ?_
    refine wp_val (a4 _ w2) ⟨bel_alloc hc2 _, ?_⟩
    rw [a3]
    rw [Array.setIfInBounds_comm _ _ (Ne.symm i0N)]
    refine rg_one r0N b1 b2 fun w3 hc3 he3 => ?_
    have f1 := f0.put (d := s0) (by simp) (.slice (some ⟨w2.heap.size, 0, none⟩) 0 0)
    have ev0 : ((a0.put (some sN) (.slice (some ⟨w1.heap.size, 0, none⟩) 1 1)).put (some s0) (.slice (some ⟨w2.heap.size, 0, none⟩) 0 0)).eval (.tmp s0) = .slice (some ⟨w2.heap.size, 0, none⟩) 0 0 := put_eval _ (by rw [f0.size]; exact hlt.1)
    have evN1 : ((a0.put (some sN) (.slice (some ⟨w1.heap.size, 0, none⟩) 1 1)).put (some s0) (.slice (some ⟨w2.heap.size, 0, none⟩) 0 0)).eval (.tmp sN) = .slice (some ⟨w1.heap.size, 0, none⟩) 1 1 := by
      rw [put_eval_ne _ hs.ne.1]; exact evN
    have rdN : Rd w3 (some ⟨w1.heap.size, 0, none⟩) news := ((rdN0.below he2).alloc _).below he3
    have ow0 := own_base (hsz0 w2) hc2.size
    refine SA _ w3 0 L f1 hc3 _ _ ev0 (own_keep ow0 he3) _ fun A' c' w4 hf4 hx4 o4 g4 _ => ⟨hx4, ?_⟩
    rw [Array.setIfInBounds_comm _ _ (Ne.symm iAN)]
    have hz := he2.size
    refine S2 _ _ hf4 hx4 A' c' (put_eval _ (by rw [f1.size]; exact hlt.2.1)) o4 (some ⟨w1.heap.size, 0, none⟩) 1 ?_ (rdN.grown g4 (fun g h e => by
      simp only [ob, Option.map_some, Option.some.injEq] at h e
      simp at hz
      omega))
    rw [put_eval_ne _ hs.ne.2]
    exact evN1
end
end Go.Proofs.Ytagkopemcabkpaa

/- A number put into a list in order: the reference. -/
namespace Go.Proofs.Ytagkopemcabkpaa
open Go.RowKit
set_option linter.unusedVariables false
attribute [local go_sem ↓] Go.wp_at_zero Go.wp_at_succ

/-- How many numbers stay ahead of n. -/
def cutTo (l : List Int) (n : Int) : Nat → Nat
  | 0 => 0
  | k + 1 => if n < l.getD k 0 then cutTo l n k else k + 1
theorem cutTo_le (l : List Int) (n : Int) (k : Nat) : cutTo l n k ≤ k := by
  induction k with
  | zero => exact Nat.le_refl _
  | succ k ih => unfold cutTo; split <;> omega
def putI (l : List Int) (n : Int) : List Int :=
  if 0 < cutTo l n l.length ∧ l.getD (cutTo l n l.length - 1) 0 = n then l else l.take (cutTo l n l.length) ++ [n] ++ l.drop (cutTo l n l.length)
/-- A slice whose memory is the call's own, of some base. -/
def RetO (w : World) (base E sz : Nat) (vs : List Value) (e : Ending) (w' : World) : Prop :=
  ∃ g n c, e = .returned (.slice (some ⟨g, 0, none⟩) n c) ∧ w'.ownsRow base E sz (.slice (some ⟨g, 0, none⟩) n c) n vs ∧ Below w.heap.size w w'
theorem run_upto (w : World) (g m c k : Nat) (hk : k ≤ c) : (Instr.slice 24 (.slice (some ⟨g, 0, none⟩) m c) none (some (.int .i64 (k : Int))) none).run Try.prog w = .ok (.slice (some ⟨g, 0, none⟩) k c) w := by
  have h2 : (k : Int) ≤ (c : Int) := by omega
  simp [go_sem, h2]
def offK (c k : Nat) : Nat := if c = k then 0 else k
theorem run_from (w : World) (g m c k : Nat) (hk : k ≤ m) : (Instr.slice 24 (.slice (some ⟨g, 0, none⟩) m c) (some (.int .i64 (k : Int))) none none).run Try.prog w = .ok (.slice (some ⟨g, offK c k, none⟩) (m - k) (c - k)) w := by
  have h1 : (0 : Int) ≤ (k : Int) := by omega
  have h2 : (k : Int) ≤ (m : Int) := by omega
  unfold offK
  by_cases hc : c = k
  · subst hc
    simp [go_sem, h2]
  · simp [go_sem, h2, hc]
theorem Rd.from_ {w : World} {g c k m : Nat} {l : List Int} (h : Rd w (some ⟨g, 0, none⟩) (vI l)) (hl : l.length = m) (hmc : m ≤ c) : Rd w (some ⟨g, offK c k, none⟩) (vI (l.drop k)) := by
  have h2 := Rd.drop h k c (by rw [vI_length]; omega)
  rw [vI_drop]
  unfold offK
  split
  · next e => rw [if_pos e] at h2; exact h2
  · next e =>
    rw [if_neg e] at h2
    have e2 : (some ⟨g, 0, none⟩ : Option Addr).map (·.add k) = some ⟨g, k, none⟩ := by simp only [Option.map_some]; unfold Addr.add; split <;> simp_all
    rw [e2] at h2
    exact h2
theorem putI_same {l : List Int} {n : Int} {k : Nat} (hk : cutTo l n l.length = k) (h0 : 0 < k) (h1 : l.getD (k - 1) 0 = n) : putI l n = l := by unfold putI; rw [hk, if_pos ⟨h0, h1⟩]
theorem putI_new {l : List Int} {n : Int} {k : Nat} (hk : cutTo l n l.length = k) (h1 : ¬ (0 < k ∧ l.getD (k - 1) 0 = n)) : putI l n = l.take k ++ [n] ++ l.drop k := by unfold putI; rw [hk, if_neg h1]
set_option maxRecDepth 100000 in
set_option maxHeartbeats 1600000 in
theorem l7Put_s (g m c : Nat) (l : List Int) (v : Int) (base : Nat) (w : World) (ho : w.ownsRow base 3 1 (.slice (some ⟨g, 0, none⟩) m c) m (vI l)) (hb0 : base ≤ w.heap.size) (hm : m ≤ 1099511627775) :
    Calls Try.prog 59 #[.slice (some ⟨g, 0, none⟩) m c, .int .i64 v] w (RetO w base 3 1 (vI (putI l v))) := by
  have hlm : l.length = m := by have := own_len ho; rw [vI_length] at this; omega
  have hmc : m ≤ c ∧ c ≤ 9223372036854775807 := by
    rcases ho.2 with ⟨h, _⟩ | ⟨g', cap, cur, hv, _, _, h1, h2, _⟩
    · cases h
    · injection hv with _ _ h3
      unfold maxLen at h2
      omega
  have hrd := Rd.of_own ho
  have hm' : cutTo l v l.length = cutTo l v m := by rw [hlm]
  have HL := Lib.hid hlm
  have HO := Lib.hid ho
  have HCM := Lib.hid hm'
  clear hlm ho hm'
  go_enter Try.func59, Try.ntmps59
  go_wp2
  go_loopw [5] (fun e wr => ∃ k : Nat, k ≤ m ∧ e = .int .i64 k ∧ cutTo l v m = cutTo l v k ∧ Below w.heap.size w wr) (fun e _ => (intOf e).toNat)
  case atStart => exact ⟨m, Nat.le_refl _, rfl, rfl, Below.refl _ _⟩
  case round =>
    obtain ⟨k, hk, rfl, hcut, hb⟩ := hrel
    have hrw := hrd.below hb
    -- what stands behind the loop
    have HIN : Hid (∀ (k' : Nat), cutTo l v m = k' → k' ≤ m → ¬ (0 < k' ∧ l.getD (k' - 1) 0 = v) → putI l v = l.take k' ++ [v] ++ l.drop k') := fun k' h1 h2 h3 => putI_new (HCM.out.trans h1) h3
    by_cases hk0 : 0 < k
    · obtain ⟨j, hjk⟩ : ∃ j, k = j + 1 := ⟨k - 1, by omega⟩
      have hjl : j < l.length := by rw [HL.out]; omega
      obtain ⟨g', off, he, _, c1⟩ := RdI.at_ hrw hjl
      simp only [Option.some.injEq, Addr.mk.injEq, and_true] at he
      obtain ⟨rfl, rfl⟩ := he
      rw [Nat.zero_add] at c1
      have hgd : l.getD j 0 = l[j] := by rw [List.getD_eq_getElem?_getD, List.getElem?_eq_getElem hjl]; rfl
      obtain ⟨x, hx⟩ : ∃ x, l[j] = x := ⟨_, rfl⟩
      rw [hx] at c1 hgd
      have HG := Lib.hid hgd
      have hj1 : (k : Int) - 1 = (j : Int) := by omega
      have hj0 : (0 : Int) ≤ (j : Int) := by omega
      have hjm : (j : Int) < (m : Int) := by omega
      have hjp : (0 : Int) < (k : Int) := by omega
      have HJ := Lib.hid hjk
      rw [hjk] at hcut
      have HC := Lib.hid hcut
      clear hgd hx hcut hjk
      by_cases hvx : v < x
      · have HN : Hid (cutTo l v m = cutTo l v j) := by show cutTo l v m = _; rw [HC.out]; show (if v < l.getD j 0 then _ else _) = _; rw [HG.out, if_pos hvx]
        go_wp2_with fail
        exact ⟨⟨j, by omega, rfl, HN.out, hb⟩, by simp [intOf]; have := HJ.out; omega⟩
      · have HN : Hid (cutTo l v m = k) := by show cutTo l v m = _; rw [HC.out, HJ.out]; show (if v < l.getD j 0 then _ else _) = _; rw [HG.out, if_neg hvx]
        have hvd : decide (v < x) = false := by simpa using hvx
        by_cases hxv : x = v
        · subst hxv
          have HV := Lib.hid (putI_same (HCM.out.trans HN.out) (by omega) (by rw [HJ.out]; exact HG.out))
          have e1 : (x == x) = true := by simp
          go_wp2
          go_ret
          exact ⟨_, _, _, rfl, by rw [HV.out]; exact own_keep HO.out hb, hb⟩
        · have HV := Lib.hid (HIN.out k HN.out hk (fun h => hxv (by rw [← HG.out]; have := h.2; rwa [HJ.out] at this)))
          have e1 : (x == v) = false := by simpa using hxv
          clear hxv hvx
          go_wp2_with fail
          obtain ⟨i0, hi, hz0, hz1, hz2⟩ := info_parts infoI
          have hs1 : ∀ w', (Instr.slice 24 (.slice (some ⟨g, 0, none⟩) m c) none (some (.int .i64 ((k : Int)))) none).run Try.prog w' = .ok (.slice (some ⟨g, 0, none⟩) (k) c) w' := fun w' => run_upto w' g m c (k) (by omega)
          have hs2 : ∀ w', (Instr.slice 24 (.slice (some ⟨g, 0, none⟩) m c) (some (.int .i64 ((k : Int)))) none none).run Try.prog w' = .ok (.slice (some ⟨g, offK c (k), none⟩) (m - (k)) (c - (k))) w' := fun w' => run_from w' g m c (k) (by omega)
          have r2 : Rd wr (some ⟨g, offK c (k), none⟩) (vI (l.drop (k))) := Rd.from_ hrw HL.out hmc.1
          have r1 : Rd wr (some ⟨g, 0, none⟩) (vI (l.take (k))) := by rw [vI_take]; exact Rd.take hrw _
          have L1 : Hid ((l.take (k)).length = k) := by show (l.take (k)).length = k; rw [List.length_take, HL.out]; omega
          have L2 : Hid ((l.drop (k)).length = m - (k)) := by show (l.drop (k)).length = m - (k); rw [List.length_drop, HL.out]
          have R1 := Lib.hid r1
          have R2 := Lib.hid r2
          have HI := Lib.hid hi
          have HZ0 := Lib.hid hz0
          have HZ1 := Lib.hid hz1
          have HZ2 := Lib.hid hz2
          clear r1 r2 hi hz0 hz1 hz2
          refine wp_region_rg 13 rfl (by kernel_rfl) ?_
          (refine rgT (i := 1) (v := ?_) rfl rfl (by kernel_rfl) (by kernel_rfl) (by kernel_rfl) (by rfl) (fun w' hcw => ?_) ?_; rotate_left; ((try dsimp only at hcw); have hbc := hcw.cells; go_simp; first | done | with_reducible rfl); simp only [List.setIfInBounds_toArray, List.set_cons_zero, List.set_cons_succ])
          (refine rgT (i := 2) (v := ?_) rfl rfl (by kernel_rfl) (by kernel_rfl) (by kernel_rfl) (by rfl) (fun w' hcw => ?_) ?_; rotate_left; ((try dsimp only at hcw); have hbc := hcw.cells; go_simp; first | done | with_reducible rfl); simp only [List.setIfInBounds_toArray, List.set_cons_zero, List.set_cons_succ])
          (refine rgT (i := 3) (v := ?_) rfl rfl (by kernel_rfl) (by kernel_rfl) (by kernel_rfl) (by rfl) (fun w' hcw => ?_) ?_; rotate_left; ((try dsimp only at hcw); have hbc := hcw.cells; go_simp; first | done | with_reducible rfl); simp only [List.setIfInBounds_toArray, List.set_cons_zero, List.set_cons_succ])
          (refine rgT (i := 5) (v := ?_) rfl rfl (by kernel_rfl) (by kernel_rfl) (by kernel_rfl) (by rfl) (fun w' hcw => ?_) ?_; rotate_left; ((try dsimp only at hcw); have hbc := hcw.cells; go_simp; first | done | with_reducible rfl); simp only [List.setIfInBounds_toArray, List.set_cons_zero, List.set_cons_succ])
          (refine rgT (i := 8) (v := ?_) rfl rfl (by kernel_rfl) (by kernel_rfl) (by kernel_rfl) (by rfl) (fun w' hcw => ?_) ?_; rotate_left; ((try dsimp only at hcw); have hbc := hcw.cells; go_simp; first | done | with_reducible rfl); simp only [List.setIfInBounds_toArray, List.set_cons_zero, List.set_cons_succ])
          (refine rgT (i := 9) (v := ?_) rfl rfl (by kernel_rfl) (by kernel_rfl) (by kernel_rfl) (by rfl) (fun w' hcw => ?_) ?_; rotate_left; ((try dsimp only at hcw); have hbc := hcw.cells; go_simp; first | done | with_reducible rfl); simp only [List.setIfInBounds_toArray, List.set_cons_zero, List.set_cons_succ])
          (refine rgT (i := 10) (v := ?_) rfl rfl (by kernel_rfl) (by kernel_rfl) (by kernel_rfl) (by rfl) (fun w' hcw => ?_) ?_; rotate_left; ((try dsimp only at hcw); have hbc := hcw.cells; go_simp; first | done | with_reducible rfl); simp only [List.setIfInBounds_toArray, List.set_cons_zero, List.set_cons_succ])
          refine ins_tail (T := 24) (e := 3) (i := i0) (z := .int .i64 0) (size := 1) (bytes := 8) (i0 := 0) (iA := 4) (iN := 6) (iB := 7) (iD := 11) (iE := 12) (s0 := 33) (sA := 37) (sN := 39) (sB := 40) (sD := 44) (dE := 4) (t1 := 36) (t2 := 43) (xn := .tmp 38) (vn := .int .i64 v) (news := vI [v]) (vs1 := vI (l.take (k))) (vs2 := vI (l.drop (k))) (A1 := some ⟨g, 0, none⟩) (m1 := k) (c1 := c) (A2 := some ⟨g, offK c (k), none⟩) (m2 := m - (k)) (c2 := c - (k)) _ ?ht ?hi ?hz ?h1 ?h2 rfl (by omega) ⟨⟨_, rfl, rfl, rfl, fun a w => ?p0⟩, ⟨_, rfl, rfl, rfl, rfl⟩, ⟨_, rfl, rfl, rfl, fun a w h => ?pN⟩, ⟨_, rfl, rfl, rfl, rfl⟩, ⟨_, rfl, rfl, rfl, rfl⟩, ⟨_, rfl, rfl, rfl, rfl⟩⟩ ⟨by simp, by decide, by decide, by decide⟩ (fun a h => (h.eval (by decide)).trans rfl) (by kernel_rfl) (by kernel_rfl) (by kernel_rfl) (by kernel_rfl) (by kernel_rfl) (by decide) (by decide) (by kernel_rfl) (by kernel_rfl) (by kernel_rfl) (by kernel_rfl) rfl ?q1 ?l1 ?o1 rfl ?q2 ?l2 ?o2 ?ln ?on ?hm ?hb ?hQ
          case ht => exact Try.underlying24
          case hi => exact HI.out
          case hz => exact HZ0.out
          case h1 => exact HZ1.out
          case h2 => exact HZ2.out
          case p0 => simp [go_sem, execOp]
          case pN => (generalize Act.eval a = ρ at h ⊢; simp [go_sem, execOp, h, vI])
          case q1 => exact R1.out
          case l1 => rw [vI_length, L1.out] <;> omega
          case o1 => exact vI_one _
          case q2 => exact R2.out
          case l2 => rw [vI_length, L2.out] <;> omega
          case o2 => exact vI_one _
          case ln => rfl
          case on => exact vI_one _
          case hm => omega
          case hb => omega
          case hQ =>
            intro a' w' A' c' hfr hev how hex
            obtain ⟨v0, vA, vN, vB, vD, rfl⟩ := hfr.form hev
            rw [← vI_append, ← vI_append, ← HV.out] at how
            obtain ⟨g', rfl, _, _⟩ := own_at how (by omega)
            have HOW := Lib.hid (own_base how (Nat.le_trans hb0 hb.size))
            clear how hev hfr
            refine NoPanic.normal ?_
            simp only [List.setIfInBounds_toArray, List.set_cons_zero, List.set_cons_succ]
            go_wp2
            go_ret
            exact ⟨_, _, _, rfl, HOW.out, bel_trans hb hex⟩
    · obtain rfl : k = 0 := by omega
      have HC := Lib.hid hcut
      have HN : Hid (cutTo l v m = 0) := hcut
      have HV := Lib.hid (HIN.out 0 HN.out hk (fun h => absurd h.1 (by omega)))
      have e0 : ((0 : Nat) : Int) = 0 := rfl
      clear hcut
      go_wp2_with fail
      obtain ⟨i0, hi, hz0, hz1, hz2⟩ := info_parts infoI
      have hs1 : ∀ w', (Instr.slice 24 (.slice (some ⟨g, 0, none⟩) m c) none (some (.int .i64 (0))) none).run Try.prog w' = .ok (.slice (some ⟨g, 0, none⟩) (0) c) w' := fun w' => run_upto w' g m c (0) (by omega)
      have hs2 : ∀ w', (Instr.slice 24 (.slice (some ⟨g, 0, none⟩) m c) (some (.int .i64 (0))) none none).run Try.prog w' = .ok (.slice (some ⟨g, offK c (0), none⟩) (m - (0)) (c - (0))) w' := fun w' => run_from w' g m c (0) (by omega)
      have r2 : Rd wr (some ⟨g, offK c (0), none⟩) (vI (l.drop (0))) := Rd.from_ hrw HL.out hmc.1
      have r1 : Rd wr (some ⟨g, 0, none⟩) (vI (l.take (0))) := by rw [vI_take]; exact Rd.take hrw _
      have L1 : Hid ((l.take (0)).length = 0) := by show (l.take (0)).length = 0; rw [List.length_take, HL.out]; omega
      have L2 : Hid ((l.drop (0)).length = m - (0)) := by show (l.drop (0)).length = m - (0); rw [List.length_drop, HL.out]
      have R1 := Lib.hid r1
      have R2 := Lib.hid r2
      have HI := Lib.hid hi
      have HZ0 := Lib.hid hz0
      have HZ1 := Lib.hid hz1
      have HZ2 := Lib.hid hz2
      clear r1 r2 hi hz0 hz1 hz2
      refine wp_region_rg 13 rfl (by kernel_rfl) ?_
      (refine rgT (i := 1) (v := ?_) rfl rfl (by kernel_rfl) (by kernel_rfl) (by kernel_rfl) (by rfl) (fun w' hcw => ?_) ?_; rotate_left; ((try dsimp only at hcw); have hbc := hcw.cells; go_simp; first | done | with_reducible rfl); simp only [List.setIfInBounds_toArray, List.set_cons_zero, List.set_cons_succ])
      (refine rgT (i := 2) (v := ?_) rfl rfl (by kernel_rfl) (by kernel_rfl) (by kernel_rfl) (by rfl) (fun w' hcw => ?_) ?_; rotate_left; ((try dsimp only at hcw); have hbc := hcw.cells; go_simp; first | done | with_reducible rfl); simp only [List.setIfInBounds_toArray, List.set_cons_zero, List.set_cons_succ])
      (refine rgT (i := 3) (v := ?_) rfl rfl (by kernel_rfl) (by kernel_rfl) (by kernel_rfl) (by rfl) (fun w' hcw => ?_) ?_; rotate_left; ((try dsimp only at hcw); have hbc := hcw.cells; go_simp; first | done | with_reducible rfl); simp only [List.setIfInBounds_toArray, List.set_cons_zero, List.set_cons_succ])
      (refine rgT (i := 5) (v := ?_) rfl rfl (by kernel_rfl) (by kernel_rfl) (by kernel_rfl) (by rfl) (fun w' hcw => ?_) ?_; rotate_left; ((try dsimp only at hcw); have hbc := hcw.cells; go_simp; first | done | with_reducible rfl); simp only [List.setIfInBounds_toArray, List.set_cons_zero, List.set_cons_succ])
      (refine rgT (i := 8) (v := ?_) rfl rfl (by kernel_rfl) (by kernel_rfl) (by kernel_rfl) (by rfl) (fun w' hcw => ?_) ?_; rotate_left; ((try dsimp only at hcw); have hbc := hcw.cells; go_simp; first | done | with_reducible rfl); simp only [List.setIfInBounds_toArray, List.set_cons_zero, List.set_cons_succ])
      (refine rgT (i := 9) (v := ?_) rfl rfl (by kernel_rfl) (by kernel_rfl) (by kernel_rfl) (by rfl) (fun w' hcw => ?_) ?_; rotate_left; ((try dsimp only at hcw); have hbc := hcw.cells; go_simp; first | done | with_reducible rfl); simp only [List.setIfInBounds_toArray, List.set_cons_zero, List.set_cons_succ])
      (refine rgT (i := 10) (v := ?_) rfl rfl (by kernel_rfl) (by kernel_rfl) (by kernel_rfl) (by rfl) (fun w' hcw => ?_) ?_; rotate_left; ((try dsimp only at hcw); have hbc := hcw.cells; go_simp; first | done | with_reducible rfl); simp only [List.setIfInBounds_toArray, List.set_cons_zero, List.set_cons_succ])
      refine ins_tail (T := 24) (e := 3) (i := i0) (z := .int .i64 0) (size := 1) (bytes := 8) (i0 := 0) (iA := 4) (iN := 6) (iB := 7) (iD := 11) (iE := 12) (s0 := 33) (sA := 37) (sN := 39) (sB := 40) (sD := 44) (dE := 4) (t1 := 36) (t2 := 43) (xn := .tmp 38) (vn := .int .i64 v) (news := vI [v]) (vs1 := vI (l.take (0))) (vs2 := vI (l.drop (0))) (A1 := some ⟨g, 0, none⟩) (m1 := 0) (c1 := c) (A2 := some ⟨g, offK c (0), none⟩) (m2 := m - (0)) (c2 := c - (0)) _ ?ht ?hi ?hz ?h1 ?h2 rfl (by omega) ⟨⟨_, rfl, rfl, rfl, fun a w => ?p0⟩, ⟨_, rfl, rfl, rfl, rfl⟩, ⟨_, rfl, rfl, rfl, fun a w h => ?pN⟩, ⟨_, rfl, rfl, rfl, rfl⟩, ⟨_, rfl, rfl, rfl, rfl⟩, ⟨_, rfl, rfl, rfl, rfl⟩⟩ ⟨by simp, by decide, by decide, by decide⟩ (fun a h => (h.eval (by decide)).trans rfl) (by kernel_rfl) (by kernel_rfl) (by kernel_rfl) (by kernel_rfl) (by kernel_rfl) (by decide) (by decide) (by kernel_rfl) (by kernel_rfl) (by kernel_rfl) (by kernel_rfl) rfl ?q1 ?l1 ?o1 rfl ?q2 ?l2 ?o2 ?ln ?on ?hm ?hb ?hQ
      case ht => exact Try.underlying24
      case hi => exact HI.out
      case hz => exact HZ0.out
      case h1 => exact HZ1.out
      case h2 => exact HZ2.out
      case p0 => simp [go_sem, execOp]
      case pN => (generalize Act.eval a = ρ at h ⊢; simp [go_sem, execOp, h, vI])
      case q1 => exact R1.out
      case l1 => rw [vI_length, L1.out] <;> omega
      case o1 => exact vI_one _
      case q2 => exact R2.out
      case l2 => rw [vI_length, L2.out] <;> omega
      case o2 => exact vI_one _
      case ln => rfl
      case on => exact vI_one _
      case hm => omega
      case hb => omega
      case hQ =>
        intro a' w' A' c' hfr hev how hex
        obtain ⟨v0, vA, vN, vB, vD, rfl⟩ := hfr.form hev
        rw [← vI_append, ← vI_append, ← HV.out] at how
        obtain ⟨g', rfl, _, _⟩ := own_at how (by omega)
        have HOW := Lib.hid (own_base how (Nat.le_trans hb0 hb.size))
        clear how hev hfr
        refine NoPanic.normal ?_
        simp only [List.setIfInBounds_toArray, List.set_cons_zero, List.set_cons_succ]
        go_wp2
        go_ret
        exact ⟨_, _, _, rfl, HOW.out, bel_trans hb hex⟩
end Go.Proofs.Ytagkopemcabkpaa

/- Numbers in order, each once: the program's way and the reference's way come to one list. No program is in sight. -/
namespace Go.Proofs.Ytagkopemcabkpaa
open Go.RowKit
set_option linter.unusedVariables false
abbrev Inc (l : List Int) : Prop := l.Pairwise (· < ·)
theorem inc_eq : ∀ (a b : List Int), Inc a → Inc b → (∀ x, x ∈ a ↔ x ∈ b) → a = b
  | [], [], _, _, _ => rfl
  | [], y :: t, _, _, h => absurd ((h y).2 (by simp)) (by simp)
  | x :: s, [], _, _, h => absurd ((h x).1 (by simp)) (by simp)
  | x :: s, y :: t, ha, hb, h => by
    obtain ⟨a1, a2⟩ := List.pairwise_cons.1 ha
    obtain ⟨b1, b2⟩ := List.pairwise_cons.1 hb
    have hxy : x = y := by
      rcases Int.lt_trichotomy x y with h1 | h1 | h1
      · rcases List.mem_cons.1 ((h x).1 (by simp)) with h2 | h2
        · exact h2
        · have := b1 x h2; omega
      · exact h1
      · rcases List.mem_cons.1 ((h y).2 (by simp)) with h2 | h2
        · exact h2.symm
        · have := a1 y h2; omega
    subst hxy
    congr 1
    refine inc_eq s t a2 b2 fun z => ⟨fun hz => ?_, fun hz => ?_⟩
    · rcases List.mem_cons.1 ((h z).1 (by simp [hz])) with h2 | h2
      · have := a1 z hz; omega
      · exact h2
    · rcases List.mem_cons.1 ((h z).2 (by simp [hz])) with h2 | h2
      · have := b1 z hz; omega
      · exact h2
theorem cutTo_above (l : List Int) (n : Int) : ∀ k, k ≤ l.length → ∀ i, cutTo l n k ≤ i → i < k → n < l.getD i 0
  | 0, _, i, _, h => absurd h (by omega)
  | k + 1, hk, i, hc, hi => by
    unfold cutTo at hc
    split at hc
    · next h =>
      rcases Nat.lt_or_ge i k with h1 | h1
      · exact cutTo_above l n k (by omega) i hc h1
      · obtain rfl : i = k := by omega
        exact h
    · omega
theorem cutTo_at (l : List Int) (n : Int) : ∀ k, 0 < cutTo l n k → l.getD (cutTo l n k - 1) 0 ≤ n
  | 0, h => absurd h (by simp [cutTo])
  | k + 1, h => by
    unfold cutTo at h ⊢
    split
    · next h1 => rw [if_pos h1] at h; exact cutTo_at l n k h
    · next h1 => simpa using h1
theorem inc_get {l : List Int} (h : Inc l) {i j : Nat} (hij : i < j) (hj : j < l.length) : l.getD i 0 < l.getD j 0 := by
  rw [Inc, List.pairwise_iff_getElem] at h
  have := h i j (by omega) hj hij
  simpa [List.getD_eq_getElem?_getD, hj, show i < l.length by omega] using this
theorem putI_inc {l : List Int} (h : Inc l) (n : Int) : Inc (putI l n) ∧ ∀ x, x ∈ putI l n ↔ x ∈ l ∨ x = n := by
  unfold putI
  have hk := cutTo_le l n l.length
  have ha := cutTo_above l n l.length (Nat.le_refl _)
  have hat := cutTo_at l n l.length
  generalize cutTo l n l.length = k at hk ha hat
  split
  · next hc =>
    refine ⟨h, fun x => ⟨.inl, fun hx => ?_⟩⟩
    rcases hx with hx | rfl
    · exact hx
    · rw [← hc.2, List.getD_eq_getElem?_getD, List.getElem?_eq_getElem (by omega)]; exact List.getElem_mem _
  · next hc =>
    have hlt : 0 < k → l.getD (k - 1) 0 < n := fun h0 => by
      have := hat h0
      have hne : l.getD (k - 1) 0 ≠ n := fun e => hc ⟨h0, e⟩
      omega
    have hfront : ∀ x ∈ l.take k, x < n := by
      intro x hx
      obtain ⟨i, hi, rfl⟩ := List.mem_iff_getElem.1 hx
      rw [List.length_take] at hi
      rw [List.getElem_take]
      have h1 := hlt (by omega)
      rcases Nat.lt_or_ge i (k - 1) with h2 | h2
      · have := inc_get h h2 (by omega)
        rw [List.getD_eq_getElem?_getD, List.getElem?_eq_getElem (by omega)] at this
        simp only [Option.getD_some] at this
        omega
      · obtain rfl : i = k - 1 := by omega
        rw [List.getD_eq_getElem?_getD, List.getElem?_eq_getElem (by omega)] at h1
        exact h1
    have hback : ∀ x ∈ l.drop k, n < x := by
      intro x hx
      obtain ⟨i, hi, rfl⟩ := List.mem_iff_getElem.1 hx
      rw [List.length_drop] at hi
      rw [List.getElem_drop]
      have := ha (k + i) (by omega) (by omega)
      rwa [List.getD_eq_getElem?_getD, List.getElem?_eq_getElem (by omega)] at this
    refine ⟨?_, fun x => ?_⟩
    · rw [Inc, List.append_assoc, List.pairwise_append]
      refine ⟨List.Pairwise.sublist (List.take_sublist _ _) h, ?_, fun x hx y hy => ?_⟩
      · rw [List.singleton_append, List.pairwise_cons]
        exact ⟨hback, List.Pairwise.sublist (List.drop_sublist _ _) h⟩
      · have := hfront x hx
        rcases List.mem_append.1 hy with hy | hy
        · simp only [List.mem_singleton] at hy; omega
        · have := hback y hy; omega
    · simp only [List.mem_append, List.mem_singleton]
      constructor
      · rintro ((h1 | h1) | h1)
        · exact .inl (List.mem_of_mem_take h1)
        · exact .inr h1
        · exact .inl (List.mem_of_mem_drop h1)
      · rintro (h1 | h1)
        · rw [← List.take_append_drop k l] at h1
          rcases List.mem_append.1 h1 with h2 | h2
          · exact .inl (.inl h2)
          · exact .inr h2
        · exact .inl (.inr h1)
/-- The reference's way. -/
def putAll (l : List Int) : List Int := l.foldl putI []
theorem foldl_inc : ∀ (l acc : List Int), Inc acc → Inc (l.foldl putI acc) ∧ ∀ x, x ∈ l.foldl putI acc ↔ x ∈ acc ∨ x ∈ l
  | [], acc, h => ⟨h, fun x => by simp⟩
  | a :: t, acc, h => by
    obtain ⟨h1, h2⟩ := putI_inc h a
    obtain ⟨h3, h4⟩ := foldl_inc t (putI acc a) h1
    refine ⟨h3, fun x => ?_⟩
    rw [List.foldl_cons, h4, h2, List.mem_cons]
    constructor
    · rintro ((h | h) | h)
      · exact .inl h
      · exact .inr (.inl h)
      · exact .inr (.inr h)
    · rintro (h | h | h)
      · exact .inl (.inl h)
      · exact .inl (.inr h)
      · exact .inr h
/-- The program's way: sorted, and each but once. -/
def srt (l : List Int) : List Int := l.mergeSort fun x y => decide (x ≤ y)
def keepAt (s : List Int) (i : Nat) : Bool := i == 0 || s.getD (i - 1) 0 != s.getD i 0
def dedTo (s : List Int) : Nat → List Int
  | 0 => []
  | k + 1 => dedTo s k ++ (if keepAt s k then [s.getD k 0] else [])
def ord (l : List Int) : List Int := dedTo (srt l) (srt l).length
theorem srt_len (l : List Int) : (srt l).length = l.length := List.length_mergeSort _
theorem srt_mem (l : List Int) (x : Int) : x ∈ srt l ↔ x ∈ l := List.mem_mergeSort
theorem srt_le (l : List Int) : (srt l).Pairwise (· ≤ ·) := by
  have h := List.pairwise_mergeSort (le := fun x y : Int => decide (x ≤ y)) (fun a b c h1 h2 => by simp at *; omega) (fun a b => by simp; omega) l
  exact h.imp (fun h => by simpa using h)
theorem dedTo_len (s : List Int) (k : Nat) : (dedTo s k).length ≤ k := by
  induction k with
  | zero => simp [dedTo]
  | succ k ih => unfold dedTo; rw [List.length_append]; split <;> simp <;> omega
theorem dedTo_all {s : List Int} (hs : s.Pairwise (· ≤ ·)) : ∀ k, k ≤ s.length → Inc (dedTo s k) ∧ (∀ x, x ∈ dedTo s k ↔ x ∈ s.take k) ∧ ∀ x ∈ dedTo s k, 0 < k ∧ x ≤ s.getD (k - 1) 0
  | 0, _ => ⟨List.Pairwise.nil, fun x => by simp [dedTo], fun x hx => by simp [dedTo] at hx⟩
  | k + 1, hk => by
    obtain ⟨h1, h2, h3⟩ := dedTo_all hs k (by omega)
    have hkl : k < s.length := by omega
    have hg : s.getD k 0 = s[k] := by rw [List.getD_eq_getElem?_getD, List.getElem?_eq_getElem hkl]; rfl
    have hmono : 0 < k → s.getD (k - 1) 0 ≤ s.getD k 0 := fun h0 => by
      rw [List.pairwise_iff_getElem] at hs
      have := hs (k - 1) k (by omega) hkl (by omega)
      rw [hg, List.getD_eq_getElem?_getD, List.getElem?_eq_getElem (by omega)]
      exact this
    unfold dedTo
    rw [List.take_succ_eq_append_getElem hkl]
    cases hka : keepAt s k with
    | true =>
      rw [if_pos rfl, hg]
      refine ⟨?_, fun x => ?_, fun x hx => ⟨by omega, ?_⟩⟩
      · rw [Inc, List.pairwise_append]
        refine ⟨h1, by simp, fun x hx y hy => ?_⟩
        simp only [List.mem_singleton] at hy
        subst hy
        obtain ⟨h0, hle⟩ := h3 x hx
        have := hmono h0
        simp only [keepAt, Bool.or_eq_true, beq_iff_eq, bne_iff_ne, ne_eq] at hka
        rcases hka with h | h
        · omega
        · rw [hg] at this h; omega
      · simp only [List.mem_append, h2 x]
      · simp only [Nat.add_sub_cancel, hg]
        rcases List.mem_append.1 hx with hx | hx
        · obtain ⟨h0, hle⟩ := h3 x hx
          have := hmono h0
          rw [hg] at this; omega
        · simp only [List.mem_singleton] at hx; omega
    | false =>
      simp only [Bool.false_eq_true, if_false, List.append_nil]
      simp only [keepAt, Bool.or_eq_false_iff, beq_eq_false_iff_ne, bne_eq_false_iff_eq, ne_eq] at hka
      refine ⟨h1, fun x => ?_, fun x hx => ⟨by omega, ?_⟩⟩
      · rw [h2 x, List.mem_append, List.mem_singleton]
        refine ⟨.inl, fun h => ?_⟩
        rcases h with h | h
        · exact h
        · rw [h, ← hg, ← hka.2, List.getD_eq_getElem?_getD, List.getElem?_eq_getElem (by omega)]
          simp only [Option.getD_some]
          rw [List.mem_iff_getElem]
          exact ⟨k - 1, by rw [List.length_take]; omega, by rw [List.getElem_take]⟩
      · obtain ⟨h0, hle⟩ := h3 x hx
        have := hmono h0
        simp only [Nat.add_sub_cancel]
        omega
theorem ord_eq (l : List Int) : ord l = putAll l := by
  obtain ⟨h1, h2, _⟩ := dedTo_all (srt_le l) (srt l).length (Nat.le_refl _)
  obtain ⟨h3, h4⟩ := foldl_inc l [] List.Pairwise.nil
  refine inc_eq _ _ h1 h3 fun x => ?_
  unfold putAll
  rw [h4]
  rw [show ord l = dedTo (srt l) (srt l).length from rfl, h2, List.take_length, srt_mem]
  simp
theorem ord_len (l : List Int) : (ord l).length ≤ l.length := Nat.le_trans (dedTo_len (srt l) _) (Nat.le_of_eq (srt_len l))
end Go.Proofs.Ytagkopemcabkpaa

/-
  DERIVED: THE SHELF's CONTRACTS AT THIS DUMP, IN PLAIN WORDS (tools/lay-plain.mjs out of 'TryShelf.lean', which tools/lay-shelf.mjs wrote): THE SAME DECLARATIONS UNDER THE SAME NAMES: 'import', 'namespace', 'open', 'def', 'theorem' AND NOTHING ELSE: no command of the shelf's: FOR A HAND-IN. Each laying: the table of numbers ('.._ren') and one theorem, a field a fact of the dump's own or the kernel's comparison; each contract: ONE APPLICATION.
-/
namespace Go.Proofs
open Go.Shelf
def Try.lays191_ren : Go.Shelf.Ren := ⟨fun | 191 => 83 | 189 => 99 | 125 => 93 | 257 => 128 | 128 => 110 | 129 => 111 | 294 => 135 | 295 => 136 | 296 => 137 | 297 => 138 | 298 => 139 | 299 => 140 | 216 => 141 | 300 => 142 | 301 => 143 | 328 => 145 | 329 => 146 | 330 => 147 | 331 => 148 | 332 => 149 | 215 => 150 | 343 => 151 | n => n, fun | 28 => 24 | 0 => 0 | 3 => 3 | 46 => 73 | 51 => 105 | 53 => 107 | 4 => 4 | 183 => 129 | 182 => 128 | 131 => 114 | 5 => 5 | 9 => 9 | 218 => 137 | 222 => 124 | 228 => 140 | 229 => 135 | n => n, fun | n => n⟩
theorem Try.lays191 : Go.Proofs.Lays.n191 Try.prog Try.lays191_ren := {
  mixed := by kernel_rfl
  f125 := Try.func93.trans (congrArg some (by kernel_rfl))
  f128 := Try.func110.trans (congrArg some (by kernel_rfl))
  f129 := Try.func111.trans (congrArg some (by kernel_rfl))
  f189 := Try.func99.trans (congrArg some (by kernel_rfl))
  f191 := Try.func83.trans (congrArg some (by kernel_rfl))
  f215 := Try.func150.trans (congrArg some (by kernel_rfl))
  f216 := Try.func141.trans (congrArg some (by kernel_rfl))
  f257 := Try.func128.trans (congrArg some (by kernel_rfl))
  f294 := Try.func135.trans (congrArg some (by kernel_rfl))
  f295 := Try.func136.trans (congrArg some (by kernel_rfl))
  f296 := Try.func137.trans (congrArg some (by kernel_rfl))
  f297 := Try.func138.trans (congrArg some (by kernel_rfl))
  f298 := Try.func139.trans (congrArg some (by kernel_rfl))
  f299 := Try.func140.trans (congrArg some (by kernel_rfl))
  f300 := Try.func142.trans (congrArg some (by kernel_rfl))
  f301 := Try.func143.trans (congrArg some (by kernel_rfl))
  f328 := Try.func145.trans (congrArg some (by kernel_rfl))
  f329 := Try.func146.trans (congrArg some (by kernel_rfl))
  f330 := Try.func147.trans (congrArg some (by kernel_rfl))
  f331 := Try.func148.trans (congrArg some (by kernel_rfl))
  f332 := Try.func149.trans (congrArg some (by kernel_rfl))
  f343 := Try.func151.trans (congrArg some (by kernel_rfl))
  t0 := Try.underlying0
  a0 := Try.isAgg0
  z0 := Try.sizeOf0
  v0 := Try.zeroValue0
  t3 := Try.underlying3
  a3 := Try.isAgg3
  z3 := Try.sizeOf3
  v3 := Try.zeroValue3
  t4 := Try.underlying4
  a4 := Try.isAgg4
  z4 := Try.sizeOf4
  v4 := Try.zeroValue4
  t5 := Try.underlying5
  a5 := Try.isAgg5
  z5 := Try.sizeOf5
  v5 := Try.zeroValue5
  t9 := Try.underlying9
  a9 := Try.isAgg9
  z9 := Try.sizeOf9
  v9 := Try.zeroValue9
  t28 := Try.underlying24
  a28 := Try.isAgg24
  z28 := Try.sizeOf24
  v28 := Try.zeroValue24
  t46 := Try.underlying73
  a46 := Try.isAgg73
  z46 := Try.sizeOf73
  v46 := Try.zeroValue73
  t51 := Try.underlying105
  a51 := Try.isAgg105
  z51 := Try.sizeOf105
  v51 := Try.zeroValue105
  t53 := Try.underlying107
  a53 := Try.isAgg107
  z53 := Try.sizeOf107
  v53 := Try.zeroValue107
  t131 := Try.underlying114
  a131 := Try.isAgg114
  z131 := Try.sizeOf114
  v131 := Try.zeroValue114
  t182 := Try.underlying128
  a182 := Try.isAgg128
  z182 := Try.sizeOf128
  v182 := Try.zeroValue128
  t183 := Try.underlying129
  a183 := Try.isAgg129
  z183 := Try.sizeOf129
  v183 := Try.zeroValue129
  t218 := Try.underlying137
  a218 := Try.isAgg137
  z218 := Try.sizeOf137
  v218 := Try.zeroValue137
  t222 := Try.underlying124
  a222 := Try.isAgg124
  z222 := Try.sizeOf124
  v222 := Try.zeroValue124
  t228 := Try.underlying140
  a228 := Try.isAgg140
  z228 := Try.sizeOf140
  v228 := Try.zeroValue140
  t229 := Try.underlying135
  a229 := Try.isAgg135
  z229 := Try.sizeOf135
  v229 := Try.zeroValue135 }
open Go.Sort Go.RowKit in
theorem Try.sort_Ints (blk off cap : Nat) (zs : List Int) (w : World) (hH : Holds (Value.int .i64) w blk off zs.toArray) (hblk : blk < w.heap.size) (hsz : zs.length < 4611686018427387904) :
    Calls Try.prog 83 #[.slice (some ⟨blk, off, none⟩) zs.length cap] w fun e w' =>
      e = .returned (.tuple #[]) ∧ ∃ n os, w' = grow (putRow (Value.int .i64) (Sort.ahead w n) blk off (zs.mergeSort fun x y => decide (x ≤ y)).toArray) os := Any.sort_Ints Try.lays191 blk off cap zs w hH hblk hsz
def Try.laysGg6_ren : Go.Shelf.Ren := ⟨fun | 6 => 68 | 10 => 90 | 11 => 91 | 12 => 92 | 13 => 93 | 14 => 94 | 24 => 110 | 25 => 111 | 26 => 112 | 27 => 113 | 28 => 114 | 29 => 115 | 30 => 116 | 31 => 117 | 32 => 118 | 33 => 119 | 34 => 129 | 35 => 130 | 36 => 131 | 37 => 132 | 38 => 133 | 39 => 144 | n => n, fun | 20 => 20 | 26 => 67 | 35 => 88 | 0 => 0 | 37 => 90 | 3 => 3 | 41 => 73 | 44 => 96 | 49 => 105 | 51 => 107 | 4 => 4 | 54 => 110 | 53 => 109 | 58 => 114 | 5 => 5 | 9 => 9 | 60 => 120 | 64 => 124 | 66 => 134 | 67 => 135 | 17 => 17 | 32 => 85 | 33 => 86 | 82 => 155 | 12 => 12 | 75 => 148 | 76 => 149 | 77 => 150 | 78 => 151 | 79 => 152 | 80 => 153 | n => n, fun | n => n⟩
theorem Try.laysGg6 : Go.Proofs.LaysGg.n6 Try.prog Try.laysGg6_ren := {
  mixed := by kernel_rfl
  f6 := Try.func68.trans (congrArg some (by kernel_rfl))
  f10 := Try.func90.trans (congrArg some (by kernel_rfl))
  f11 := Try.func91.trans (congrArg some (by kernel_rfl))
  f12 := Try.func92.trans (congrArg some (by kernel_rfl))
  f13 := Try.func93.trans (congrArg some (by kernel_rfl))
  f14 := Try.func94.trans (congrArg some (by kernel_rfl))
  f24 := Try.func110.trans (congrArg some (by kernel_rfl))
  f25 := Try.func111.trans (congrArg some (by kernel_rfl))
  f26 := Try.func112.trans (congrArg some (by kernel_rfl))
  f27 := Try.func113.trans (congrArg some (by kernel_rfl))
  f28 := Try.func114.trans (congrArg some (by kernel_rfl))
  f29 := Try.func115.trans (congrArg some (by kernel_rfl))
  f30 := Try.func116.trans (congrArg some (by kernel_rfl))
  f31 := Try.func117.trans (congrArg some (by kernel_rfl))
  f32 := Try.func118.trans (congrArg some (by kernel_rfl))
  f33 := Try.func119.trans (congrArg some (by kernel_rfl))
  f34 := Try.func129.trans (congrArg some (by kernel_rfl))
  f35 := Try.func130.trans (congrArg some (by kernel_rfl))
  f36 := Try.func131.trans (congrArg some (by kernel_rfl))
  f37 := Try.func132.trans (congrArg some (by kernel_rfl))
  f38 := Try.func133.trans (congrArg some (by kernel_rfl))
  f39 := Try.func144.trans (congrArg some (by kernel_rfl))
  t0 := Try.underlying0
  a0 := Try.isAgg0
  z0 := Try.sizeOf0
  v0 := Try.zeroValue0
  i0 := by kernel_rfl
  t3 := Try.underlying3
  a3 := Try.isAgg3
  z3 := Try.sizeOf3
  v3 := Try.zeroValue3
  i3 := by kernel_rfl
  t4 := Try.underlying4
  a4 := Try.isAgg4
  z4 := Try.sizeOf4
  v4 := Try.zeroValue4
  i4 := by kernel_rfl
  t5 := Try.underlying5
  a5 := Try.isAgg5
  z5 := Try.sizeOf5
  v5 := Try.zeroValue5
  i5 := by kernel_rfl
  t9 := Try.underlying9
  a9 := Try.isAgg9
  z9 := Try.sizeOf9
  v9 := Try.zeroValue9
  i9 := by kernel_rfl
  t12 := Try.underlying12
  a12 := Try.isAgg12
  z12 := Try.sizeOf12
  v12 := Try.zeroValue12
  i12 := by kernel_rfl
  t17 := Try.underlying17
  a17 := Try.isAgg17
  z17 := Try.sizeOf17
  v17 := Try.zeroValue17
  i17 := by kernel_rfl
  t20 := Try.underlying20
  a20 := Try.isAgg20
  z20 := Try.sizeOf20
  v20 := Try.zeroValue20
  i20 := by kernel_rfl
  t26 := Try.underlying67
  a26 := Try.isAgg67
  z26 := Try.sizeOf67
  v26 := Try.zeroValue67
  i26 := by kernel_rfl
  t32 := Try.underlying85
  a32 := Try.isAgg85
  z32 := Try.sizeOf85
  v32 := Try.zeroValue85
  i32 := by kernel_rfl
  t33 := Try.underlying86
  a33 := Try.isAgg86
  z33 := Try.sizeOf86
  v33 := Try.zeroValue86
  i33 := by kernel_rfl
  t35 := Try.underlying88
  a35 := Try.isAgg88
  z35 := Try.sizeOf88
  v35 := Try.zeroValue88
  i35 := by kernel_rfl
  t37 := Try.underlying90
  a37 := Try.isAgg90
  z37 := Try.sizeOf90
  v37 := Try.zeroValue90
  i37 := by kernel_rfl
  t41 := Try.underlying73
  a41 := Try.isAgg73
  z41 := Try.sizeOf73
  v41 := Try.zeroValue73
  i41 := by kernel_rfl
  t44 := Try.underlying96
  a44 := Try.isAgg96
  z44 := Try.sizeOf96
  v44 := Try.zeroValue96
  i44 := by kernel_rfl
  t49 := Try.underlying105
  a49 := Try.isAgg105
  z49 := Try.sizeOf105
  v49 := Try.zeroValue105
  i49 := by kernel_rfl
  t51 := Try.underlying107
  a51 := Try.isAgg107
  z51 := Try.sizeOf107
  v51 := Try.zeroValue107
  i51 := by kernel_rfl
  t53 := Try.underlying109
  a53 := Try.isAgg109
  z53 := Try.sizeOf109
  v53 := Try.zeroValue109
  i53 := by kernel_rfl
  t54 := Try.underlying110
  a54 := Try.isAgg110
  z54 := Try.sizeOf110
  v54 := Try.zeroValue110
  i54 := by kernel_rfl
  t58 := Try.underlying114
  a58 := Try.isAgg114
  z58 := Try.sizeOf114
  v58 := Try.zeroValue114
  i58 := by kernel_rfl
  t60 := Try.underlying120
  a60 := Try.isAgg120
  z60 := Try.sizeOf120
  v60 := Try.zeroValue120
  i60 := by kernel_rfl
  t64 := Try.underlying124
  a64 := Try.isAgg124
  z64 := Try.sizeOf124
  v64 := Try.zeroValue124
  i64 := by kernel_rfl
  t66 := Try.underlying134
  a66 := Try.isAgg134
  z66 := Try.sizeOf134
  v66 := Try.zeroValue134
  i66 := by kernel_rfl
  t67 := Try.underlying135
  a67 := Try.isAgg135
  z67 := Try.sizeOf135
  v67 := Try.zeroValue135
  i67 := by kernel_rfl
  t75 := Try.underlying148
  a75 := Try.isAgg148
  z75 := Try.sizeOf148
  v75 := Try.zeroValue148
  i75 := by kernel_rfl
  t76 := Try.underlying149
  a76 := Try.isAgg149
  z76 := Try.sizeOf149
  v76 := Try.zeroValue149
  i76 := by kernel_rfl
  t77 := Try.underlying150
  a77 := Try.isAgg150
  z77 := Try.sizeOf150
  v77 := Try.zeroValue150
  i77 := by kernel_rfl
  t78 := Try.underlying151
  a78 := Try.isAgg151
  z78 := Try.sizeOf151
  v78 := Try.zeroValue151
  i78 := by kernel_rfl
  t79 := Try.underlying152
  a79 := Try.isAgg152
  z79 := Try.sizeOf152
  v79 := Try.zeroValue152
  i79 := by kernel_rfl
  t80 := Try.underlying153
  a80 := Try.isAgg153
  z80 := Try.sizeOf153
  v80 := Try.zeroValue153
  i80 := by kernel_rfl
  t82 := Try.underlying155
  a82 := Try.isAgg155
  z82 := Try.sizeOf155
  v82 := Try.zeroValue155
  i82 := by kernel_rfl }
open Go.RowKit Go.Sort in
theorem Try.sort_Ints_none (p : Option Addr) (cap : Nat) (w : World) :
    Calls Try.prog 83 #[.slice p 0 cap] w fun e w' => e = .returned (.tuple #[]) ∧ w' = w := Any.sort_Ints_none Try.lays191 p cap w
end Go.Proofs

/- Numbers in order, each once: the program. -/
namespace Go.Proofs.Ytagkopemcabkpaa
open Go.RowKit
set_option linter.unusedVariables false
attribute [local go_sem ↓] Go.wp_at_zero Go.wp_at_succ

theorem copyInts_i (A : Option Addr) (n c : Nat) (xs : List Int) (w : World) (hr : Rd w A (vI xs)) (hl : xs.length = n) (hn : n ≤ 1099511627776) :
    Calls Try.prog 82 #[.slice A n c] w (RetS w 3 1 (vI xs)) := by
  have HL := Lib.hid hl
  clear hl
  go_enter Try.func82, Try.ntmps82
  go_wp2_with (at_builtin; go_must (refine app_I _ rfl _ _ rfl w.heap.size none 0 0 [] rfl (own_nil _ _ _ _) _ _ _ xs rfl hr HL.out (by omega) (by omega) ?_); intro A' c' w' hown' hg' hat'; simp only [Nat.zero_add, List.nil_append] at hown'; have HO := Lib.hid hown'; have HB := Lib.hid (bel_app (Below.refl w.heap.size w) hg' (fun g h => by cases h)); clear hown' hg' hat')
  go_ret
  exact ⟨_, _, _, rfl, HO.out, HB.out⟩
/-- What the library's sort leaves. -/
def SortP (w : World) (base : Nat) (A : Option Addr) (n c : Nat) (l : List Int) (e : Ending) (w' : World) : Prop := e = .returned (.tuple #[]) ∧ w'.ownsRow base 3 1 (.slice A n c) n (vI (srt l)) ∧ w.grownBy w' (ob A)
theorem sortInts (A : Option Addr) (n c base : Nat) (l : List Int) (w : World) (ho : w.ownsRow base 3 1 (.slice A n c) n (vI l)) (hn : n ≤ 1099511627776) :
    Calls Try.prog 83 #[.slice A n c] w (SortP w base A n c l) := by
  have hl : l.length = n := by have := own_len ho; rw [vI_length] at this; omega
  rcases ho.2 with ⟨hv, h0⟩ | ⟨g, cap, cur, hv, hb, hg, hnc, hcm, hcs, ht⟩
  · injection hv with hA hn0 hc0
    subst hA hn0 hc0
    have e : l = [] := List.eq_nil_of_length_eq_zero hl
    subst e
    refine (Try.sort_Ints_none none 0 w).mono ?_
    rintro e w' ⟨rfl, rfl⟩
    exact ⟨rfl, by rw [show srt [] = [] from by simp [srt]]; exact ho, World.grownBy.refl _ _⟩
  · injection hv with hA _ hc
    subst hA hc
    subst hl
    rw [Nat.mul_one] at ht
    refine (Try.sort_Ints g 0 c l w (holds_of_blockI hg ht) (Array.getElem?_eq_some_iff.1 hg).1 (by omega)).mono ?_
    rintro e w' ⟨rfl, k, os, rfl⟩
    exact ⟨rfl, ownsRow_sortedI (srt_len l) hb hg hnc hcm hcs, grownBy_sortedI _⟩
set_option maxRecDepth 100000 in
set_option maxHeartbeats 1600000 in
theorem ordered_i (A : Option Addr) (n c : Nat) (xs : List Int) (w : World) (hr : Rd w A (vI xs)) (hl : xs.length = n) (hn : n ≤ 1099511627776) :
    Calls Try.prog 58 #[.slice A n c] w (RetS w 3 1 (vI (ord xs))) := by
  have HL := Lib.hid hl
  have HV : Hid (ord xs = dedTo (srt xs) n) := by show ord xs = _; unfold ord; rw [srt_len, hl]
  have HSL : Hid ((srt xs).length = n) := by show (srt xs).length = n; rw [srt_len, hl]
  clear hl
  go_enter Try.func58, Try.ntmps58
  go_wp2_with fail
  refine (copyInts_i _ _ _ xs _ hr HL.out (by omega)).mono ?_
  rintro e w1 ⟨B, m, cB, rfl, ho, hb1⟩
  have hm : n = m := by have := own_len ho; rw [vI_length] at this; have := HL.out; omega
  subst hm
  have hBlt := own_lt ho
  go_wp2_with fail
  refine (sortInts _ _ _ _ xs _ ho hn).mono ?_
  rintro e w2 ⟨rfl, ho2, hg2⟩
  have hb2 : Below w.heap.size w w2 := bel_app hb1 hg2 (fun g h => (hBlt g h).1)
  have hrd := Rd.of_own ho2
  generalize srt xs = s at HV HSL hrd ho2
  have HO2 := Lib.hid ho2
  clear ho ho2 hg2 hb1
  go_wp2_with fail
  go_loopw [4, 13] (fun e e13 wr => ∃ (k q cp : Nat) (D : Option Addr), k ≤ n ∧ q ≤ k ∧ e = .slice D q cp ∧ e13 = .int .i64 k ∧ wr.ownsRow w2.heap.size 3 1 (.slice D q cp) q (vI (dedTo s k)) ∧ Below w2.heap.size w2 wr) (fun _ e13 _ => n - (intOf e13).toNat)
  case atStart => exact ⟨0, 0, 0, none, by omega, by omega, rfl, rfl, own_nil _ _ _ _, Below.refl _ _⟩
  case round =>
    obtain ⟨k, q, cp, D, hk, hq, rfl, rfl, hown, hb⟩ := hrel
    by_cases hlt : k < n
    · have hks : k < s.length := by rw [HSL.out]; exact hlt
      have hrw := hrd.below hb
      obtain ⟨g, off, rfl, hg, c1⟩ := RdI.at_ hrw hks
      have hgd : s.getD k 0 = s[k] := by rw [List.getD_eq_getElem?_getD, List.getElem?_eq_getElem hks]; rfl
      have hst : dedTo s (k + 1) = dedTo s k ++ (if keepAt s k then [s.getD k 0] else []) := rfl
      rw [hgd] at hst
      obtain ⟨x, hx⟩ : ∃ x, s[k] = x := ⟨_, rfl⟩
      rw [hx] at c1 hst hgd
      have HO := Lib.hid hown
      have hbs := hb.size
      clear hown hx
      -- the two ways
      have KEEP : Hid (keepAt s k = true → dedTo s (k + 1) = dedTo s k ++ [x]) := fun h => by rw [hst, h]; rfl
      have SKIP : Hid (keepAt s k = false → dedTo s (k + 1) = dedTo s k) := fun h => by rw [hst, h]; simp
      have hka : keepAt s k = (k == 0 || s.getD (k - 1) 0 != x) := by unfold keepAt; rw [hgd]
      have HKA := Lib.hid hka
      clear hst hgd hka
      by_cases hk0 : k = 0
      · have e0 : ((k : Int) == 0) = true := by simp [hk0]
        have HN := Lib.hid (KEEP.out (by rw [HKA.out, hk0]; rfl))
        have hk1 : (0 : Int) ≤ (k : Int) := by omega
        have hk2 : (k : Int) < (n : Int) := by omega
        clear KEEP SKIP HKA hk0
        go_wp2_with (at_builtin; go_must (refine app_I _ rfl _ _ rfl w2.heap.size _ _ _ _ rfl (HO.out.alloc _) _ _ _ [x] rfl (rd_newI _ _ _) rfl (by omega) (by simp; omega) ?_); intro D2 cp2 w8 ho8 hg8 hat8; have HO8 := Lib.hid ho8; have HG8 := Lib.hid hg8; clear ho8 hg8 hat8)
        exact ⟨⟨k + 1, q + 1, cp2, D2, by omega, by omega, rfl, by go_num, by rw [HN.out]; exact HO8.out, bel_app (bel_alloc hb _) HG8.out (fun g' hg1 => ((own_lt HO.out) g' hg1).1)⟩, by simp [intOf]; omega⟩
      · obtain ⟨j, hjk⟩ : ∃ j, k = j + 1 := ⟨k - 1, by omega⟩
        have hjs : j < s.length := by omega
        obtain ⟨g', off', he, _, d1⟩ := RdI.at_ hrw hjs
        simp only [Option.some.injEq, Addr.mk.injEq, and_true] at he
        obtain ⟨rfl, rfl⟩ := he
        have hgj : s.getD (k - 1) 0 = s[j] := by rw [hjk, Nat.add_sub_cancel, List.getD_eq_getElem?_getD, List.getElem?_eq_getElem hjs]; rfl
        obtain ⟨y, hy⟩ : ∃ y, s[j] = y := ⟨_, rfl⟩
        rw [hy] at d1 hgj
        have e0 : ((k : Int) == 0) = false := by simp; omega
        have hj1 : (k : Int) - 1 = (j : Int) := by omega
        have hj0 : (0 : Int) ≤ (j : Int) := by omega
        have hjm : (j : Int) < (n : Int) := by omega
        have hk1 : (0 : Int) ≤ (k : Int) := by omega
        have hk2 : (k : Int) < (n : Int) := by omega
        have hkk : (k == 0) = false := by simpa using hk0
        have HKK := Lib.hid hkk
        have HGJ := Lib.hid hgj
        clear hy hgj hjk hkk hk0
        by_cases hyx : y = x
        · have HN := Lib.hid (SKIP.out (by rw [HKA.out, HKK.out, HGJ.out, hyx]; simp))
          have e1 : (y != x) = false := by simp [hyx]
          clear KEEP SKIP HKA hyx
          go_wp2_with fail
          exact ⟨⟨k + 1, q, cp, D, by omega, by omega, rfl, by go_num, by rw [HN.out]; exact HO.out, hb⟩, by simp [intOf]; omega⟩
        · have HN := Lib.hid (KEEP.out (by rw [HKA.out, HKK.out, HGJ.out]; simpa using hyx))
          have e1 : (y != x) = true := by simpa using hyx
          clear KEEP SKIP HKA hyx
          go_wp2_with (at_builtin; go_must (refine app_I _ rfl _ _ rfl w2.heap.size _ _ _ _ rfl (HO.out.alloc _) _ _ _ [x] rfl (rd_newI _ _ _) rfl (by omega) (by simp; omega) ?_); intro D2 cp2 w8 ho8 hg8 hat8; have HO8 := Lib.hid ho8; have HG8 := Lib.hid hg8; clear ho8 hg8 hat8)
          exact ⟨⟨k + 1, q + 1, cp2, D2, by omega, by omega, rfl, by go_num, by rw [HN.out]; exact HO8.out, bel_app (bel_alloc hb _) HG8.out (fun g' hg1 => ((own_lt HO.out) g' hg1).1)⟩, by simp [intOf]; omega⟩
    · have hkn : k = n := by omega
      subst hkn
      rw [← HV.out] at hown
      have HO := Lib.hid (own_base hown hb2.size)
      clear hown
      go_wp2
      go_ret
      exact ⟨_, _, _, rfl, HO.out, (by (repeat (first | with_reducible exact Below.refl _ _ | with_reducible assumption | with_reducible apply bel_alloc | with_reducible apply bel_drew | with_reducible apply bel_drewN | ((with_reducible refine bel_set ?_ ?_); rotate_left; (simp <;> omega)) | (with_reducible refine bel_trans ?_ (by with_reducible assumption)))))⟩
end Go.Proofs.Ytagkopemcabkpaa

/- How many faces are covered; nets of the cube. -/
namespace Go.Proofs.Ytagkopemcabkpaa
open Go.RowKit
set_option linter.unusedVariables false
attribute [local go_sem ↓] Go.wp_at_zero Go.wp_at_succ

noncomputable def facV (xs : List C) : Int := if isConn xs then ((ord (faces xs)).length : Nat) else -1
noncomputable def netV (xs : List C) : Bool := xs.length == 6 && isTree xs && facV xs == 6
theorem faces_le8 {xs : List C} (h : isConn xs = true) : (faces xs).length ≤ 8 := by
  unfold faces; rw [h, if_pos rfl, List.length_map]; exact (shape_len (conn_shape h)).2
theorem putI_len (l : List Int) (n : Int) : (putI l n).length ≤ l.length + 1 := by
  unfold putI
  have := cutTo_le l n l.length
  split
  · omega
  · simp; omega
theorem foldl_len : ∀ (l acc : List Int), (l.foldl putI acc).length ≤ acc.length + l.length
  | [], acc => by simp
  | a :: t, acc => by
    have h1 := foldl_len t (putI acc a)
    have h2 := putI_len acc a
    rw [List.foldl_cons, List.length_cons]
    omega
theorem foldl_take (l : List Int) (k : Nat) (h : k < l.length) : (l.take (k + 1)).foldl putI [] = putI ((l.take k).foldl putI []) l[k] := by
  rw [List.take_succ_eq_append_getElem h, List.foldl_append]; rfl
theorem FacesCovered_i (A : Option Addr) (n c : Nat) (xs : List C) (w : World) (hr : Rd w A (vC xs)) (hl : xs.length = n) (hn : n ≤ 1099511627776) :
    Calls Try.prog 18 #[.slice A n c] w (Ret w (.int .i64 (facV xs))) := by
  have HL := Lib.hid hl
  cases hc : isConn xs with
  | false =>
    have HV : Hid (facV xs = -1) := by show facV xs = -1; unfold facV; rw [hc]; rfl
    have HC := Lib.hid hc
    clear hc hl
    go_enter Try.func18, Try.ntmps18
    go_wp2_with (go_at_call 12; refine (FacesOf_i _ _ _ xs _ hr HL.out (by omega)).mono ?_; rw [HC.out]; rintro e w1 ⟨B, m, cap, rfl, ho, hb1⟩; clear ho)
    go_ret
    exact ⟨by rw [HV.out]; rfl, (by (repeat (first | with_reducible exact Below.refl _ _ | with_reducible assumption | with_reducible apply bel_alloc | with_reducible apply bel_drew | with_reducible apply bel_drewN | ((with_reducible refine bel_set ?_ ?_); rotate_left; (simp <;> omega)) | (with_reducible refine bel_trans ?_ (by with_reducible assumption)))))⟩
  | true =>
    have HV : Hid (facV xs = ((ord (faces xs)).length : Nat)) := by show facV xs = _; unfold facV; rw [hc]; rfl
    have h8 := faces_le8 hc
    have HC := Lib.hid hc
    clear hc hl
    go_enter Try.func18, Try.ntmps18
    go_wp2_with fail
    refine (FacesOf_i _ _ _ xs _ hr HL.out (by omega)).mono ?_
    rw [HC.out]
    rintro e w1 ⟨B, m, cap, rfl, ho, hb1⟩
    generalize faces xs = l at HV ho h8
    have hlm : l.length = m := by have := own_len ho; rw [vI_length] at this; omega
    have HLM := Lib.hid hlm
    have hrd := Rd.of_own ho
    clear hlm ho
    go_wp2_with fail
    refine (ordered_i _ _ _ l _ hrd HLM.out (by have := HLM.out; omega)).mono ?_
    rintro e w2 ⟨D, q, cq, rfl, hoq, hb2⟩
    have hq : q = (ord l).length := by have := own_len hoq; rw [vI_length] at this; omega
    have HQ : Hid (facV xs = (q : Int)) := by rw [hq]; exact HV.out
    clear hq hoq
    go_wp2
    go_ret
    exact ⟨by rw [HQ.out]; rfl, (by (repeat (first | with_reducible exact Below.refl _ _ | with_reducible assumption | with_reducible apply bel_alloc | with_reducible apply bel_drew | with_reducible apply bel_drewN | ((with_reducible refine bel_set ?_ ?_); rotate_left; (simp <;> omega)) | (with_reducible refine bel_trans ?_ (by with_reducible assumption)))))⟩
set_option maxHeartbeats 800000 in
theorem FacesCovered_s (A : Option Addr) (n c : Nat) (xs : List C) (w : World) (hr : Rd w A (vC xs)) (hl : xs.length = n) (hn : n ≤ 1099511627776) :
    Calls Try.prog 19 #[.slice A n c] w (Ret w (.int .i64 (facV xs))) := by
  have HL := Lib.hid hl
  cases hc : isConn xs with
  | false =>
    have HV : Hid (facV xs = -1) := by show facV xs = -1; unfold facV; rw [hc]; rfl
    have HC := Lib.hid hc
    clear hc hl
    go_enter Try.func19, Try.ntmps19
    go_wp2_with (go_at_call 13; refine (FacesOf_s _ _ _ xs _ hr HL.out (by omega)).mono ?_; rw [HC.out]; rintro e w1 ⟨B, m, cap, rfl, ho, hb1⟩; clear ho)
    go_ret
    exact ⟨by rw [HV.out]; rfl, (by (repeat (first | with_reducible exact Below.refl _ _ | with_reducible assumption | with_reducible apply bel_alloc | with_reducible apply bel_drew | with_reducible apply bel_drewN | ((with_reducible refine bel_set ?_ ?_); rotate_left; (simp <;> omega)) | (with_reducible refine bel_trans ?_ (by with_reducible assumption)))))⟩
  | true =>
    have HV : Hid (facV xs = ((putAll (faces xs)).length : Nat)) := by show facV xs = _; unfold facV; rw [hc, ← ord_eq]; rfl
    have h8 := faces_le8 hc
    have HC := Lib.hid hc
    clear hc hl
    go_enter Try.func19, Try.ntmps19
    go_wp2_with fail
    refine (FacesOf_s _ _ _ xs _ hr HL.out (by omega)).mono ?_
    rw [HC.out]
    rintro e w1 ⟨B, m, cap, rfl, ho, hb1⟩
    generalize faces xs = l at HV ho h8
    have hlm : l.length = m := by have := own_len ho; rw [vI_length] at this; omega
    rw [hlm] at h8
    have HLM := Lib.hid hlm
    have hrd := Rd.of_own ho
    have hbs := hb1.size
    have hini := own_new w1 3 1 0 #[] rfl (by simp [maxLen]) (base := w1.heap.size) (Nat.le_refl _)
    have HI := Lib.hid hini
    clear hlm ho hini
    go_wp2_with fail
    go_loopw [5, 6] (fun e e6 wr => ∃ (k q cq g : Nat), k ≤ m ∧ q ≤ k ∧ e = .slice (some ⟨g, 0, none⟩) q cq ∧ e6 = .int .i64 k ∧ wr.ownsRow w1.heap.size 3 1 (.slice (some ⟨g, 0, none⟩) q cq) q (vI ((l.take k).foldl putI [])) ∧ Below w1.heap.size w1 wr) (fun _ e6 _ => m - (intOf e6).toNat)
    case atStart => exact ⟨0, 0, 0, _, by omega, by omega, rfl, rfl, HI.out, (by (repeat (first | with_reducible exact Below.refl _ _ | with_reducible assumption | with_reducible apply bel_alloc | with_reducible apply bel_drew | with_reducible apply bel_drewN | ((with_reducible refine bel_set ?_ ?_); rotate_left; (simp <;> omega)) | (with_reducible refine bel_trans ?_ (by with_reducible assumption)))))⟩
    case round =>
      clear HI
      obtain ⟨k, q, cq, g, hk, hq, rfl, rfl, hown, hb⟩ := hrel
      by_cases hlt : k < m
      · have hkl : k < l.length := by rw [HLM.out]; exact hlt
        have hk0 : (0 : Int) ≤ (k : Int) := by omega
        have hk1 : (k : Int) < (m : Int) := by omega
        obtain ⟨gB, offB, rfl, hgB, c1⟩ := RdI.at_ (hrd.below hb) hkl
        have hft := foldl_take l k hkl
        have hfl := foldl_len (l.take (k + 1)) []
        rw [List.length_take] at hfl
        obtain ⟨x, hx⟩ : ∃ x, l[k] = x := ⟨_, rfl⟩
        rw [hx] at c1 hft
        have HF := Lib.hid hft
        have HO := Lib.hid hown
        have hbz := hb.size
        clear hx hft hown
        go_wp2_with fail
        refine (l7Put_s g q cq _ x w1.heap.size _ HO.out hbz (by omega)).mono ?_
        rintro e w2 ⟨g2, q2, c2, rfl, ho2, hb2⟩
        have hq2 : q2 ≤ k + 1 := by
          have h1 := own_len ho2
          rw [vI_length, ← HF.out] at h1
          simp only [List.length_nil] at hfl
          omega
        have HO2 := Lib.hid ho2
        clear ho2
        go_wp2_with fail
        exact ⟨⟨k + 1, q2, c2, g2, by omega, hq2, rfl, by go_num, by rw [HF.out]; exact HO2.out, bel_trans hb hb2⟩, by simp [intOf]; omega⟩
      · have hkm : k = m := by omega
        subst hkm
        rw [List.take_of_length_le (by rw [HLM.out]; omega)] at hown
        have hq2 : q = (putAll l).length := by have := own_len hown; rw [vI_length] at this; unfold putAll; omega
        have HQ : Hid (facV xs = (q : Int)) := by rw [hq2]; exact HV.out
        have hk1 : ¬ (k : Int) < (k : Int) := by omega
        clear hown hq2
        go_wp2
        go_ret
        exact ⟨by rw [HQ.out]; rfl, (by (repeat (first | with_reducible exact Below.refl _ _ | with_reducible assumption | with_reducible apply bel_alloc | with_reducible apply bel_drew | with_reducible apply bel_drewN | ((with_reducible refine bel_set ?_ ?_); rotate_left; (simp <;> omega)) | (with_reducible refine bel_trans ?_ (by with_reducible assumption)))))⟩
set_option maxHeartbeats 800000 in
theorem IsCubeNet_i (A : Option Addr) (n c : Nat) (xs : List C) (w : World) (hr : Rd w A (vC xs)) (hl : xs.length = n) (hn : n ≤ 1099511627776) :
    Calls Try.prog 11 #[.slice A n c] w (Ret w (.bool (netV xs))) := by
  have HL := Lib.hid hl
  by_cases h6 : n = 6
  · have e6 : ((n : Int) == 6) = true := by simp [h6]
    cases ht : isTree xs with
    | false =>
      have HV : Hid (netV xs = false) := by show netV xs = false; unfold netV; rw [ht]; simp
      have HT := Lib.hid ht
      clear ht hl h6
      go_enter Try.func11, Try.ntmps11
      go_wp2_with fail
      refine (IsTreeLike_i _ _ _ xs _ hr HL.out (by omega)).mono ?_
      rw [HT.out]
      rintro e w1 ⟨rfl, hb1⟩
      go_wp2_with fail
      go_ret
      exact ⟨by rw [HV.out]; rfl, hb1⟩
    | true =>
      obtain ⟨q, hq⟩ : ∃ q, facV xs = q := ⟨_, rfl⟩
      have HV : Hid (netV xs = (q == 6)) := by show netV xs = _; unfold netV; rw [ht, hq, hl, h6]; rfl
      have HT := Lib.hid ht
      have HQ := Lib.hid hq
      clear ht hl h6 hq
      go_enter Try.func11, Try.ntmps11
      go_wp2_with fail
      refine (IsTreeLike_i _ _ _ xs _ hr HL.out (by omega)).mono ?_
      rw [HT.out]
      rintro e w1 ⟨rfl, hb1⟩
      go_wp2_with fail
      refine (FacesCovered_i _ _ _ xs _ (hr.below hb1) HL.out (by omega)).mono ?_
      rw [HQ.out]
      rintro e w2 ⟨rfl, hb2⟩
      go_wp2_with fail
      go_ret
      exact ⟨by rw [HV.out]; rfl, bel_trans hb1 hb2⟩
  · have e6 : ((n : Int) == 6) = false := by simp; omega
    have HV : Hid (netV xs = false) := by
      have h : (xs.length == 6) = false := by simp; omega
      show netV xs = false
      unfold netV
      rw [h]; rfl
    clear hl h6
    go_enter Try.func11, Try.ntmps11
    go_wp2_with fail
    go_ret
    exact ⟨by rw [HV.out]; rfl, Below.refl _ _⟩
set_option maxHeartbeats 800000 in
theorem IsCubeNet_s (A : Option Addr) (n c : Nat) (xs : List C) (w : World) (hr : Rd w A (vC xs)) (hl : xs.length = n) (hn : n ≤ 1099511627776) :
    Calls Try.prog 15 #[.slice A n c] w (Ret w (.bool (netV xs))) := by
  have HL := Lib.hid hl
  by_cases h6 : n = 6
  · have e6 : ((n : Int) == 6) = true := by simp [h6]
    cases ht : isTree xs with
    | false =>
      have HV : Hid (netV xs = false) := by show netV xs = false; unfold netV; rw [ht]; simp
      have HT := Lib.hid ht
      clear ht hl h6
      go_enter Try.func15, Try.ntmps15
      go_wp2_with fail
      refine (IsTreeLike_s _ _ _ xs _ hr HL.out (by omega)).mono ?_
      rw [HT.out]
      rintro e w1 ⟨rfl, hb1⟩
      go_wp2_with fail
      go_ret
      exact ⟨by rw [HV.out]; rfl, hb1⟩
    | true =>
      obtain ⟨q, hq⟩ : ∃ q, facV xs = q := ⟨_, rfl⟩
      have HV : Hid (netV xs = (q == 6)) := by show netV xs = _; unfold netV; rw [ht, hq, hl, h6]; rfl
      have HT := Lib.hid ht
      have HQ := Lib.hid hq
      clear ht hl h6 hq
      go_enter Try.func15, Try.ntmps15
      go_wp2_with fail
      refine (IsTreeLike_s _ _ _ xs _ hr HL.out (by omega)).mono ?_
      rw [HT.out]
      rintro e w1 ⟨rfl, hb1⟩
      go_wp2_with fail
      refine (FacesCovered_s _ _ _ xs _ (hr.below hb1) HL.out (by omega)).mono ?_
      rw [HQ.out]
      rintro e w2 ⟨rfl, hb2⟩
      go_wp2_with fail
      go_ret
      exact ⟨by rw [HV.out]; rfl, bel_trans hb1 hb2⟩
  · have e6 : ((n : Int) == 6) = false := by simp; omega
    have HV : Hid (netV xs = false) := by
      have h : (xs.length == 6) = false := by simp; omega
      show netV xs = false
      unfold netV
      rw [h]; rfl
    clear hl h6
    go_enter Try.func15, Try.ntmps15
    go_wp2_with fail
    go_ret
    exact ⟨by rw [HV.out]; rfl, Below.refl _ _⟩
end Go.Proofs.Ytagkopemcabkpaa

/- Slices of slices of integers, all of it the call's own: made, kept, marked. -/
namespace Go.Proofs.Ytagkopemcabkpaa
open Go.RowKit
set_option linter.unusedVariables false
structure Own2 (base : Nat) (w : World) (B : Option Addr) (n c : Nat) (hs : List H) (F : List (List Int)) : Prop where
  own : w.ownsRow base 24 1 (.slice B n c) n (vS hs)
  len : hs.length = F.length
  row : ∀ k (a : k < hs.length) (b : k < F.length), w.ownsRow base 3 1 (.slice hs[k].1 hs[k].2.1 hs[k].2.2) hs[k].2.1 (vI F[k])
  off : ∀ g, ob B = some g → away hs g
  sep : ∀ i j (a : i < hs.length) (b : j < hs.length), i ≠ j → ∀ g, ob hs[i].1 = some g → ob hs[j].1 ≠ some g
/-- A result that is a slice of slices of the call's own. -/
def RetO2 (w : World) (F : List (List Int)) (e : Ending) (w' : World) : Prop :=
  ∃ A n c hs, e = .returned (.slice A n c) ∧ Own2 w.heap.size w' A n c hs F ∧ Below w.heap.size w w'
section
variable {base : Nat} {w w' : World} {B : Option Addr} {n c : Nat} {hs : List H} {F : List (List Int)}
theorem Own2.nil (base : Nat) (w : World) : Own2 base w none 0 0 [] [] :=
  ⟨own_nil _ _ _ _, rfl, fun k a => by simp at a, fun g h => by simp [ob] at h, fun i j a => by simp at a⟩
theorem Own2.none_ (h : w.ownsRow base 24 1 (.slice B 0 c) 0 []) : Own2 base w B 0 c [] [] :=
  ⟨h, rfl, fun k a => by simp at a, fun g _ x hx => by simp at hx, fun i j a => by simp at a⟩
theorem Own2.hlen (h : Own2 base w B n c hs F) : hs.length = n := by have := own_len h.own; rw [vS_length] at this; omega
theorem Own2.flen (h : Own2 base w B n c hs F) : F.length = n := h.len ▸ h.hlen
theorem Own2.rlen (h : Own2 base w B n c hs F) {k : Nat} (a : k < hs.length) (b : k < F.length) : F[k].length = hs[k].2.1 := by have := own_len (h.row k a b); rw [vI_length] at this; omega
theorem Own2.below (h : Own2 base w B n c hs F) (hb : Below w.heap.size w w') : Own2 base w' B n c hs F :=
  ⟨own_keep h.own hb, h.len, fun k a b => own_keep (h.row k a b) hb, h.off, h.sep⟩
theorem own_mono2 {base' e size : Nat} {A : Option Addr} {xs : List Value} (h : w.ownsRow base e size (.slice A n c) n xs) (hb : base' ≤ base) : w.ownsRow base' e size (.slice A n c) n xs := by
  refine ⟨h.1, ?_⟩
  rcases h.2 with hn | ⟨g, cap, cur, hv, hg, hgg, rest⟩
  · exact .inl hn
  · exact .inr ⟨g, cap, cur, hv, Nat.le_trans hb hg, hgg, rest⟩
theorem Own2.mono {base' : Nat} (h : Own2 base w B n c hs F) (hb : base' ≤ base) : Own2 base' w B n c hs F :=
  ⟨own_mono2 h.own hb, h.len, fun k a b => own_mono2 (h.row k a b) hb, h.off, h.sep⟩
theorem own_kept {e size : Nat} {A : Option Addr} {xs : List Value} {row : Option Nat} (h : w.ownsRow base e size (.slice A n c) n xs) (hg : w.grownBy w' row) (hn : ∀ g, ob A = some g → row ≠ some g) : w'.ownsRow base e size (.slice A n c) n xs :=
  h.kept hg (by
    rw [ownBlock_slice]
    cases hA : ob A with
    | none => exact .inl rfl
    | some g => right; intro e; exact hn g hA e.symm)
theorem Own2.grown {row : Option Nat} (h : Own2 base w B n c hs F) (hg : w.grownBy w' row) (hn : ∀ g, row = some g → g < base) : Own2 base w' B n c hs F :=
  ⟨own_kept h.own hg fun g e r => by have := (own_lt h.own g e).1; have := hn g r; omega, h.len,
   fun k a b => own_kept (h.row k a b) hg fun g e r => by have := (own_lt (h.row k a b) g e).1; have := hn g r; omega, h.off, h.sep⟩
theorem Own2.at_ (h : Own2 base w B n c hs F) {k : Nat} (a : k < hs.length) : ∃ g off, B = some ⟨g, off, none⟩ ∧ g < w.heap.size ∧ w.cell? ⟨g, off + k, none⟩ = some (.slice hs[k].1 hs[k].2.1 hs[k].2.2) :=
  RdS.at_ (Rd.of_own h.own) a
theorem Own2.rd (h : Own2 base w B n c hs F) {k : Nat} (a : k < hs.length) (b : k < F.length) : Rd w hs[k].1 (vI F[k]) := Rd.of_own (h.row k a b)
/-- One row is written anew. -/
theorem Own2.put (h : Own2 base w B n c hs F) {k : Nat} (a : k < hs.length) (f : List Int) (hr : w'.ownsRow base 3 1 (.slice hs[k].1 hs[k].2.1 hs[k].2.2) hs[k].2.1 (vI f)) (hg : w.grownBy w' (ob hs[k].1)) :
    Own2 base w' B n c hs (F.set k f) := by
  refine ⟨own_kept h.own hg fun g e r => h.off g e _ (List.getElem_mem a) r, by simpa using h.len, fun j a' b' => ?_, h.off, h.sep⟩
  by_cases e : k = j
  · subst e
    rw [List.getElem_set_self]
    exact hr
  · rw [List.getElem_set_ne e]
    exact own_kept (h.row j a' (by simpa using b')) hg fun g e1 r => h.sep k j a a' e g r e1
/-- One row more. -/
theorem Own2.push {w3 : World} {g1 nf cf : Nat} {f : List Int} {B' : Option Addr} {c' : Nat}
    (h : Own2 base w B n c hs F) (hf : w'.ownsRow base 3 1 (.slice (some ⟨g1, 0, none⟩) nf cf) nf (vI f)) (hg1 : w.heap.size ≤ g1) (hb : Below w.heap.size w w')
    (ho : w3.ownsRow base 24 1 (.slice B' (n + 1) c') (n + 1) (vS (hs ++ [(some ⟨g1, 0, none⟩, nf, cf)]))) (hg : w'.grownBy w3 (ob B)) (ha : ob B' = ob B ∨ ob B' = some w'.heap.size) :
    Own2 base w3 B' (n + 1) c' (hs ++ [(some ⟨g1, 0, none⟩, nf, cf)]) (F ++ [f]) := by
  have hB := own_lt h.own
  have hf1 := (own_lt hf g1 rfl).2
  have hsz := hb.size
  have hold : ∀ k (a : k < hs.length) (b : k < F.length) g, ob hs[k].1 = some g → g < w.heap.size := fun k a b g e => (own_lt (h.row k a b) g e).2
  refine ⟨ho, by simp [h.len], fun k a b => ?_, fun g e => ?_, ?_⟩
  · by_cases hk : k < hs.length
    · have hk2 : k < F.length := h.len ▸ hk
      simp only [List.getElem_append_left hk, List.getElem_append_left hk2]
      exact own_kept (own_keep (h.row k hk hk2) hb) hg fun g e r => h.off g r _ (List.getElem_mem hk) e
    · have e : k = hs.length := by simp at a; omega
      subst e
      have e3 : (hs ++ [((some ⟨g1, 0, none⟩, nf, cf) : H)])[hs.length]'a = (some ⟨g1, 0, none⟩, nf, cf) := by simp
      have e4 : (F ++ [f])[hs.length]'b = f := by rw [List.getElem_append_right (Nat.le_of_eq h.len.symm)]; simp
      rw [e3, e4]
      exact own_kept hf hg fun g e r => by simp only [ob, Option.map_some, Option.some.injEq] at e; subst e; have := (hB _ r).2; omega
  · intro x hx
    rcases List.mem_append.1 hx with hx | hx
    · rcases ha with h1 | h1
      · exact h.off g (h1 ▸ e) x hx
      · rw [h1] at e
        injection e with e
        intro r
        obtain ⟨k, hk, rfl⟩ := List.mem_iff_getElem.1 hx
        have := hold k hk (h.len ▸ hk) g r
        omega
    · simp only [List.mem_singleton] at hx
      subst hx
      intro r
      simp only [ob, Option.map_some, Option.some.injEq] at r
      subst r
      rcases ha with h1 | h1
      · rw [h1] at e
        have := (hB _ e).2
        omega
      · rw [h1] at e
        injection e with e
        omega
  · have hn1 : ∀ i (a : i < hs.length) g, ob hs[i].1 = some g → ob (some (⟨g1, 0, none⟩ : Addr)) ≠ some g := fun i a g e r => by
      simp only [ob, Option.map_some, Option.some.injEq] at r
      subst r
      have := hold i a (h.len ▸ a) _ e
      omega
    intro i j a b hij g e
    by_cases hi : i < hs.length
    · by_cases hj : j < hs.length
      · simp only [List.getElem_append_left hi] at e
        simp only [List.getElem_append_left hj]
        exact h.sep i j hi hj hij g e
      · have ej : j = hs.length := by simp at b; omega
        subst ej
        simp only [List.getElem_append_left hi] at e
        simp only [List.getElem_append_right (Nat.le_refl _), Nat.sub_self, List.getElem_cons_zero]
        exact hn1 i hi g e
    · have ei : i = hs.length := by simp at a; omega
      subst ei
      have hj : j < hs.length := by simp at b; omega
      simp only [List.getElem_append_right (Nat.le_refl _), Nat.sub_self, List.getElem_cons_zero] at e
      simp only [List.getElem_append_left hj]
      exact fun r => hn1 j hj g r e
end
def total (F : List (List Int)) : Nat := (F.map List.length).sum
def markF : Int → List (List Int) → List (List Int)
  | _, [] => []
  | k, f :: t => io k f.length :: markF (k + f.length) t
theorem total_snoc (F : List (List Int)) (f : List Int) : total (F ++ [f]) = total F + f.length := by simp [total]
theorem total_append (F F2 : List (List Int)) : total (F ++ F2) = total F + total F2 := by simp [total]
theorem total_take (F : List (List Int)) (j : Nat) (h : j < F.length) : total (F.take (j + 1)) = total (F.take j) + F[j].length := by rw [List.take_succ_eq_append_getElem h, total_snoc]
theorem total_le (F : List (List Int)) (j : Nat) : total (F.take j) ≤ total F := by
  have := total_append (F.take j) (F.drop j)
  rw [List.take_append_drop] at this
  omega
theorem markF_len : ∀ (k : Int) (F : List (List Int)), (markF k F).length = F.length
  | _, [] => rfl
  | k, f :: t => by simp [markF, markF_len]
theorem markF_snoc : ∀ (k : Int) (F : List (List Int)) (f : List Int), markF k (F ++ [f]) = markF k F ++ [io (k + total F) f.length]
  | k, [], f => by simp [markF, total]
  | k, g :: t, f => by
    simp only [List.cons_append, markF, markF_snoc, total, List.map_cons, List.sum_cons, Int.natCast_add]
    rw [show k + (g.length : Int) + ((t.map List.length).sum : Nat) = k + ((g.length : Int) + ((t.map List.length).sum : Nat)) from by omega]
theorem markF_step (k : Int) (F : List (List Int)) (j : Nat) (h : j < F.length) :
    (markF k (F.take j) ++ F.drop j).set j (io (k + total (F.take j)) F[j].length) = markF k (F.take (j + 1)) ++ F.drop (j + 1) := by
  have hl : (markF k (F.take j)).length = j := by rw [markF_len, List.length_take]; omega
  rw [List.set_append_right _ _ (by omega), hl, Nat.sub_self, List.take_succ_eq_append_getElem h, markF_snoc, List.append_assoc, List.drop_eq_getElem_cons h]
  rfl
theorem markF_get (k : Int) (F : List (List Int)) (j : Nat) (h : j < F.length) : (markF k F)[j]'(by rw [markF_len]; exact h) = io (k + total (F.take j)) F[j].length := by
  have h1 := markF_snoc k (F.take j) F[j]
  rw [← List.take_succ_eq_append_getElem h] at h1
  have h2 : markF k F = markF k (F.take (j + 1)) ++ markF (k + total (F.take (j + 1))) (F.drop (j + 1)) := by
    have : ∀ (F1 : List (List Int)) (k : Int) (F2 : List (List Int)), markF k (F1 ++ F2) = markF k F1 ++ markF (k + total F1) F2 := by
      intro F1
      induction F1 with
      | nil => intro k F2; simp [markF, total]
      | cons g t ih =>
        intro k F2
        simp only [List.cons_append, markF, ih, total, List.map_cons, List.sum_cons, Int.natCast_add]
        rw [show k + (g.length : Int) + ((t.map List.length).sum : Nat) = k + ((g.length : Int) + ((t.map List.length).sum : Nat)) from by omega]
    rw [← this, List.take_append_drop]
  have hl : (markF k (F.take j)).length = j := by rw [markF_len, List.length_take]; omega
  have h3 : (markF k F)[j]? = some (io (k + total (F.take j)) F[j].length) := by
    rw [h2, h1, List.append_assoc, List.getElem?_append_right (by omega), hl, Nat.sub_self]
    rfl
  rw [List.getElem?_eq_getElem (by rw [markF_len]; exact h)] at h3
  injection h3
end Go.Proofs.Ytagkopemcabkpaa

/- Opposite faces of a net of the cube. -/
namespace Go.Proofs.Ytagkopemcabkpaa
open Go.RowKit
set_option linter.unusedVariables false
attribute [local go_sem ↓] Go.wp_at_zero Go.wp_at_succ

def half (x : Int) : Int := IntKind.i64.wrap (x.tdiv 2)
def oppRow (l : List Int) (i : Nat) : Nat → List (List Int)
  | 0 => []
  | j + 1 => oppRow l i j ++ (if i < j ∧ half (l.getD i 0) = half (l.getD j 0) then [[(i : Int), (j : Int)]] else [])
def oppAll (l : List Int) : Nat → List (List Int)
  | 0 => []
  | i + 1 => oppAll l i ++ oppRow l i l.length
noncomputable def oppV (xs : List C) : List (List Int) := if netV xs then oppAll (faces xs) (faces xs).length else []
theorem oppRow_start (l : List Int) (i : Nat) : ∀ j, j ≤ i + 1 → oppRow l i j = []
  | 0, _ => rfl
  | j + 1, h => by
    show oppRow l i j ++ _ = []
    rw [oppRow_start l i j (by omega), if_neg (by omega)]
    rfl
theorem oppRow_yes {l : List Int} {i j : Nat} {x y : Int} (hi : l.getD i 0 = x) (hj : l.getD j 0 = y) (h : i < j) (he : (half x == half y) = true) : oppRow l i (j + 1) = oppRow l i j ++ [[(i : Int), (j : Int)]] := by
  show oppRow l i j ++ _ = _
  rw [if_pos ⟨h, by rw [hi, hj]; simpa using he⟩]
theorem oppRow_no {l : List Int} {i j : Nat} {x y : Int} (hi : l.getD i 0 = x) (hj : l.getD j 0 = y) (he : (half x == half y) = false) : oppRow l i (j + 1) = oppRow l i j := by
  show oppRow l i j ++ _ = _
  rw [if_neg (fun h => by rw [hi, hj] at h; simp [h.2] at he), List.append_nil]
theorem oppRow_tot (l : List Int) (i : Nat) : ∀ j, total (oppRow l i j) ≤ 2 * j
  | 0 => by simp [oppRow, total]
  | j + 1 => by
    have h1 := oppRow_tot l i j
    have h2 : total (oppRow l i (j + 1)) ≤ total (oppRow l i j) + 2 := by
      show total (oppRow l i j ++ _) ≤ _
      rw [total_append]
      split <;> simp [total]
    omega
theorem oppAll_tot (l : List Int) : ∀ i, total (oppAll l i) ≤ 2 * l.length * i
  | 0 => by simp [oppAll, total]
  | i + 1 => by
    have h1 := oppAll_tot l i
    have h2 := oppRow_tot l i l.length
    show total (oppAll l i ++ _) ≤ _
    rw [total_append, Nat.mul_succ]
    omega
theorem net_conn {xs : List C} (h : isConn xs = false) : netV xs = false := by
  unfold netV facV
  rw [h]
  simp
theorem oppV_tot (xs : List C) : total (oppV xs) ≤ 1048576 := by
  unfold oppV
  split
  · next h =>
    have hc : isConn xs = true := by
      cases hc : isConn xs with
      | true => rfl
      | false => rw [net_conn hc] at h; cases h
    have h8 := faces_le8 hc
    have h1 := oppAll_tot (faces xs) (faces xs).length
    have h2 : 2 * (faces xs).length * (faces xs).length ≤ 2 * 8 * 8 := Nat.mul_le_mul (Nat.mul_le_mul_left 2 h8) h8
    omega
  · simp [total]
theorem oppRow_len (l : List Int) (i : Nat) : ∀ j, (oppRow l i j).length ≤ j
  | 0 => by simp [oppRow]
  | j + 1 => by
    have h1 := oppRow_len l i j
    have h2 : (oppRow l i (j + 1)).length ≤ (oppRow l i j).length + 1 := by
      show (oppRow l i j ++ _).length ≤ _
      rw [List.length_append]
      split <;> simp
    omega
theorem oppAll_len (l : List Int) : ∀ i, (oppAll l i).length ≤ l.length * i
  | 0 => by simp [oppAll]
  | i + 1 => by
    have h1 := oppAll_len l i
    have h2 := oppRow_len l i l.length
    show (oppAll l i ++ _).length ≤ _
    rw [List.length_append, Nat.mul_succ]
    omega
theorem oppV_len (xs : List C) : (oppV xs).length ≤ 1048576 := by
  unfold oppV
  split
  · next h =>
    have hc : isConn xs = true := by
      cases hc : isConn xs with
      | true => rfl
      | false => rw [net_conn hc] at h; cases h
    have h8 := faces_le8 hc
    have h1 := oppAll_len (faces xs) (faces xs).length
    have h2 : (faces xs).length * (faces xs).length ≤ 8 * 8 := Nat.mul_le_mul h8 h8
    omega
  · simp
theorem getD_at {l : List Int} {k : Nat} {x : Int} (h : k < l.length) (e : l[k] = x) : l.getD k 0 = x := by rw [List.getD_eq_getElem?_getD, List.getElem?_eq_getElem h, Option.getD_some, e]
set_option maxHeartbeats 1600000 in
theorem OppositeFaces_i (A : Option Addr) (n c : Nat) (xs : List C) (w : World) (hr : Rd w A (vC xs)) (hl : xs.length = n) (hn : n ≤ 1099511627776) :
    Calls Try.prog 14 #[.slice A n c] w (RetO2 w (oppV xs)) := by
  have HL := Lib.hid hl
  cases hc : netV xs with
  | false =>
    have HV : Hid (oppV xs = []) := by show oppV xs = []; unfold oppV; rw [hc]; rfl
    have HC := Lib.hid hc
    clear hc hl
    go_enter Try.func14, Try.ntmps14
    go_wp2_with fail
    refine (IsCubeNet_i _ _ _ xs _ hr HL.out (by omega)).mono ?_
    rw [HC.out]
    rintro e w1 ⟨rfl, hb1⟩
    go_wp2_with fail
    go_ret
    exact ⟨none, 0, 0, [], rfl, by rw [HV.out]; exact Own2.nil _ _, hb1⟩
  | true =>
    have hc2 : isConn xs = true := by
      cases h : isConn xs with
      | true => rfl
      | false => rw [net_conn h] at hc; cases hc
    have hV : oppV xs = oppAll (faces xs) (faces xs).length := by unfold oppV; rw [hc]; rfl
    have hfl := faces_le8 hc2
    have HC := Lib.hid hc
    have HC2 := Lib.hid hc2
    have HV0 := Lib.hid hV
    clear hc hc2 hl hV
    go_enter Try.func14, Try.ntmps14
    go_wp2_with fail
    refine (IsCubeNet_i _ _ _ xs _ hr HL.out (by omega)).mono ?_
    rw [HC.out]
    rintro e w1 ⟨rfl, hb1⟩
    go_wp2_with fail
    refine (FacesOf_i _ _ _ xs _ (hr.below hb1) HL.out (by omega)).mono ?_
    rw [HC2.out]
    rintro e w2 ⟨D, m, cap, rfl, ho, hb2⟩
    have hV := HV0.out
    clear HV0
    generalize faces xs = l at hV ho hfl
    have hlm : l.length = m := by have := own_len ho; rw [vI_length] at this; omega
    rw [hlm] at hV hfl
    have HV := Lib.hid hV
    have HLM := Lib.hid hlm
    have HRD := Lib.hid (Rd.of_own ho)
    have hbw2 : Below w.heap.size w w2 := bel_trans hb1 hb2
    have hsz2 := hbw2.size
    clear hlm ho hV
    go_wp2_with fail
    go_loopw [18, 5] (fun e8 e5 wr => ∃ (i q cq : Nat) (B : Option Addr) (hs : List H), i ≤ m ∧ q ≤ 8 * i ∧ e8 = .int .i64 i ∧ e5 = .slice B q cq ∧ Own2 w2.heap.size wr B q cq hs (oppAll l i) ∧ Below w2.heap.size w2 wr) (fun e8 e5 _ => m - (intOf e8).toNat)
    case atStart => exact ⟨0, 0, 0, none, [], by omega, by omega, rfl, rfl, Own2.nil _ _, Below.refl _ _⟩
    case round =>
      skip
      obtain ⟨i, q, cq, B, hs, hi, hq8, rfl, rfl, hO, hb⟩ := hrel
      by_cases hlt : i < m
      · have hil : i < l.length := by rw [HLM.out]; exact hlt
        have hi0 : (0 : Int) ≤ (i : Int) := by omega
        have hi1 : (i : Int) < (m : Int) := by omega
        have HO := Lib.hid hO
        clear hO
        obtain ⟨x, hx⟩ : ∃ x, l[i] = x := ⟨_, rfl⟩
        have hgx := getD_at hil hx
        have HGX := Lib.hid hgx
        have HX := Lib.hid hx
        clear hgx hx
        go_wp2_with fail
        go_loopw [7, 5] (fun e7 e5 wr => ∃ (j r cr : Nat) (B : Option Addr) (hs : List H), i < j ∧ j ≤ m ∧ r ≤ 8 * i + j ∧ e7 = .int .i64 j ∧ e5 = .slice B r cr ∧ Own2 w2.heap.size wr B r cr hs (oppAll l i ++ oppRow l i j) ∧ Below w2.heap.size w2 wr) (fun e7 e5 _ => m - (intOf e7).toNat)
        case atStart => exact ⟨i + 1, q, cq, B, hs, by omega, by omega, by omega, by go_num, rfl, by rw [oppRow_start l i (i + 1) (Nat.le_refl _), List.append_nil]; exact HO.out, (by (repeat (first | with_reducible exact Below.refl _ _ | with_reducible assumption | with_reducible apply bel_alloc | with_reducible apply bel_drew | with_reducible apply bel_drewN | ((with_reducible refine bel_set ?_ ?_); rotate_left; (simp <;> omega)) | (with_reducible refine bel_trans ?_ (by with_reducible assumption)))))⟩
        case round =>
          clear HO hb
          obtain ⟨j, r, cr, B, hs, hij, hj, hr8, rfl, rfl, hO, hb⟩ := hrel
          by_cases hjm : j < m
          · have hjl : j < l.length := by rw [HLM.out]; exact hjm
            have hj0 : (0 : Int) ≤ (j : Int) := by omega
            have hj1 : (j : Int) < (m : Int) := by omega
            obtain ⟨g, off, hD, hg, c1⟩ := RdI.at_ (HRD.out.below hb) hil
            subst hD
            obtain ⟨g', off', he, _, c2⟩ := RdI.at_ (HRD.out.below hb) hjl
            simp only [Option.some.injEq, Addr.mk.injEq, and_true] at he
            obtain ⟨rfl, rfl⟩ := he
            rw [HX.out] at c1
            obtain ⟨y, hy⟩ : ∃ y, l[j] = y := ⟨_, rfl⟩
            have hgy := getD_at hjl hy
            rw [hy] at c2
            clear hy
            have HO := Lib.hid hO
            clear hO
            have hbz := hb.size
            by_cases hxy : (half x == half y) = true
            · have HN := Lib.hid (oppRow_yes HGX.out hgy hij hxy)
              unfold half at hxy
              clear hgy
              skip
              go_wp2_with fail
              (refine wp_region_below (by kernel_rfl) (by kernel_rfl) ?_; (repeat (first | go_big_quiet_skip | (refine quietV (v := ?_) (by rfl) rfl (fun w' hbw => ?_) ?_; rotate_left; ((try dsimp only at hbw); have hbc := (bcell hbw).1; have hbf := (bcell hbw).2; go_simp; first | done | with_reducible rfl | fail); simp only [List.setIfInBounds_toArray, List.set_cons_zero, List.set_cons_succ]))); refine wpQuiet_nil ?_; intro wq hbq)
              have HO2 := Lib.hid (HO.out.below hbq)
              have hwq : w2.heap.size ≤ wq.heap.size := by have := hbq.size; omega
              have hrn : Rd ((wq.alloc (.cells #[.int .i64 i, .int .i64 j] 3)).alloc (.cells #[.slice (some ⟨wq.heap.size, 0, none⟩) 2 2] 24)) (some ⟨wq.heap.size + 1, 0, none⟩) (vS [(some ⟨wq.heap.size, 0, none⟩, 2, 2)]) := by
                have := rd_newS (wq.alloc (.cells #[.int .i64 i, .int .i64 j] 3)) 24 (some ⟨wq.heap.size, 0, none⟩, 2, 2)
                rw [show (wq.alloc (.cells #[.int .i64 i, .int .i64 j] 3)).heap.size = wq.heap.size + 1 from by simp] at this
                exact this
              have HRN := Lib.hid hrn
              clear HO hrn
              go_wp2_with (at_builtin; go_must (refine app_S _ rfl _ _ rfl w2.heap.size _ _ _ hs rfl ((HO2.out.own.alloc _).alloc _) _ _ _ [(some ⟨wq.heap.size, 0, none⟩, 2, 2)] rfl HRN.out rfl (by omega) (by simp; omega) ?_); intro B2 c3 w6 hoB hgB2 hatB; have HOB6 := Lib.hid hoB; have HGB6 := Lib.hid hgB2; have HATB6 := Lib.hid hatB; clear hoB hgB2 hatB)
              have hP := Own2.push HO2.out (f := [(i : Int), (j : Int)]) ((own_new wq 3 1 2 #[.int .i64 i, .int .i64 j] rfl (by simp [maxLen]) hwq).alloc _) (Nat.le_refl _) (bel_alloc (bel_alloc (Below.refl _ _) _) _) HOB6.out HGB6.out HATB6.out
              have HP := Lib.hid hP
              have hb6 : Below w2.heap.size w2 w6 := by
                refine bel_app (bel_alloc (bel_alloc (bel_trans hb hbq) _) _) HGB6.out (fun g h => ?_)
                exact (own_lt HO2.out.own g h).1
              clear hP
              exact ⟨⟨j + 1, r + 1, c3, B2, _, by omega, by omega, by omega, by go_num, rfl, by rw [HN.out, ← List.append_assoc]; exact HP.out, hb6⟩, by simp [intOf]; omega⟩
            · have hxy2 : (half x == half y) = false := by simpa using hxy
              have HN := Lib.hid (oppRow_no HGX.out hgy hxy2)
              unfold half at hxy2
              clear hxy hgy
              go_wp2_with fail
              (refine wp_region_below (by kernel_rfl) (by kernel_rfl) ?_; (repeat (first | go_big_quiet_skip | (refine quietV (v := ?_) (by rfl) rfl (fun w' hbw => ?_) ?_; rotate_left; ((try dsimp only at hbw); have hbc := (bcell hbw).1; have hbf := (bcell hbw).2; go_simp; first | done | with_reducible rfl | fail); simp only [List.setIfInBounds_toArray, List.set_cons_zero, List.set_cons_succ]))); refine wpQuiet_nil ?_; intro wq hbq)
              have HO2 := Lib.hid (HO.out.below hbq)
              clear HO
              go_wp2_with fail
              exact ⟨⟨j + 1, r, cr, B, hs, by omega, by omega, by omega, by go_num, rfl, by rw [HN.out]; exact HO2.out, (by (repeat (first | with_reducible exact Below.refl _ _ | with_reducible assumption | with_reducible apply bel_alloc | with_reducible apply bel_drew | with_reducible apply bel_drewN | ((with_reducible refine bel_set ?_ ?_); rotate_left; (simp <;> omega)) | (with_reducible refine bel_trans ?_ (by with_reducible assumption)))))⟩, by simp [intOf]; omega⟩
          · have hjm2 : j = m := by omega
            subst hjm2
            have hj1 : ¬ (j : Int) < (j : Int) := by omega
            have hA : oppAll l (i + 1) = oppAll l i ++ oppRow l i j := by rw [← HLM.out]; rfl
            rw [← hA] at hO
            have HO := Lib.hid hO
            clear hO hA
            go_wp2_with fail
            exact ⟨⟨i + 1, r, cr, B, hs, by omega, by omega, by go_num, rfl, HO.out, hb⟩, by simp [intOf]; omega⟩
      · have him : i = m := by omega
        subst him
        have hlt2 : ¬ (i : Int) < (i : Int) := by omega
        have HO : Hid (Own2 w2.heap.size wr B q cq hs (oppV xs)) := by rw [HV.out]; exact hO
        clear hO
        go_wp2
        go_ret
        exact ⟨B, q, cq, hs, rfl, HO.out.mono hsz2, (by (repeat (first | with_reducible exact Below.refl _ _ | with_reducible assumption | with_reducible apply bel_alloc | with_reducible apply bel_drew | with_reducible apply bel_drewN | ((with_reducible refine bel_set ?_ ?_); rotate_left; (simp <;> omega)) | (with_reducible refine bel_trans ?_ (by with_reducible assumption)))))⟩
theorem grown_comp {a w w' : World} {r r' : Option Nat} (h : a.grownBy w r) (h' : w.grownBy w' r') (hr : ∀ g, r' = some g → r = some g ∨ a.heap.size ≤ g) : a.grownBy w' r :=
  ⟨h'.os.trans h.os, h'.tape.trans h.tape, h'.output.trans h.output, Nat.le_trans h.size h'.size, fun k hk hne => (h'.block k (Nat.lt_of_lt_of_le hk h.size) (fun e => by
    rcases hr k e.symm with h1 | h1
    · exact hne h1.symm
    · omega)).trans (h.block k hk hne)⟩
set_option maxHeartbeats 1600000 in
theorem OppositeFaces_s (A : Option Addr) (n c : Nat) (xs : List C) (w : World) (hr : Rd w A (vC xs)) (hl : xs.length = n) (hn : n ≤ 1099511627776) :
    Calls Try.prog 21 #[.slice A n c] w (RetO2 w (oppV xs)) := by
  have HL := Lib.hid hl
  have hini := own_new w 24 1 0 #[] rfl (by simp [maxLen]) (base := w.heap.size) (Nat.le_refl _)
  have hi2 := Own2.none_ hini
  have HI0 := Lib.hid hi2
  clear hini hi2
  cases hcn : isConn xs with
  | false =>
    have HV : Hid (oppV xs = []) := by show oppV xs = []; unfold oppV; rw [net_conn hcn]; rfl
    have HC := Lib.hid hcn
    clear hcn hl
    go_enter Try.func21, Try.ntmps21
    go_wp2_with fail
    refine (FacesOf_s _ _ _ xs _ (hr.alloc _) HL.out (by omega)).mono ?_
    rw [HC.out]
    rintro e w1 ⟨D, m, cap, rfl, ho, hb1⟩
    clear ho
    have HI := Lib.hid (HI0.out.below hb1)
    go_wp2_with fail
    go_ret
    exact ⟨_, 0, 0, [], rfl, by rw [HV.out]; exact HI.out, (by (repeat (first | with_reducible exact Below.refl _ _ | with_reducible assumption | with_reducible apply bel_alloc | with_reducible apply bel_drew | with_reducible apply bel_drewN | ((with_reducible refine bel_set ?_ ?_); rotate_left; (simp <;> omega)) | (with_reducible refine bel_trans ?_ (by with_reducible assumption)))))⟩
  | true =>
  cases hc : netV xs with
  | false =>
    have HV : Hid (oppV xs = []) := by show oppV xs = []; unfold oppV; rw [hc]; rfl
    have HC := Lib.hid hc
    have HCN := Lib.hid hcn
    clear hc hcn hl
    go_enter Try.func21, Try.ntmps21
    go_wp2_with fail
    refine (FacesOf_s _ _ _ xs _ (hr.alloc _) HL.out (by omega)).mono ?_
    rw [HCN.out]
    rintro e w1 ⟨D, m, cap, rfl, ho, hb1⟩
    clear ho
    go_wp2_with fail
    refine (IsCubeNet_s _ _ _ xs _ ((hr.alloc _).below hb1) HL.out (by omega)).mono ?_
    rw [HC.out]
    rintro e w2 ⟨rfl, hb2⟩
    have HI := Lib.hid (HI0.out.below (bel_trans hb1 hb2))
    go_wp2_with fail
    go_ret
    exact ⟨_, 0, 0, [], rfl, by rw [HV.out]; exact HI.out, (by (repeat (first | with_reducible exact Below.refl _ _ | with_reducible assumption | with_reducible apply bel_alloc | with_reducible apply bel_drew | with_reducible apply bel_drewN | ((with_reducible refine bel_set ?_ ?_); rotate_left; (simp <;> omega)) | (with_reducible refine bel_trans ?_ (by with_reducible assumption)))))⟩
  | true =>
    have hV : oppV xs = oppAll (faces xs) (faces xs).length := by unfold oppV; rw [hc]; rfl
    have hfl := faces_le8 hcn
    have HC := Lib.hid hc
    have HC2 := Lib.hid hcn
    have HV0 := Lib.hid hV
    clear hc hcn hl hV
    go_enter Try.func21, Try.ntmps21
    go_wp2_with fail
    refine (FacesOf_s _ _ _ xs _ (hr.alloc _) HL.out (by omega)).mono ?_
    rw [HC2.out]
    rintro e w1 ⟨D, m, cap, rfl, ho, hb1⟩
    have hV := HV0.out
    clear HV0
    generalize faces xs = l at hV ho hfl
    have hlm : l.length = m := by have := own_len ho; rw [vI_length] at this; omega
    rw [hlm] at hV hfl
    have HV := Lib.hid hV
    have HLM := Lib.hid hlm
    have HD := Lib.hid ho
    clear hlm ho hV
    go_wp2_with fail
    refine (IsCubeNet_s _ _ _ xs _ ((hr.alloc _).below hb1) HL.out (by omega)).mono ?_
    rw [HC.out]
    rintro e w2 ⟨rfl, hb2⟩
    have HRD := Lib.hid (Rd.of_own (own_keep HD.out hb2))
    have HDN : Hid (∀ g, ob D = some g → some g ≠ some w.heap.size) := by
      intro g e h
      injection h with h
      have := (own_lt HD.out g e).1
      simp only [World.size_alloc] at this
      omega
    have HI := Lib.hid (HI0.out.below (bel_trans hb1 hb2))
    have hbw2 : Below w.heap.size w w2 := (by (repeat (first | with_reducible exact Below.refl _ _ | with_reducible assumption | with_reducible apply bel_alloc | with_reducible apply bel_drew | with_reducible apply bel_drewN | ((with_reducible refine bel_set ?_ ?_); rotate_left; (simp <;> omega)) | (with_reducible refine bel_trans ?_ (by with_reducible assumption)))))
    have hsz2 := hbw2.size
    clear HD HI0
    go_wp2_with fail
    go_loopw [6, 3] (fun e8 e5 wr => ∃ (i q cq : Nat) (B : Option Addr) (hs : List H), i ≤ m ∧ q ≤ 8 * i ∧ e8 = .int .i64 i ∧ e5 = .slice B q cq ∧ Own2 w.heap.size wr B q cq hs (oppAll l i) ∧ w2.grownBy wr (some w.heap.size) ∧ (∀ g, ob B = some g → g = w.heap.size ∨ w2.heap.size ≤ g)) (fun e8 e5 _ => m - (intOf e8).toNat)
    case atStart => exact ⟨0, 0, 0, _, [], by omega, by omega, rfl, rfl, HI.out, World.grownBy.refl _ _, fun g e => by simp only [ob, Option.map_some, Option.some.injEq] at e; exact .inl e.symm⟩
    case round =>
      skip
      obtain ⟨i, q, cq, B, hs, hi, hq8, rfl, rfl, hO, hb, hBB⟩ := hrel
      by_cases hlt : i < m
      · have hil : i < l.length := by rw [HLM.out]; exact hlt
        have hi0 : (0 : Int) ≤ (i : Int) := by omega
        have hi1 : (i : Int) < (m : Int) := by omega
        have HO := Lib.hid hO
        clear hO
        obtain ⟨x, hx⟩ : ∃ x, l[i] = x := ⟨_, rfl⟩
        have hgx := getD_at hil hx
        have HGX := Lib.hid hgx
        have HX := Lib.hid hx
        clear hgx hx
        go_wp2_with fail
        go_loopw [7, 3] (fun e7 e5 wr => ∃ (j r cr : Nat) (B : Option Addr) (hs : List H), i < j ∧ j ≤ m ∧ r ≤ 8 * i + j ∧ e7 = .int .i64 j ∧ e5 = .slice B r cr ∧ Own2 w.heap.size wr B r cr hs (oppAll l i ++ oppRow l i j) ∧ w2.grownBy wr (some w.heap.size) ∧ (∀ g, ob B = some g → g = w.heap.size ∨ w2.heap.size ≤ g)) (fun e7 e5 _ => m - (intOf e7).toNat)
        case atStart => exact ⟨i + 1, q, cq, B, hs, by omega, by omega, by omega, by go_num, rfl, by rw [oppRow_start l i (i + 1) (Nat.le_refl _), List.append_nil]; exact HO.out, hb, hBB⟩
        case round =>
          clear HO hb hBB
          obtain ⟨j, r, cr, B, hs, hij, hj, hr8, rfl, rfl, hO, hb, hBB⟩ := hrel
          by_cases hjm : j < m
          · have hjl : j < l.length := by rw [HLM.out]; exact hjm
            have hj0 : (0 : Int) ≤ (j : Int) := by omega
            have hj1 : (j : Int) < (m : Int) := by omega
            obtain ⟨g, off, hD, hg, c1⟩ := RdI.at_ (HRD.out.grown hb HDN.out) hil
            subst hD
            obtain ⟨g', off', he, _, c2⟩ := RdI.at_ (HRD.out.grown hb HDN.out) hjl
            simp only [Option.some.injEq, Addr.mk.injEq, and_true] at he
            obtain ⟨rfl, rfl⟩ := he
            rw [HX.out] at c1
            obtain ⟨y, hy⟩ : ∃ y, l[j] = y := ⟨_, rfl⟩
            have hgy := getD_at hjl hy
            rw [hy] at c2
            clear hy
            have HO := Lib.hid hO
            clear hO
            have hbz := hb.size
            by_cases hxy : (half x == half y) = true
            · have HN := Lib.hid (oppRow_yes HGX.out hgy hij hxy)
              unfold half at hxy
              clear hgy
              skip
              go_wp2_with fail
              (refine wp_region_below (by kernel_rfl) (by kernel_rfl) ?_; (repeat (first | go_big_quiet_skip | (refine quietV (v := ?_) (by rfl) rfl (fun w' hbw => ?_) ?_; rotate_left; ((try dsimp only at hbw); have hbc := (bcell hbw).1; have hbf := (bcell hbw).2; go_simp; first | done | with_reducible rfl | fail); simp only [List.setIfInBounds_toArray, List.set_cons_zero, List.set_cons_succ]))); refine wpQuiet_nil ?_; intro wq hbq)
              have HO2 := Lib.hid (HO.out.below hbq)
              have hwq : w.heap.size ≤ wq.heap.size := by have := hbq.size; omega
              have hrn : Rd ((wq.alloc (.cells #[.int .i64 i, .int .i64 j] 3)).alloc (.cells #[.slice (some ⟨wq.heap.size, 0, none⟩) 2 2] 24)) (some ⟨wq.heap.size + 1, 0, none⟩) (vS [(some ⟨wq.heap.size, 0, none⟩, 2, 2)]) := by
                have := rd_newS (wq.alloc (.cells #[.int .i64 i, .int .i64 j] 3)) 24 (some ⟨wq.heap.size, 0, none⟩, 2, 2)
                rw [show (wq.alloc (.cells #[.int .i64 i, .int .i64 j] 3)).heap.size = wq.heap.size + 1 from by simp] at this
                exact this
              have HRN := Lib.hid hrn
              clear HO hrn
              go_wp2_with (at_builtin; go_must (refine app_S _ rfl _ _ rfl w.heap.size _ _ _ hs rfl ((HO2.out.own.alloc _).alloc _) _ _ _ [(some ⟨wq.heap.size, 0, none⟩, 2, 2)] rfl HRN.out rfl (by omega) (by simp; omega) ?_); intro B2 c3 w6 hoB hgB2 hatB; have HOB6 := Lib.hid hoB; have HGB6 := Lib.hid hgB2; have HATB6 := Lib.hid hatB; clear hoB hgB2 hatB)
              have hP := Own2.push HO2.out (f := [(i : Int), (j : Int)]) ((own_new wq 3 1 2 #[.int .i64 i, .int .i64 j] rfl (by simp [maxLen]) hwq).alloc _) (Nat.le_refl _) (bel_alloc (bel_alloc (Below.refl _ _) _) _) HOB6.out HGB6.out HATB6.out
              have HP := Lib.hid hP
              have hbz2 := hbq.size
              have hb6 : w2.grownBy w6 (some w.heap.size) := by
                refine grown_comp (grown_below hb (bel_trans hbq (bel_alloc (bel_alloc (Below.refl _ _) _) _))) HGB6.out (fun g h => ?_)
                rcases hBB g h with h1 | h1
                · exact .inl (by rw [h1])
                · exact .inr h1
              have hB6 : ∀ g, ob B2 = some g → g = w.heap.size ∨ w2.heap.size ≤ g := fun g e => by
                rcases HATB6.out with h1 | h1
                · exact hBB g (h1 ▸ e)
                · rw [h1] at e
                  injection e with e
                  right
                  simp only [World.size_alloc] at e
                  omega
              clear hP
              exact ⟨⟨j + 1, r + 1, c3, B2, _, by omega, by omega, by omega, by go_num, rfl, by rw [HN.out, ← List.append_assoc]; exact HP.out, hb6, hB6⟩, by simp [intOf]; omega⟩
            · have hxy2 : (half x == half y) = false := by simpa using hxy
              have HN := Lib.hid (oppRow_no HGX.out hgy hxy2)
              unfold half at hxy2
              clear hxy hgy
              go_wp2_with fail
              (refine wp_region_below (by kernel_rfl) (by kernel_rfl) ?_; (repeat (first | go_big_quiet_skip | (refine quietV (v := ?_) (by rfl) rfl (fun w' hbw => ?_) ?_; rotate_left; ((try dsimp only at hbw); have hbc := (bcell hbw).1; have hbf := (bcell hbw).2; go_simp; first | done | with_reducible rfl | fail); simp only [List.setIfInBounds_toArray, List.set_cons_zero, List.set_cons_succ]))); refine wpQuiet_nil ?_; intro wq hbq)
              have HO2 := Lib.hid (HO.out.below hbq)
              clear HO
              go_wp2_with fail
              exact ⟨⟨j + 1, r, cr, B, hs, by omega, by omega, by omega, by go_num, rfl, by rw [HN.out]; exact HO2.out, grown_below hb hbq, hBB⟩, by simp [intOf]; omega⟩
          · have hjm2 : j = m := by omega
            subst hjm2
            have hj1 : ¬ (j : Int) < (j : Int) := by omega
            have hA : oppAll l (i + 1) = oppAll l i ++ oppRow l i j := by rw [← HLM.out]; rfl
            rw [← hA] at hO
            have HO := Lib.hid hO
            clear hO hA
            go_wp2_with fail
            exact ⟨⟨i + 1, r, cr, B, hs, by omega, by omega, by go_num, rfl, HO.out, hb, hBB⟩, by simp [intOf]; omega⟩
      · have him : i = m := by omega
        subst him
        have hlt2 : ¬ (i : Int) < (i : Int) := by omega
        have HO : Hid (Own2 w.heap.size wr B q cq hs (oppV xs)) := by rw [HV.out]; exact hO
        clear hO
        go_wp2
        go_ret
        exact ⟨B, q, cq, hs, rfl, HO.out, hbw2.grown hb hsz2 (fun k e => by injection e with e; omega)⟩
end Go.Proofs.Ytagkopemcabkpaa

/- Pairs of cells on one face. -/
namespace Go.Proofs.Ytagkopemcabkpaa
open Go.RowKit
set_option linter.unusedVariables false
attribute [local go_sem ↓] Go.wp_at_zero Go.wp_at_succ

def foldsTo (l : List Int) : Nat → Nat
  | 0 => 0
  | k + 1 => foldsTo l k + (l.take k).countP fun d => l.getD k 0 == d
noncomputable def foldV (xs : List C) : Int := if isConn xs then (foldsTo (faces xs) (faces xs).length : Nat) else -1
theorem faces_len8 {xs : List C} (h : isConn xs = true) : (faces xs).length ≤ 8 := by
  unfold faces; rw [h, if_pos rfl, List.length_map]; exact (shape_len (conn_shape h)).2
set_option maxHeartbeats 1600000 in
theorem FoldsFlat_i (A : Option Addr) (n c : Nat) (xs : List C) (w : World) (hr : Rd w A (vC xs)) (hl : xs.length = n) (hn : n ≤ 1099511627776) :
    Calls Try.prog 16 #[.slice A n c] w (Ret w (.int .i64 (foldV xs))) := by
  have HL := Lib.hid hl
  cases hc : isConn xs with
  | false =>
    have HV : Hid (foldV xs = -1) := by show foldV xs = -1; unfold foldV; rw [hc]; rfl
    have HC := Lib.hid hc
    clear hc hl
    go_enter Try.func16, Try.ntmps16
    go_wp2_with (go_at_call 12; refine (FacesOf_i _ _ _ xs _ hr HL.out (by omega)).mono ?_; rw [HC.out]; rintro e w1 ⟨B, m, cap, rfl, ho, hb1⟩; clear ho)
    go_ret
    exact ⟨by rw [HV.out]; rfl, (by (repeat (first | with_reducible exact Below.refl _ _ | with_reducible assumption | with_reducible apply bel_alloc | with_reducible apply bel_drew | with_reducible apply bel_drewN | ((with_reducible refine bel_set ?_ ?_); rotate_left; (simp <;> omega)) | (with_reducible refine bel_trans ?_ (by with_reducible assumption)))))⟩
  | true =>
    have HV : Hid (foldV xs = foldsTo (faces xs) (faces xs).length) := by show foldV xs = _; unfold foldV; rw [hc]; rfl
    have hfl := faces_len8 hc
    have HC := Lib.hid hc
    clear hc hl
    go_enter Try.func16, Try.ntmps16
    go_wp2_with fail
    refine (FacesOf_i _ _ _ xs _ hr HL.out (by omega)).mono ?_
    rw [HC.out]
    rintro e w1 ⟨B, m, cap, rfl, ho, hb1⟩
    generalize faces xs = l at HV ho hfl
    have hlm : l.length = m := by have := own_len ho; rw [vI_length] at this; omega
    rw [hlm] at HV hfl
    have HLM := Lib.hid hlm
    have hrd := Rd.of_own ho
    clear hlm ho
    go_wp2_with fail
    go_loopw [17, 5] (fun e7 e5 wr => ∃ k q : Nat, k ≤ m ∧ q ≤ k * 8 ∧ e7 = .int .i64 k ∧ e5 = .int .i64 q ∧ q = foldsTo l k ∧ Below w1.heap.size w1 wr) (fun e7 _ _ => m - (intOf e7).toNat)
    case atStart => exact ⟨0, 0, by omega, by omega, rfl, rfl, rfl, (by (repeat (first | with_reducible exact Below.refl _ _ | with_reducible assumption | with_reducible apply bel_alloc | with_reducible apply bel_drew | with_reducible apply bel_drewN | ((with_reducible refine bel_set ?_ ?_); rotate_left; (simp <;> omega)) | (with_reducible refine bel_trans ?_ (by with_reducible assumption)))))⟩
    case round =>
      obtain ⟨k, q, hk, hq8, rfl, rfl, hq, hb⟩ := hrel
      by_cases hlt : k < m
      · have hkl : k < l.length := by rw [HLM.out]; exact hlt
        have hk0 : (0 : Int) ≤ (k : Int) := by omega
        have hk1 : (k : Int) < (m : Int) := by omega
        have HQ := Lib.hid hq
        have HF : Hid (foldsTo l (k + 1) = foldsTo l k + (l.take k).countP fun d => l[k] == d) := by show foldsTo l (k + 1) = _; simp only [foldsTo, List.getD_eq_getElem?_getD, List.getElem?_eq_getElem hkl, Option.getD_some]
        have hkx : k ≤ 8 := by omega
        clear hq
        go_wp2_with fail
        go_loopw [21, 5] (fun e7 e5 wr => ∃ j r : Nat, j ≤ k ∧ r ≤ q + j ∧ e7 = .int .i64 j ∧ e5 = .int .i64 r ∧ r = q + (l.take j).countP (fun d => l[k] == d) ∧ Below w1.heap.size w1 wr) (fun e7 _ _ => k - (intOf e7).toNat)
        case atStart => exact ⟨0, q, by omega, by omega, rfl, rfl, by simp, hb⟩
        case round =>
          clear hb
          obtain ⟨j, r, hj, hr8, rfl, rfl, hrq, hb⟩ := hrel
          by_cases hjk : j < k
          · have hjl : j < l.length := by omega
            have hj0 : (0 : Int) ≤ (j : Int) := by omega
            have hj1 : (j : Int) < (k : Int) := by omega
            have hj2 : (j : Int) < (m : Int) := by omega
            obtain ⟨g, off, rfl, hg, c1⟩ := RdI.at_ (hrd.below hb) hkl
            obtain ⟨g', off', he, _, c2⟩ := RdI.at_ (hrd.below hb) hjl
            simp only [Option.some.injEq, Addr.mk.injEq, and_true] at he
            obtain ⟨rfl, rfl⟩ := he
            have hct := countP_take (fun d => l[k] == d) l j hjl
            obtain ⟨x, hx⟩ : ∃ x, l[k] = x := ⟨_, rfl⟩
            obtain ⟨y, hy⟩ : ∃ y, l[j] = y := ⟨_, rfl⟩
            rw [hx] at c1
            rw [hy] at c2 hct
            by_cases hxy : x = y
            · have hN : r + 1 = q + (l.take (j + 1)).countP (fun d => l[k] == d) := by rw [hct, hx, hxy]; simp; rw [hrq, hx, hxy]; omega
              have HN := Lib.hid hN
              subst hxy
              have e1 : (x == x) = true := by simp
              clear hN hct hx hy hrq
              go_wp2_with fail
              (refine wp_region_below (by kernel_rfl) (by kernel_rfl) ?_; (repeat (first | go_big_quiet_skip | (refine quietV (v := ?_) (by rfl) rfl (fun w' hbw => ?_) ?_; rotate_left; ((try dsimp only at hbw); have hbc := (bcell hbw).1; have hbf := (bcell hbw).2; go_simp; first | done | with_reducible rfl | fail); simp only [List.setIfInBounds_toArray, List.set_cons_zero, List.set_cons_succ]))); refine wpQuiet_nil ?_; intro wq hq)
              go_wp2_with fail
              exact ⟨⟨j + 1, r + 1, by omega, by omega, by go_num, by go_num, HN.out, (by (repeat (first | with_reducible exact Below.refl _ _ | with_reducible assumption | with_reducible apply bel_alloc | with_reducible apply bel_drew | with_reducible apply bel_drewN | ((with_reducible refine bel_set ?_ ?_); rotate_left; (simp <;> omega)) | (with_reducible refine bel_trans ?_ (by with_reducible assumption)))))⟩, by simp [intOf]; omega⟩
            · have e1 : (x == y) = false := by simpa using hxy
              have hN : r = q + (l.take (j + 1)).countP (fun d => l[k] == d) := by rw [hct, hx, e1]; simp; rw [hrq, hx]
              have HN := Lib.hid hN
              clear hN hct hx hy hrq hxy
              go_wp2_with fail
              (refine wp_region_below (by kernel_rfl) (by kernel_rfl) ?_; (repeat (first | go_big_quiet_skip | (refine quietV (v := ?_) (by rfl) rfl (fun w' hbw => ?_) ?_; rotate_left; ((try dsimp only at hbw); have hbc := (bcell hbw).1; have hbf := (bcell hbw).2; go_simp; first | done | with_reducible rfl | fail); simp only [List.setIfInBounds_toArray, List.set_cons_zero, List.set_cons_succ]))); refine wpQuiet_nil ?_; intro wq hq)
              go_wp2_with fail
              exact ⟨⟨j + 1, r, by omega, by omega, by go_num, rfl, HN.out, (by (repeat (first | with_reducible exact Below.refl _ _ | with_reducible assumption | with_reducible apply bel_alloc | with_reducible apply bel_drew | with_reducible apply bel_drewN | ((with_reducible refine bel_set ?_ ?_); rotate_left; (simp <;> omega)) | (with_reducible refine bel_trans ?_ (by with_reducible assumption)))))⟩, by simp [intOf]; omega⟩
          · have hjk2 : j = k := by omega
            subst hjk2
            have hN : r = foldsTo l (j + 1) := by rw [HF.out, ← HQ.out]; exact hrq
            have HN := Lib.hid hN
            have hj1 : ¬ (j : Int) < (j : Int) := by omega
            clear hN hrq
            go_wp2_with fail
            exact ⟨⟨j + 1, r, by omega, by omega, by go_num, rfl, HN.out, hb⟩, by simp [intOf]; omega⟩
      · have hkm : k = m := by omega
        subst hkm
        have HQ : Hid (foldV xs = (q : Int)) := by rw [hq]; exact HV.out
        have hlt2 : ¬ (k : Int) < (k : Int) := by omega
        clear hq
        go_wp2
        go_ret
        exact ⟨by rw [HQ.out]; rfl, (by (repeat (first | with_reducible exact Below.refl _ _ | with_reducible assumption | with_reducible apply bel_alloc | with_reducible apply bel_drew | with_reducible apply bel_drewN | ((with_reducible refine bel_set ?_ ?_); rotate_left; (simp <;> omega)) | (with_reducible refine bel_trans ?_ (by with_reducible assumption)))))⟩
set_option maxHeartbeats 1600000 in
theorem FoldsFlat_s (A : Option Addr) (n c : Nat) (xs : List C) (w : World) (hr : Rd w A (vC xs)) (hl : xs.length = n) (hn : n ≤ 1099511627776) :
    Calls Try.prog 17 #[.slice A n c] w (Ret w (.int .i64 (foldV xs))) := by
  have HL := Lib.hid hl
  cases hc : isConn xs with
  | false =>
    have HV : Hid (foldV xs = -1) := by show foldV xs = -1; unfold foldV; rw [hc]; rfl
    have HC := Lib.hid hc
    clear hc hl
    go_enter Try.func17, Try.ntmps17
    go_wp2_with (go_at_call 13; refine (FacesOf_s _ _ _ xs _ hr HL.out (by omega)).mono ?_; rw [HC.out]; rintro e w1 ⟨B, m, cap, rfl, ho, hb1⟩; clear ho)
    go_ret
    exact ⟨by rw [HV.out]; rfl, (by (repeat (first | with_reducible exact Below.refl _ _ | with_reducible assumption | with_reducible apply bel_alloc | with_reducible apply bel_drew | with_reducible apply bel_drewN | ((with_reducible refine bel_set ?_ ?_); rotate_left; (simp <;> omega)) | (with_reducible refine bel_trans ?_ (by with_reducible assumption)))))⟩
  | true =>
    have HV : Hid (foldV xs = foldsTo (faces xs) (faces xs).length) := by show foldV xs = _; unfold foldV; rw [hc]; rfl
    have hfl := faces_len8 hc
    have HC := Lib.hid hc
    clear hc hl
    go_enter Try.func17, Try.ntmps17
    go_wp2_with fail
    refine (FacesOf_s _ _ _ xs _ hr HL.out (by omega)).mono ?_
    rw [HC.out]
    rintro e w1 ⟨B, m, cap, rfl, ho, hb1⟩
    generalize faces xs = l at HV ho hfl
    have hlm : l.length = m := by have := own_len ho; rw [vI_length] at this; omega
    rw [hlm] at HV hfl
    have HLM := Lib.hid hlm
    have hrd := Rd.of_own ho
    clear hlm ho
    go_wp2_with fail
    go_loopw [6, 5] (fun e7 e5 wr => ∃ k q : Nat, k ≤ m ∧ q ≤ k * 8 ∧ e7 = .int .i64 k ∧ e5 = .int .i64 q ∧ q = foldsTo l k ∧ Below w1.heap.size w1 wr) (fun e7 _ _ => m - (intOf e7).toNat)
    case atStart => exact ⟨0, 0, by omega, by omega, rfl, rfl, rfl, (by (repeat (first | with_reducible exact Below.refl _ _ | with_reducible assumption | with_reducible apply bel_alloc | with_reducible apply bel_drew | with_reducible apply bel_drewN | ((with_reducible refine bel_set ?_ ?_); rotate_left; (simp <;> omega)) | (with_reducible refine bel_trans ?_ (by with_reducible assumption)))))⟩
    case round =>
      obtain ⟨k, q, hk, hq8, rfl, rfl, hq, hb⟩ := hrel
      by_cases hlt : k < m
      · have hkl : k < l.length := by rw [HLM.out]; exact hlt
        have hk0 : (0 : Int) ≤ (k : Int) := by omega
        have hk1 : (k : Int) < (m : Int) := by omega
        have HQ := Lib.hid hq
        have HF : Hid (foldsTo l (k + 1) = foldsTo l k + (l.take k).countP fun d => l[k] == d) := by show foldsTo l (k + 1) = _; simp only [foldsTo, List.getD_eq_getElem?_getD, List.getElem?_eq_getElem hkl, Option.getD_some]
        have hkx : k ≤ 8 := by omega
        clear hq
        go_wp2_with fail
        go_loopw [7, 5] (fun e7 e5 wr => ∃ j r : Nat, j ≤ k ∧ r ≤ q + j ∧ e7 = .int .i64 j ∧ e5 = .int .i64 r ∧ r = q + (l.take j).countP (fun d => l[k] == d) ∧ Below w1.heap.size w1 wr) (fun e7 _ _ => k - (intOf e7).toNat)
        case atStart => exact ⟨0, q, by omega, by omega, rfl, rfl, by simp, hb⟩
        case round =>
          clear hb
          obtain ⟨j, r, hj, hr8, rfl, rfl, hrq, hb⟩ := hrel
          by_cases hjk : j < k
          · have hjl : j < l.length := by omega
            have hj0 : (0 : Int) ≤ (j : Int) := by omega
            have hj1 : (j : Int) < (k : Int) := by omega
            have hj2 : (j : Int) < (m : Int) := by omega
            obtain ⟨g, off, rfl, hg, c1⟩ := RdI.at_ (hrd.below hb) hkl
            obtain ⟨g', off', he, _, c2⟩ := RdI.at_ (hrd.below hb) hjl
            simp only [Option.some.injEq, Addr.mk.injEq, and_true] at he
            obtain ⟨rfl, rfl⟩ := he
            have hct := countP_take (fun d => l[k] == d) l j hjl
            obtain ⟨x, hx⟩ : ∃ x, l[k] = x := ⟨_, rfl⟩
            obtain ⟨y, hy⟩ : ∃ y, l[j] = y := ⟨_, rfl⟩
            rw [hx] at c1
            rw [hy] at c2 hct
            by_cases hxy : x = y
            · have hN : r + 1 = q + (l.take (j + 1)).countP (fun d => l[k] == d) := by rw [hct, hx, hxy]; simp; rw [hrq, hx, hxy]; omega
              have HN := Lib.hid hN
              subst hxy
              have e1 : (x == x) = true := by simp
              clear hN hct hx hy hrq
              go_wp2_with fail
              (refine wp_region_below (by kernel_rfl) (by kernel_rfl) ?_; (repeat (first | go_big_quiet_skip | (refine quietV (v := ?_) (by rfl) rfl (fun w' hbw => ?_) ?_; rotate_left; ((try dsimp only at hbw); have hbc := (bcell hbw).1; have hbf := (bcell hbw).2; go_simp; first | done | with_reducible rfl | fail); simp only [List.setIfInBounds_toArray, List.set_cons_zero, List.set_cons_succ]))); refine wpQuiet_nil ?_; intro wq hq)
              go_wp2_with fail
              exact ⟨⟨j + 1, r + 1, by omega, by omega, by go_num, by go_num, HN.out, (by (repeat (first | with_reducible exact Below.refl _ _ | with_reducible assumption | with_reducible apply bel_alloc | with_reducible apply bel_drew | with_reducible apply bel_drewN | ((with_reducible refine bel_set ?_ ?_); rotate_left; (simp <;> omega)) | (with_reducible refine bel_trans ?_ (by with_reducible assumption)))))⟩, by simp [intOf]; omega⟩
            · have e1 : (x == y) = false := by simpa using hxy
              have hN : r = q + (l.take (j + 1)).countP (fun d => l[k] == d) := by rw [hct, hx, e1]; simp; rw [hrq, hx]
              have HN := Lib.hid hN
              clear hN hct hx hy hrq hxy
              go_wp2_with fail
              (refine wp_region_below (by kernel_rfl) (by kernel_rfl) ?_; (repeat (first | go_big_quiet_skip | (refine quietV (v := ?_) (by rfl) rfl (fun w' hbw => ?_) ?_; rotate_left; ((try dsimp only at hbw); have hbc := (bcell hbw).1; have hbf := (bcell hbw).2; go_simp; first | done | with_reducible rfl | fail); simp only [List.setIfInBounds_toArray, List.set_cons_zero, List.set_cons_succ]))); refine wpQuiet_nil ?_; intro wq hq)
              go_wp2_with fail
              exact ⟨⟨j + 1, r, by omega, by omega, by go_num, rfl, HN.out, (by (repeat (first | with_reducible exact Below.refl _ _ | with_reducible assumption | with_reducible apply bel_alloc | with_reducible apply bel_drew | with_reducible apply bel_drewN | ((with_reducible refine bel_set ?_ ?_); rotate_left; (simp <;> omega)) | (with_reducible refine bel_trans ?_ (by with_reducible assumption)))))⟩, by simp [intOf]; omega⟩
          · have hjk2 : j = k := by omega
            subst hjk2
            have hN : r = foldsTo l (j + 1) := by rw [HF.out, ← HQ.out]; exact hrq
            have HN := Lib.hid hN
            have hj1 : ¬ (j : Int) < (j : Int) := by omega
            clear hN hrq
            go_wp2_with fail
            exact ⟨⟨j + 1, r, by omega, by omega, by go_num, rfl, HN.out, hb⟩, by simp [intOf]; omega⟩
      · have hkm : k = m := by omega
        subst hkm
        have HQ : Hid (foldV xs = (q : Int)) := by rw [hq]; exact HV.out
        have hlt2 : ¬ (k : Int) < (k : Int) := by omega
        clear hq
        go_wp2
        go_ret
        exact ⟨by rw [HQ.out]; rfl, (by (repeat (first | with_reducible exact Below.refl _ _ | with_reducible assumption | with_reducible apply bel_alloc | with_reducible apply bel_drew | with_reducible apply bel_drewN | ((with_reducible refine bel_set ?_ ?_); rotate_left; (simp <;> omega)) | (with_reducible refine bel_trans ?_ (by with_reducible assumption)))))⟩
end Go.Proofs.Ytagkopemcabkpaa

/- What the law on nets needs: nets stay nets when moved and turned, and cover each face once. No program is in sight. -/
namespace Go.Proofs.Ytagkopemcabkpaa
open Go.RowKit
set_option linter.unusedVariables false
/-- The faces, and no question whether the shape is connected. -/
def facK (s : List C) : List Int := s.map (face0 (facesL s))
def netOf (s : List C) (l : List Int) : Bool := s.length == 6 && (inner s 6 == 5 && (putAll l).length == 6)
def goodOf (s : List C) (l : List Int) : Bool := (oppAll l 6).length == 3 && (foldsTo l 6 == 0 && sqV s == 0)
theorem faces_K {s : List C} (h : isConn s = true) : faces s = facK s := by unfold faces facK; rw [if_pos h]
theorem facK_len (s : List C) : (facK s).length = s.length := by simp [facK]
theorem net_K {s : List C} (h : isConn s = true) : netV s = netOf s (facK s) := by
  unfold netV isTree facV netOf
  rw [h, faces_K h, ord_eq]
  by_cases h6 : s.length = 6
  · rw [h6]
    simp only [beq_self_eq_true, Bool.true_and, if_true]
    rw [Bool.eq_iff_iff]
    simp only [Bool.and_eq_true, beq_iff_eq]
    omega
  · have : (s.length == 6) = false := by rw [beq_eq_false_iff_ne]; exact h6
    rw [this]; simp
/-- Moved. -/
def tr (x y : Int) (c : C) : C := (c.1 + x, c.2 + y)
theorem mv_tr (s : List C) (x y : Int) : mv s x y = s.map (tr x y) := rfl
theorem tr_inj {x y : Int} {a b : C} (h : tr x y a = tr x y b) : a = b := by
  simp only [tr, Prod.mk.injEq] at h
  exact Prod.ext (by omega) (by omega)
theorem hasC_tr (s : List C) (x y : Int) (c : C) : hasC (s.map (tr x y)) (tr x y c).1 (tr x y c).2 = hasC s c.1 c.2 := by
  rw [Bool.eq_iff_iff, hasC_iff2, hasC_iff2, List.mem_map]
  constructor
  · rintro ⟨a, ha, h⟩; rw [← tr_inj h]; exact ha
  · intro h; exact ⟨c, h, rfl⟩
theorem mvF_tr (x y : Int) (c : C) (d : Nat) : mvF (tr x y c) d = tr x y (mvF c d) := by
  match d with
  | 0 => exact Prod.ext (by simp only [mvF, tr]; omega) (by simp only [mvF, tr])
  | 1 => exact Prod.ext (by simp only [mvF, tr]) (by simp only [mvF, tr]; omega)
  | 2 => exact Prod.ext (by simp only [mvF, tr]; omega) (by simp only [mvF, tr])
  | _ + 3 => exact Prod.ext (by simp only [mvF, tr]) (by simp only [mvF, tr]; omega)
def trL (x y : Int) (L : L2) : L2 := L.map fun p => (tr x y p.1, p.2)
theorem trL_len (x y : Int) (L : L2) : (trL x y L).length = L.length := by simp [trL]
theorem cs_trL (x y : Int) (L : L2) : cs (trL x y L) = (cs L).map (tr x y) := by simp [cs, trL]
theorem trL_get (x y : Int) {L : L2} {i : Nat} (h : i < L.length) : (trL x y L).getD i p0 = (tr x y (L.getD i p0).1, (L.getD i p0).2) := by
  rw [List.getD_eq_getElem?_getD, List.getD_eq_getElem?_getD, List.getElem?_eq_getElem (by rw [trL_len]; exact h), List.getElem?_eq_getElem h]
  simp [trL]
theorem stepF_tr (s : List C) (L : L2) (i d : Nat) (x y : Int) : stepF (s.map (tr x y)) (trL x y L) i d = trL x y (stepF s L i d) := by
  by_cases hi : i < L.length
  · have e : newD (s.map (tr x y)) (trL x y L) (mvF ((trL x y L).getD i p0).1 d) = newD s L (mvF (L.getD i p0).1 d) := by
      unfold newD
      rw [trL_get x y hi, mvF_tr, hasC_tr, cs_trL, hasC_tr]
    unfold stepF
    rw [e, trL_len]
    by_cases hc : i < L.length ∧ newD s L (mvF (L.getD i p0).1 d) = true
    · rw [if_pos hc, if_pos hc, trL_get x y hi, mvF_tr]
      simp [trL]
    · rw [if_neg hc, if_neg hc]
  · rw [stepF_stop (by rw [trL_len]; omega), stepF_stop (by omega)]
theorem seqF_tr {s : List C} (hs : 0 < s.length) (x y : Int) : ∀ k, seqF (s.map (tr x y)) k = trL x y (seqF s k)
  | 0 => by
    have e : s0 (s.map (tr x y)) = tr x y (s0 s) := by
      unfold s0
      rw [List.getD_eq_getElem?_getD, List.getD_eq_getElem?_getD, List.getElem?_eq_getElem (by rw [List.length_map]; exact hs), List.getElem?_eq_getElem hs]
      simp
    simp [seqF, trL, e]
  | k + 1 => by
    show stepF _ (seqF (s.map (tr x y)) k) _ _ = _
    rw [seqF_tr hs x y k, stepF_tr]
    rfl
theorem face0_tr (x y : Int) (L : L2) (c : C) : face0 (trL x y L) (tr x y c) = face0 L c := by
  unfold face0 lookF
  have e : ((trL x y L).find? fun p => p.1 == tr x y c).map (·.2) = (L.find? fun p => p.1 == c).map (·.2) := by
    unfold trL
    induction L with
    | nil => rfl
    | cons a t ih =>
      rw [List.map_cons, List.find?_cons, List.find?_cons]
      have e2 : (tr x y a.1 == tr x y c) = (a.1 == c) := by
        rw [Bool.eq_iff_iff, beq_iff_eq, beq_iff_eq]
        exact ⟨fun h => tr_inj h, fun h => by rw [h]⟩
      simp only [e2]
      cases a.1 == c with
      | true => rfl
      | false => exact ih
  rw [e]
theorem facK_tr {s : List C} (hs : 0 < s.length) (x y : Int) : facK (s.map (tr x y)) = facK s := by
  unfold facK facesL
  rw [List.length_map, seqF_tr hs, List.map_map]
  refine List.map_congr_left fun c _ => ?_
  exact face0_tr x y _ c
theorem near_tr (x y : Int) (a b : C) : near (tr x y a) (tr x y b) = near a b := by
  unfold near tr
  simp only [decide_eq_decide]
  omega
theorem inner_tr (s : List C) (x y : Int) : ∀ k, k ≤ s.length → inner (s.map (tr x y)) k = inner s k
  | 0, _ => rfl
  | k + 1, hk => by
    show inner (s.map (tr x y)) k + _ = inner s k + _
    rw [inner_tr s x y k (by omega), ← List.map_take, List.countP_map]
    congr 1
    refine List.countP_congr fun d _ => ?_
    have e : (s.map (tr x y)).getD k (0, 0) = tr x y (s.getD k (0, 0)) := by
      rw [List.getD_eq_getElem?_getD, List.getD_eq_getElem?_getD, List.getElem?_eq_getElem (by rw [List.length_map]; omega), List.getElem?_eq_getElem (by omega : k < s.length)]
      simp
    rw [e, Function.comp, near_tr]
theorem sqV_tr (s : List C) (x y : Int) : sqV (s.map (tr x y)) = sqV s := by
  unfold sqV
  rw [List.countP_map]
  refine List.countP_congr fun c _ => ?_
  have e : ∀ a b : Int, hasC (s.map (tr x y)) ((tr x y c).1 + a) ((tr x y c).2 + b) = hasC s (c.1 + a) (c.2 + b) := by
    intro a b
    rw [← hasC_tr s x y (c.1 + a, c.2 + b)]
    unfold tr
    simp only
    rw [show c.1 + x + a = c.1 + a + x by omega, show c.2 + y + b = c.2 + b + y by omega]
  have h1 := e 1 0
  have h2 := e 0 1
  have h3 := e 1 1
  rw [Int.add_zero, Int.add_zero] at h1 h2
  simp only [Function.comp, sqC]
  rw [h1, h2, h3]
/-- For the kernel: the search with its list at hand. -/
def frcQ {β : Type} (l : List Int) (k : List Int → β) : β := match l with
  | [] => k []
  | a :: t => frcI a fun a' => frcQ t fun t' => k (a' :: t')
def frcP {β : Type} (L : L2) (k : L2 → β) : β := match L with
  | [] => k []
  | a :: t => frcI a.1.1 fun x => frcI a.1.2 fun y => frcQ a.2 fun f => frcP t fun t' => k (((x, y), f) :: t')
theorem frcQ_eq {β : Type} : ∀ (l : List Int) (k : List Int → β), frcQ l k = k l
  | [], k => rfl
  | a :: t, k => by unfold frcQ; rw [frcI_eq, frcQ_eq t]
theorem frcP_eq {β : Type} : ∀ (l : L2) (k : L2 → β), frcP l k = k l
  | [], k => rfl
  | a :: t, k => by unfold frcP; rw [frcI_eq, frcI_eq, frcQ_eq, frcP_eq t]
def seqE (s : List C) : Nat → L2
  | 0 => [(s0 s, id6)]
  | k + 1 => frcP (seqE s k) fun L => stepF s L (k / 4) (k % 4)
theorem seqE_eq (s : List C) : ∀ k, seqE s k = seqF s k
  | 0 => rfl
  | k + 1 => by unfold seqE; rw [frcP_eq, seqE_eq s k]; rfl
def withK {β : Type} (t : List C) (g : List Int → β) : β := frcP (seqE t (4 * t.length)) fun L => frcQ (t.map (face0 L)) g
theorem withK_eq {β : Type} (t : List C) (g : List Int → β) : withK t g = g (facK t) := by
  unfold withK
  rw [frcP_eq, frcQ_eq, seqE_eq]
  rfl
def netQ (t : List C) : Bool := if inner t 6 == 5 then withK t (netOf t) else false
theorem netQ_eq (t : List C) : netQ t = netOf t (facK t) := by
  unfold netQ
  split
  · rw [withK_eq]
  · next h => unfold netOf; rw [Bool.eq_false_iff.2 h]; simp
def chkN (s : List C) : Bool := frcS s fun t => if netQ t then withK t (goodOf t) && (frcS (turnV t 1) netQ && frcS (turnV t 4) netQ) else true
theorem chkN_all {s : List C} (h : chkN s = true) (hn : netOf s (facK s) = true) :
    goodOf s (facK s) = true ∧ netOf (turnV s 1) (facK (turnV s 1)) = true ∧ netOf (turnV s 4) (facK (turnV s 4)) = true := by
  unfold chkN at h
  rw [← netQ_eq s] at hn
  rw [frcS_eq, hn, if_pos rfl, frcS_eq, frcS_eq, withK_eq, netQ_eq, netQ_eq, Bool.and_eq_true, Bool.and_eq_true] at h
  exact h
/-- Motions. -/
theorem rot_near (a b : C) : ∀ k, near (rotC k a) (rotC k b) = near a b
  | 0 => rfl
  | k + 1 => by
    have e : ∀ c, rotC (k + 1) c = (-(rotC k c).2, (rotC k c).1) := fun c => rfl
    rw [e, e, ← rot_near a b k]
    unfold near
    rw [decide_eq_decide]
    omega
theorem rot_inj {a b : C} : ∀ k, rotC k a = rotC k b → a = b
  | 0, h => h
  | k + 1, h => by
    refine rot_inj k ?_
    simp only [rotC, Prod.mk.injEq] at h
    exact Prod.ext (by omega) (by omega)
theorem rot_add (a v : C) : ∀ k, rotC k (a.1 + v.1, a.2 + v.2) = ((rotC k a).1 + (rotC k v).1, (rotC k a).2 + (rotC k v).2)
  | 0 => rfl
  | k + 1 => by
    simp only [rotC]
    rw [rot_add a v k]
    exact Prod.ext (by simp only; omega) rfl
theorem rot_diff {a b : C} (h : -7 ≤ a.1 - b.1 ∧ a.1 - b.1 ≤ 7 ∧ -7 ≤ a.2 - b.2 ∧ a.2 - b.2 ≤ 7) : ∀ k, -7 ≤ (rotC k a).1 - (rotC k b).1 ∧ (rotC k a).1 - (rotC k b).1 ≤ 7 ∧ -7 ≤ (rotC k a).2 - (rotC k b).2 ∧ (rotC k a).2 - (rotC k b).2 ≤ 7
  | 0 => h
  | k + 1 => by
    have := rot_diff h k
    simp only [rotC]
    omega
theorem mot_near (m : Nat) (a b : C) : near (motC m a) (motC m b) = near a b := by
  unfold motC
  rw [rot_near]
  unfold flipC
  split
  · unfold near
    rw [decide_eq_decide]
    simp only
    omega
  · rfl
theorem mot_inj (m : Nat) {a b : C} (h : motC m a = motC m b) : a = b := by
  have h1 := rot_inj _ h
  unfold flipC at h1
  split at h1
  · simp only [Prod.mk.injEq] at h1
    exact Prod.ext (by omega) (by omega)
  · exact h1
theorem mot_add (m : Nat) (a v : C) : motC m (a.1 + v.1, a.2 + v.2) = ((motC m a).1 + (motC m v).1, (motC m a).2 + (motC m v).2) := by
  unfold motC
  rw [← rot_add]
  congr 1
  unfold flipC
  split
  · exact Prod.ext (by simp only; omega) rfl
  · rfl
theorem mot_diff (m : Nat) {a b : C} (ha : onB a = true) (hb : onB b = true) : -7 ≤ (motC m a).1 - (motC m b).1 ∧ (motC m a).1 - (motC m b).1 ≤ 7 ∧ -7 ≤ (motC m a).2 - (motC m b).2 ∧ (motC m a).2 - (motC m b).2 ≤ 7 := by
  simp only [onB, Bool.and_eq_true, decide_eq_true_eq] at ha hb
  unfold motC
  refine rot_diff ?_ _
  unfold flipC
  split <;> (try simp only) <;> omega
theorem mot_nodup (m : Nat) {s : List C} (h : s.Nodup) : (s.map (motC m)).Nodup := by
  unfold List.Nodup at h ⊢
  rw [List.pairwise_map]
  exact h.imp fun {a b} hab e => hab (mot_inj m e)
theorem turn_shape {s : List C} (hs : isShape s = true) (m : Nat) : isShape (turnV s m) = true := by
  have hl := shape_len hs
  refine corn_shape7 (mot_nodup m (shape_nodup hs)) (fun a ha b hb => ?_) (by rw [List.length_map]; omega) (by rw [List.length_map]; omega)
  obtain ⟨c, hc, rfl⟩ := List.mem_map.1 ha
  obtain ⟨d, hd, rfl⟩ := List.mem_map.1 hb
  have := mot_diff m (shape_onB hs c hc) (shape_onB hs d hd)
  omega
theorem turn_lenE {s : List C} (hs : isShape s = true) (m : Nat) : (turnV s m).length = s.length := by
  unfold turnV
  rw [cornI_len_nd (mot_nodup m (shape_nodup hs)), List.length_map]
theorem turn_conn {s : List C} (hs : isShape s = true) (m : Nat) : isConn (turnV s m) = isConn s := by
  have hl := shape_len hs
  have h1 := turn_lenE hs m
  unfold isConn
  rw [turn_shape hs m, hs, Bool.true_and, Bool.true_and]
  obtain ⟨u, hu⟩ : ∃ u, minC (·.1) (s.map (motC m)) = u := ⟨_, rfl⟩
  obtain ⟨v, hv⟩ : ∃ v, minC (·.2) (s.map (motC m)) = v := ⟨_, rfl⟩
  refine conn_map (fun c => tr (-u) (-v) (motC m c)) (fun a b => by rw [near_tr, mot_near]) (fun a b h => mot_inj m (tr_inj h)) (fun c => ?_) (by omega) (by omega)
  unfold turnV
  rw [cornI_mem, hu, hv, List.mem_map]
  constructor
  · rintro ⟨b, hb, e⟩
    exact ⟨b, hb, by simp only [tr, e]; exact Prod.ext (by simp only; omega) (by simp only; omega)⟩
  · rintro ⟨b, hb, rfl⟩
    exact ⟨b, hb, Prod.ext (by simp only [tr]; omega) (by simp only [tr]; omega)⟩
theorem turn_corn {s : List C} (hs : isShape s = true) (m : Nat) : turnV (cornI s) m = turnV s m := by
  have hl := shape_len hs
  have hcl := cornI_len_nd (shape_nodup hs)
  obtain ⟨u, hu⟩ : ∃ u, minC (·.1) s = u := ⟨_, rfl⟩
  obtain ⟨v, hv⟩ : ∃ v, minC (·.2) s = v := ⟨_, rfl⟩
  unfold turnV
  refine (cornI_same (by rw [List.length_map]; omega) (by rw [List.length_map]; omega) (motC m (u, v)).1 (motC m (u, v)).2 fun c => ?_).symm
  rw [List.mem_map, List.mem_map]
  constructor
  · rintro ⟨b, hb, rfl⟩
    refine ⟨(b.1 - u, b.2 - v), (cornI_mem s _).2 ?_, ?_⟩
    · rw [hu, hv]
      have e : ((b.1 - u + u, b.2 - v + v) : C) = b := Prod.ext (by simp only; omega) (by simp only; omega)
      rw [e]; exact hb
    · have e := mot_add m (b.1 - u, b.2 - v) (u, v)
      have e2 : ((b.1 - u + u, b.2 - v + v) : C) = b := Prod.ext (by simp only; omega) (by simp only; omega)
      simp only at e
      rw [e2] at e
      rw [e]
      exact Prod.ext (by simp only; omega) (by simp only; omega)
  · rintro ⟨a, ha, e⟩
    have h2 := (cornI_mem s a).1 ha
    rw [hu, hv] at h2
    refine ⟨_, h2, ?_⟩
    have e3 := mot_add m a (u, v)
    simp only at e3
    rw [e3, e]
    exact Prod.ext (by simp only; omega) (by simp only; omega)
theorem growN_from (F : List (List C)) : ∀ k, k ≤ F.length → ∀ x, x ∈ growN F k → ∃ s ∈ F, x ∈ extV s
  | 0, _, x, h => by simp [growN] at h
  | k + 1, hk, x, h => by
    rw [growN_succ F k (by omega)] at h
    rcases ((foldlG_inc ltS_sto _ _ (growN_fine F k (by omega)).1).2 x).1 h with h | h
    · exact growN_from F k (by omega) x h
    · exact ⟨_, List.getElem_mem _, h⟩
def extsOk (s : List C) : Bool := frcS s fun t => (extL t [] (t.flatMap sidesV)).all chkN
set_option maxRecDepth 100000 in
theorem exts_0 : (((fixF 4).drop 0).take 8).all extsOk = true := by decide +kernel
set_option maxRecDepth 100000 in
theorem exts_1 : (((fixF 4).drop 8).take 8).all extsOk = true := by decide +kernel
set_option maxRecDepth 100000 in
theorem exts_2 : (((fixF 4).drop 16).take 8).all extsOk = true := by decide +kernel
set_option maxRecDepth 100000 in
theorem exts_3 : (((fixF 4).drop 24).take 8).all extsOk = true := by decide +kernel
set_option maxRecDepth 100000 in
theorem exts_4 : (((fixF 4).drop 32).take 8).all extsOk = true := by decide +kernel
set_option maxRecDepth 100000 in
theorem exts_5 : (((fixF 4).drop 40).take 8).all extsOk = true := by decide +kernel
set_option maxRecDepth 100000 in
theorem exts_6 : (((fixF 4).drop 48).take 8).all extsOk = true := by decide +kernel
set_option maxRecDepth 100000 in
theorem exts_7 : (((fixF 4).drop 56).take 8).all extsOk = true := by decide +kernel
theorem fix4_len : (fixF 4).length = 63 := by decide +kernel
theorem chunk_all {α : Type} {p : α → Bool} {l : List α} {n : Nat} (h1 : (l.take n).all p = true) (h2 : (l.drop n).all p = true) : l.all p = true := by
  rw [← List.take_append_drop n l, List.all_append, h1, h2]; rfl
theorem exts_all : (fixF 4).all extsOk = true := by
  have h := fix4_len
  have k0 := exts_0
  have k1 := exts_1
  have k2 := exts_2
  have k3 := exts_3
  have k4 := exts_4
  have k5 := exts_5
  have k6 := exts_6
  have k7 := exts_7
  generalize fixF 4 = F at *
  have d : ∀ n, (F.drop n).drop 8 = F.drop (n + 8) := fun n => by rw [List.drop_drop]
  have e8 : (F.drop 64).all extsOk = true := by rw [List.drop_of_length_le (by omega)]; rfl
  have e7 : (F.drop 56).all extsOk = true := chunk_all k7 (by rw [d]; exact e8)
  have e6 : (F.drop 48).all extsOk = true := chunk_all k6 (by rw [d]; exact e7)
  have e5 : (F.drop 40).all extsOk = true := chunk_all k5 (by rw [d]; exact e6)
  have e4 : (F.drop 32).all extsOk = true := chunk_all k4 (by rw [d]; exact e5)
  have e3 : (F.drop 24).all extsOk = true := chunk_all k3 (by rw [d]; exact e4)
  have e2 : (F.drop 16).all extsOk = true := chunk_all k2 (by rw [d]; exact e3)
  have e1 : (F.drop 8).all extsOk = true := chunk_all k1 (by rw [d]; exact e2)
  have e0 : (F.drop 0).all extsOk = true := chunk_all k0 (by rw [d]; exact e1)
  exact e0
theorem net_chk {s : List C} (h : isConn s = true) (h6 : s.length = 6) : chkN (cornI s) = true := by
  have h1 := conn_fix h
  rw [h6] at h1
  obtain ⟨r, hr, hx⟩ := growN_from _ _ (Nat.le_refl _) _ h1
  rw [← fixF_eq] at hr
  have h2 := exts_all
  rw [List.all_eq_true] at h2
  have h3 := h2 r hr
  unfold extsOk at h3
  rw [frcS_eq, extL_V, List.all_eq_true] at h3
  exact h3 _ hx
theorem corn_facK {s : List C} (h : isShape s = true) : facK (cornI s) = facK s ∧ inner (cornI s) s.length = inner s s.length ∧ sqV (cornI s) = sqV s := by
  have hl := shape_len h
  rw [cornI_shape h, mv_tr]
  exact ⟨facK_tr (by omega) _ _, inner_tr s _ _ s.length (Nat.le_refl _), sqV_tr s _ _⟩
theorem corn_netOf {s : List C} (h : isShape s = true) (h6 : s.length = 6) : netOf (cornI s) (facK (cornI s)) = netOf s (facK s) := by
  obtain ⟨h1, h2, h3⟩ := corn_facK h
  have hcl := cornI_len_nd (shape_nodup h)
  rw [h6] at h2
  unfold netOf
  rw [h1, h2, hcl]
theorem net_six {s : List C} (h : netV s = true) : isConn s = true ∧ s.length = 6 := by
  refine ⟨?_, ?_⟩
  · cases hc : isConn s with
    | true => rfl
    | false => rw [net_conn hc] at h; cases h
  · unfold netV at h
    simp only [Bool.and_eq_true, beq_iff_eq] at h
    exact h.1.1
theorem net_corn {s : List C} (hs : isShape s = true) : netV (cornI s) = netV s := by
  have e : cornI s = turnV s 0 := by
    have e2 : s.map (motC 0) = s := by
      conv => rhs; rw [← List.map_id s]
      exact List.map_congr_left fun c _ => rfl
    unfold turnV
    rw [e2]
  have hc := turn_conn hs 0
  rw [← e] at hc
  cases h : isConn s with
  | false => rw [h] at hc; rw [net_conn h, net_conn hc]
  | true =>
    rw [h] at hc
    rw [net_K h, net_K hc]
    by_cases h6 : s.length = 6
    · exact corn_netOf hs h6
    · have e1 : (s.length == 6) = false := by rw [beq_eq_false_iff_ne]; exact h6
      have e2 : ((cornI s).length == 6) = false := by rw [cornI_len_nd (shape_nodup hs)]; exact e1
      unfold netOf
      rw [e1, e2]; simp
theorem net_gen {s : List C} (hs : isShape s = true) (h : netV s = true) : netV (turnV s 1) = true ∧ netV (turnV s 4) = true := by
  obtain ⟨hc, h6⟩ := net_six h
  have hn := h
  rw [net_K hc, ← corn_netOf hs h6] at hn
  obtain ⟨_, h1, h4⟩ := chkN_all (net_chk hc h6) hn
  rw [turn_corn hs] at h1 h4
  rw [net_K ((turn_conn hs 1).trans hc), net_K ((turn_conn hs 4).trans hc)]
  exact ⟨h1, h4⟩
theorem turn_turn {s : List C} (hs : isShape s = true) (a b c : Nat) (h : ∀ x : C, motC b (motC a x) = motC c x) : turnV (turnV s a) b = turnV s c := by
  have hl := shape_len hs
  have hl2 := turn_lenE hs a
  obtain ⟨u, hu⟩ : ∃ u, minC (·.1) (s.map (motC a)) = u := ⟨_, rfl⟩
  obtain ⟨v, hv⟩ : ∃ v, minC (·.2) (s.map (motC a)) = v := ⟨_, rfl⟩
  have hin : ∀ x : C, x ∈ turnV s a ↔ ((x.1 + u, x.2 + v) : C) ∈ s.map (motC a) := fun x => by unfold turnV; rw [cornI_mem, hu, hv]
  generalize turnV s a = T at *
  unfold turnV
  refine (cornI_same (by rw [List.length_map]; omega) (by rw [List.length_map]; omega) (motC b (u, v)).1 (motC b (u, v)).2 fun x => ?_).symm
  rw [List.mem_map, List.mem_map]
  constructor
  · rintro ⟨d, hd, rfl⟩
    refine ⟨((motC a d).1 - u, (motC a d).2 - v), (hin _).2 ?_, ?_⟩
    · have e : (((motC a d).1 - u + u, (motC a d).2 - v + v) : C) = motC a d := Prod.ext (by simp only; omega) (by simp only; omega)
      rw [e]
      exact List.mem_map_of_mem hd
    · have e := mot_add b ((motC a d).1 - u, (motC a d).2 - v) (u, v)
      have e2 : (((motC a d).1 - u + u, (motC a d).2 - v + v) : C) = motC a d := Prod.ext (by simp only; omega) (by simp only; omega)
      simp only at e
      rw [e2, h] at e
      rw [e]
      exact Prod.ext (by simp only; omega) (by simp only; omega)
  · rintro ⟨t, ht, e⟩
    obtain ⟨d, hd, e2⟩ := List.mem_map.1 ((hin t).1 ht)
    refine ⟨d, hd, ?_⟩
    have e3 := mot_add b t (u, v)
    rw [← e2, h, e] at e3
    rw [e3]
    exact Prod.ext (by simp only; omega) (by simp only; omega)
theorem net_turn {s : List C} (hs : isShape s = true) (h : netV s = true) (m : Nat) (hm : m < 8) : netV (turnV s m) = true := by
  have r1 : ∀ a c, (∀ x : C, motC 1 (motC a x) = motC c x) → netV (turnV s a) = true → netV (turnV s c) = true := fun a c hx hn => by
    rw [← turn_turn hs a 1 c hx]
    exact (net_gen (turn_shape hs a) hn).1
  have h0 : netV (turnV s 0) = true := by
    have e := turn_turn hs 0 0 0 (fun x => rfl)
    have e2 : s.map (motC 0) = s := by
      conv => rhs; rw [← List.map_id s]
      exact List.map_congr_left fun c _ => rfl
    unfold turnV
    rw [e2, net_corn hs]
    exact h
  have h1 := r1 0 1 (fun x => rfl) h0
  have h2 := r1 1 2 (fun x => rfl) h1
  have h3 := r1 2 3 (fun x => rfl) h2
  have h4 := (net_gen hs h).2
  have h5 := r1 4 5 (fun x => rfl) h4
  have h6 := r1 5 6 (fun x => rfl) h5
  have h7 := r1 6 7 (fun x => rfl) h6
  rcases (by omega : m = 0 ∨ m = 1 ∨ m = 2 ∨ m = 3 ∨ m = 4 ∨ m = 5 ∨ m = 6 ∨ m = 7) with rfl | rfl | rfl | rfl | rfl | rfl | rfl | rfl <;> assumption
/-- The motion back. -/
theorem mot_back (m : Nat) (hm : m < 8) : ∃ k, k < 8 ∧ ∀ x : C, motC k (motC m x) = motC 0 x := by
  rcases (by omega : m = 0 ∨ m = 1 ∨ m = 2 ∨ m = 3 ∨ m = 4 ∨ m = 5 ∨ m = 6 ∨ m = 7) with rfl | rfl | rfl | rfl | rfl | rfl | rfl | rfl
  · exact ⟨0, by omega, fun x => rfl⟩
  · exact ⟨3, by omega, fun x => by simp [motC, rotC, flipC]⟩
  · exact ⟨2, by omega, fun x => by simp [motC, rotC, flipC]⟩
  · exact ⟨1, by omega, fun x => by simp [motC, rotC, flipC]⟩
  · exact ⟨4, by omega, fun x => by simp [motC, rotC, flipC]⟩
  · exact ⟨5, by omega, fun x => by simp [motC, rotC, flipC]⟩
  · exact ⟨6, by omega, fun x => by simp [motC, rotC, flipC]⟩
  · exact ⟨7, by omega, fun x => by simp [motC, rotC, flipC]⟩
/-- A turned net is a net, and no other shape becomes one. -/
theorem turn_net {s : List C} (hs : isShape s = true) (m : Nat) (hm : m < 8) : netV (turnV s m) = netV s := by
  rw [Bool.eq_iff_iff]
  constructor
  · intro h
    obtain ⟨k, hk, hx⟩ := mot_back m hm
    have h1 := net_turn (turn_shape hs m) h k hk
    rw [turn_turn hs m k 0 hx] at h1
    have e2 : s.map (motC 0) = s := by
      conv => rhs; rw [← List.map_id s]
      exact List.map_congr_left fun c _ => rfl
    unfold turnV at h1
    rwa [e2, net_corn hs] at h1
  · intro h
    exact net_turn hs h m hm
/-- A net: three pairs of faces, none folds flat, no square. -/
theorem net_good {s : List C} (h : netV s = true) : (oppV s).length = 3 ∧ foldV s = 0 ∧ sqV s = 0 := by
  obtain ⟨hc, h6⟩ := net_six h
  have hs := conn_shape hc
  have hn := h
  rw [net_K hc, ← corn_netOf hs h6] at hn
  have hg := (chkN_all (net_chk hc h6) hn).1
  obtain ⟨h1, h2, h3⟩ := corn_facK hs
  unfold goodOf at hg
  rw [h1, h3] at hg
  simp only [Bool.and_eq_true, beq_iff_eq] at hg
  have hl : (facK s).length = 6 := by rw [facK_len, h6]
  unfold oppV foldV
  rw [h, hc, faces_K hc, hl]
  simp only [if_true]
  exact ⟨hg.1, by rw [hg.2.1]; rfl, hg.2.2⟩
end Go.Proofs.Ytagkopemcabkpaa

/- append at bytes, inside a region that draws its order too; bytes made a string. -/
namespace Go.Proofs.Ytagkopemcabkpaa
open Go.RowKit
set_option linter.unusedVariables false
theorem infoB : (Try.prog.info? 5).map (fun i => (i.zero, i.size, i.bytes)) = some (some (.int .u8 0), 1, 1) := by kernel_rfl
section
variable (w : World) {ops : Array Oper} {rest : List Oper} {o : Oper} {a : Act} {Q : Exit → Act → World → Prop}
theorem wpB (s x : Operand) {K : Act → World → Prop} (ho : o.op = .call { callee := .builtin .append, args := #[s, x], argTypes := #[22, 22] })
    (base : Nat) (A : Option Addr) (n c : Nat) (l : List UInt8) (hs : a.eval s = .slice A n c) (hown : w.ownsRow base 5 1 (.slice A n c) n (vB l))
    (A2 : Option Addr) (m c2 : Nat) (l2 : List UInt8) (hx : a.eval x = .slice A2 m c2) (hr : Rd w A2 (vB l2)) (hl : l2.length = m) (hb : n + m ≤ 1099511627776) (hbase : base ≤ w.heap.size)
    (h : ∀ A' c' w', w'.ownsRow base 5 1 (.slice A' (n + m) c') (n + m) (vB (l ++ l2)) → w.grownBy w' (ob A) → (ob A' = ob A ∨ ob A' = some w.heap.size) → K (a.put o.dst (.slice A' (n + m) c')) w') :
    o.wp Try.prog a w K Q := by
  obtain ⟨i0, hi, hz0, hz1, hz2⟩ := info_parts infoB
  refine wp_app w s x _ ho base _ i0 _ 1 1 Try.underlying22 hi hz0 hz1 hz2 rfl (by omega) A n c _ hs hown A2 m c2 _ hx hr (by rw [vB_length, hl]; omega) (vB_one _) (by unfold maxLen; omega) (by omega) hbase ?_
  intro A' c' w' h1
  rw [← vB_append] at h1
  exact h A' c' w' h1
theorem app_B (hgd : o.guard = none) (s x : Operand) (ho : o.op = .call { callee := .builtin .append, args := #[s, x], argTypes := #[22, 22] })
    (base : Nat) (A : Option Addr) (n c : Nat) (l : List UInt8) (hs : a.eval s = .slice A n c) (hown : w.ownsRow base 5 1 (.slice A n c) n (vB l))
    (A2 : Option Addr) (m c2 : Nat) (l2 : List UInt8) (hx : a.eval x = .slice A2 m c2) (hr : Rd w A2 (vB l2)) (hl : l2.length = m) (hb : n + m ≤ 1099511627776) (hbase : base ≤ w.heap.size)
    (h : ∀ A' c' w', w'.ownsRow base 5 1 (.slice A' (n + m) c') (n + m) (vB (l ++ l2)) → w.grownBy w' (ob A) → (ob A' = ob A ∨ ob A' = some w.heap.size) → wpList Try.prog ops Q rest (a.put o.dst (.slice A' (n + m) c')) w') :
    wpList Try.prog ops Q (o :: rest) a w :=
  wpList_plain hgd fun _ hK => wpB w s x ho base A n c l hs hown A2 m c2 l2 hx hr hl hb hbase fun A' c' w' h1 h2 h3 => hK _ _ (h A' c' w' h1 h2 h3)
theorem step_B {K : Act → World → Prop} {E : Prop} (hgd : o.guard = none) (s x : Operand) (ho : o.op = .call { callee := .builtin .append, args := #[s, x], argTypes := #[22, 22] })
    (base : Nat) (A : Option Addr) (n c : Nat) (l : List UInt8) (hs : a.eval s = .slice A n c) (hown : w.ownsRow base 5 1 (.slice A n c) n (vB l))
    (A2 : Option Addr) (m c2 : Nat) (l2 : List UInt8) (hx : a.eval x = .slice A2 m c2) (hr : Rd w A2 (vB l2)) (hl : l2.length = m) (hb : n + m ≤ 1099511627776) (hbase : base ≤ w.heap.size)
    (h : ∀ A' c' w', w'.ownsRow base 5 1 (.slice A' (n + m) c') (n + m) (vB (l ++ l2)) → w.grownBy w' (ob A) → (ob A' = ob A ∨ ob A' = some w.heap.size) → K (a.put o.dst (.slice A' (n + m) c')) w') :
    if Region.wanted o (yielded ops a.tmps) = true then Oper.wp Try.prog o a w K Q else E := by
  have hw : Region.wanted o (yielded ops a.tmps) = true := by simp [Region.wanted, hgd]
  rw [if_pos hw]
  exact wpB w s x ho base A n c l hs hown A2 m c2 l2 hx hr hl hb hbase h
end
theorem rd_newB (w : World) (t : TypeId) (b : UInt8) : Rd (w.alloc (.cells #[.int .u8 b.toNat] t)) (some ⟨w.heap.size, 0, none⟩) (vB [b]) := rd_new w t _
/-- Bytes made a string. -/
theorem conv_B (w : World) {A : Option Addr} {n c : Nat} {l : List UInt8} (hr : Rd w A (vB l)) (hl : l.length = n) :
    (convert 22 9 (.slice A n c)).run Try.prog w = .ok (.string ⟨l.toArray⟩) w := by
  subst hl
  have e : strOfNums (l.map fun b => (b.toNat : Int)) = ⟨l.toArray⟩ := by
    unfold strOfNums
    congr 2
    rw [List.map_map]
    conv => rhs; rw [← List.map_id l]
    apply List.map_congr_left
    intro b _
    simp
  rcases hr with h | ⟨g, off, rfl, h⟩
  · have h0 : l = [] := by
      have := congrArg List.length h
      rw [vB_length] at this
      exact List.eq_nil_of_length_eq_zero (by simpa using this)
    subst h0
    cases A with
    | none => exact run_convert_bytes_nil w _ _ Try.underlying22 Try.underlying5 _ _ _ Try.underlying9
    | some a =>
      rw [List.length_nil, run_convert_bytes_string w _ _ _ _ _ c Try.underlying22 Try.underlying5 Try.underlying9, run_bytesToString w a 0 c [] (by simp [loadCells, loadCellsFrom])]
      rfl
  · rw [← e]
    refine run_convert_bytes_arg w _ _ Try.underlying22 Try.underlying5 g off _ c _ (by simp) (fun i hi => ?_) _ Try.underlying9
    refine h i _ ?_
    simp [vB, List.getElem?_eq_getElem hi, List.getD_eq_getElem?_getD]
end Go.Proofs.Ytagkopemcabkpaa

/- Regions, masks and motions of a grid: plain functions. No program is in sight. -/
namespace Go.Proofs.Ytagkopemcabkpaa
open Go.RowKit
set_option linter.unusedVariables false
/-- A region that is right. -/
def isReg (W : Int) (rows : List Int) : Bool :=
  ((decide (1 ≤ W) && decide (W ≤ 6)) && (decide (1 ≤ (rows.length : Int)) && decide ((rows.length : Int) ≤ 6))) && rows.all (fun x => decide (0 ≤ x) && decide (x < 2 ^ W.toNat))
theorem isReg_yes {W : Int} {rows : List Int} (h : isReg W rows = true) :
    ∃ n : Nat, W = (n : Int) ∧ 1 ≤ n ∧ n ≤ 6 ∧ 1 ≤ rows.length ∧ rows.length ≤ 6 ∧ ∀ k (hk : k < rows.length), ∃ q : Nat, rows[k] = (q : Int) ∧ q < 2 ^ n := by
  unfold isReg at h
  simp only [Bool.and_eq_true, decide_eq_true_eq, List.all_eq_true] at h
  obtain ⟨⟨⟨h1, h2⟩, h3, h4⟩, h5⟩ := h
  refine ⟨W.toNat, by omega, by omega, by omega, by omega, by omega, fun k hk => ?_⟩
  obtain ⟨h6, h7⟩ := h5 _ (List.getElem_mem hk)
  obtain ⟨q, hq⟩ := Int.eq_ofNat_of_zero_le h6
  rw [hq] at h7
  exact ⟨q, hq, by exact_mod_cast h7⟩
/-- The mask of the rows below k. -/
def mkTo (n : Nat) (rows : List Int) : Nat → Nat
  | 0 => 0
  | k + 1 => mkTo n rows k + (rows.getD k 0).toNat * 2 ^ (k * n)
theorem mkTo_lt {n : Nat} {rows : List Int} (h : ∀ k (hk : k < rows.length), ∃ q : Nat, rows[k] = (q : Int) ∧ q < 2 ^ n) : ∀ k, k ≤ rows.length → mkTo n rows k < 2 ^ (k * n)
  | 0, _ => by simp [mkTo]
  | k + 1, hk => by
    have h1 := mkTo_lt h k (by omega)
    obtain ⟨q, hq, hlt⟩ := h k (by omega)
    have e : (rows.getD k 0).toNat = q := by rw [List.getD_eq_getElem?_getD, List.getElem?_eq_getElem (by omega), Option.getD_some, hq]; rfl
    show mkTo n rows k + _ < _
    rw [e, Nat.succ_mul, Nat.pow_add]
    have : q + 1 ≤ 2 ^ n := hlt
    calc mkTo n rows k + q * 2 ^ (k * n) < 2 ^ (k * n) + q * 2 ^ (k * n) := by omega
      _ = (q + 1) * 2 ^ (k * n) := by rw [Nat.succ_mul]; omega
      _ ≤ 2 ^ n * 2 ^ (k * n) := Nat.mul_le_mul_right _ this
      _ = 2 ^ (k * n) * 2 ^ n := Nat.mul_comm _ _
/-- A bit that is not there is added. -/
theorem or_bit {a d : Nat} (ha : a < 2 ^ 62) (hd : d < 62) (h : a.testBit d = false) : a ||| 2 ^ d = a + 2 ^ d := by
  have hp : 2 ^ d < 2 ^ 62 := Nat.pow_lt_pow_right (by decide) hd
  have h0 : BitVec.ofNat 64 a &&& BitVec.ofNat 64 (2 ^ d) = 0#64 := by
    apply BitVec.eq_of_toNat_eq
    rw [BitVec.toNat_and, BitVec.toNat_ofNat, BitVec.toNat_ofNat, Nat.mod_eq_of_lt (by omega), Nat.mod_eq_of_lt (by omega)]
    apply Nat.eq_of_testBit_eq
    intro i
    rw [Nat.testBit_and, Nat.testBit_two_pow]
    by_cases e : d = i
    · subst e; simp [h]
    · simp [e]
  have h1 := congrArg BitVec.toNat (BitVec.add_eq_or_of_and_eq_zero _ _ h0)
  rw [BitVec.toNat_add, BitVec.toNat_or, BitVec.toNat_ofNat, BitVec.toNat_ofNat, Nat.mod_eq_of_lt (by omega : a < 2 ^ 64), Nat.mod_eq_of_lt (by omega : 2 ^ d < 2 ^ 64), Nat.mod_eq_of_lt (by omega)] at h1
  exact h1.symm
theorem wraps_i64 (n : Int) (h₀ : 0 ≤ n) (h₁ : n < 2 ^ 63) : IntKind.i64.wrap n = n := by rw [IntKind.wrap_i64]; omega
theorem i64_or (a b : Nat) (ha : a < 2 ^ 63) (hb : b < 2 ^ 63) : bits .or .i64 (a : Int) (b : Int) = ((a ||| b : Nat) : Int) := (bits_nat .i64 63 (by decide) wraps_i64 a b ha hb).2
theorem i64_and (a b : Nat) (ha : a < 2 ^ 63) (hb : b < 2 ^ 63) : bits .and .i64 (a : Int) (b : Int) = ((a &&& b : Nat) : Int) := (bits_nat .i64 63 (by decide) wraps_i64 a b ha hb).1
theorem or_high {a b i : Nat} (ha : a < 2 ^ i) : a ||| b * 2 ^ i = a + b * 2 ^ i := by
  rw [Nat.or_comm, Nat.mul_comm, Nat.add_comm]
  exact (Nat.two_pow_add_eq_or_of_lt ha b).symm
theorem bit_and (m k : Nat) : m / 2 ^ k % 2 = (m.testBit k).toNat := by
  rw [Nat.testBit_eq_decide_div_mod_eq]
  rcases Nat.mod_two_eq_zero_or_one (m / 2 ^ k) with h | h <;> simp [h]
/-- A quarter turn: width, height, place. -/
abbrev Q4 := Int × Int × Int × Int
def quarter (q : Q4) : Q4 := (q.2.1, q.1, q.2.1 - 1 - q.2.2.2, q.2.2.1)
def rot : Nat → Q4 → Q4
  | 0, q => q
  | k + 1, q => quarter (rot k q)
def okQ (q : Q4) : Prop := 1 ≤ q.1 ∧ q.1 ≤ 6 ∧ 1 ≤ q.2.1 ∧ q.2.1 ≤ 6 ∧ 0 ≤ q.2.2.1 ∧ q.2.2.1 < q.1 ∧ 0 ≤ q.2.2.2 ∧ q.2.2.2 < q.2.1
theorem okQ_quarter {q : Q4} (h : okQ q) : okQ (quarter q) := by
  unfold okQ quarter at *
  simp only
  omega
theorem okQ_rot {q : Q4} (h : okQ q) : ∀ k, okQ (rot k q)
  | 0 => h
  | k + 1 => okQ_quarter (okQ_rot h k)
/-- Where a motion carries a place. -/
def startQ (w h x y : Int) (m : Nat) : Q4 := (w, h, if 4 ≤ m then w - 1 - x else x, y)
def carry (w h x y : Int) (m : Nat) : Q4 := rot (m % 4) (startQ w h x y m)
theorem okQ_start {w h x y : Int} (m : Nat) (hq : okQ (w, h, x, y)) : okQ (startQ w h x y m) := by
  unfold okQ startQ at *
  simp only at hq ⊢
  split <;> omega
/-- The number of the place where a motion carries place i of a grid. -/
def pos (n h m i : Nat) : Nat := ((carry n h ((i % n : Nat) : Int) ((i / n : Nat) : Int) m).2.2.2 * n + (carry n h ((i % n : Nat) : Int) ((i / n : Nat) : Int) m).2.2.1).toNat
def goesM (n h m : Nat) : Bool := m % 2 == 0 || n == h
def posOk (n h m : Nat) : Bool := !goesM n h m || ((List.range (n * h)).map (pos n h m)).Nodup && (List.range (n * h)).all fun i => decide (pos n h m i < n * h)
theorem posOk_all : ((List.range 7).all fun n => (List.range 7).all fun h => (List.range 8).all fun m => n == 0 || h == 0 || posOk n h m) = true := by decide +kernel
theorem pos_ok {n h m : Nat} (hn : 1 ≤ n ∧ n ≤ 6) (hh : 1 ≤ h ∧ h ≤ 6) (hm : m < 8) (hg : goesM n h m = true) :
    (∀ i, i < n * h → pos n h m i < n * h) ∧ ∀ i j, i < n * h → j < n * h → pos n h m i = pos n h m j → i = j := by
  have h0 := posOk_all
  simp only [List.all_eq_true, List.mem_range, Bool.or_eq_true, beq_iff_eq] at h0
  have h1 := h0 n (by omega) h (by omega) m hm
  have h2 : posOk n h m = true := by
    rcases h1 with (h1 | h1) | h1
    · omega
    · omega
    · exact h1
  unfold posOk at h2
  rw [hg] at h2
  simp only [Bool.not_true, Bool.false_or, Bool.and_eq_true, decide_eq_true_eq, List.all_eq_true, List.mem_range] at h2
  refine ⟨h2.2, fun i j hi hj e => ?_⟩
  have hp := List.pairwise_iff_getElem.1 h2.1
  rcases Nat.lt_trichotomy i j with hij | hij | hij
  · exact absurd e (by have := hp i j (by simpa using hi) (by simpa using hj) hij; simpa using this)
  · exact hij
  · exact absurd e.symm (by have := hp j i (by simpa using hj) (by simpa using hi) hij; simpa using this)
/-- The mask that a motion makes of the places below k. -/
def turnTo (n h m mask : Nat) : Nat → Nat
  | 0 => 0
  | k + 1 => turnTo n h m mask k + (if mask.testBit k then 2 ^ pos n h m k else 0)
theorem turn_bits {n h m mask : Nat} (hp : ∀ i j, i < n * h → j < n * h → pos n h m i = pos n h m j → i = j) (hl : ∀ i, i < n * h → pos n h m i < n * h) (h36 : n * h ≤ 36) :
    ∀ k, k ≤ n * h → turnTo n h m mask k < 2 ^ (n * h) ∧ ∀ j, (turnTo n h m mask k).testBit j = true → ∃ i, i < k ∧ mask.testBit i = true ∧ pos n h m i = j
  | 0, _ => ⟨by simp [turnTo]; exact Nat.pow_pos (by decide), fun j hj => by simp [turnTo] at hj⟩
  | k + 1, hk => by
    obtain ⟨h1, h2⟩ := turn_bits hp hl h36 k (by omega)
    have h62 : (2 : Nat) ^ (n * h) ≤ 2 ^ 36 := Nat.pow_le_pow_right (by decide) h36
    by_cases hb : mask.testBit k = true
    · have hk2 := hl k (by omega)
      have hnb : (turnTo n h m mask k).testBit (pos n h m k) = false := by
        cases e : (turnTo n h m mask k).testBit (pos n h m k) with
        | false => rfl
        | true =>
          obtain ⟨i, hi, _, hpi⟩ := h2 _ e
          have := hp i k (by omega) (by omega) hpi
          omega
      have e : turnTo n h m mask (k + 1) = turnTo n h m mask k ||| 2 ^ pos n h m k := by
        show turnTo n h m mask k + _ = _
        rw [if_pos hb, or_bit (by omega) (by omega) hnb]
      rw [e]
      refine ⟨Nat.or_lt_two_pow h1 (Nat.pow_lt_pow_right (by decide) hk2), fun j hj => ?_⟩
      rw [Nat.testBit_or, Bool.or_eq_true, Nat.testBit_two_pow] at hj
      rcases hj with hj | hj
      · obtain ⟨i, hi, h3⟩ := h2 j hj
        exact ⟨i, by omega, h3⟩
      · exact ⟨k, by omega, hb, by simpa using hj⟩
    · have e : turnTo n h m mask (k + 1) = turnTo n h m mask k := by
        show turnTo n h m mask k + _ = _
        rw [if_neg hb, Nat.add_zero]
      rw [e]
      refine ⟨h1, fun j hj => ?_⟩
      obtain ⟨i, hi, h3⟩ := h2 j hj
      exact ⟨i, by omega, h3⟩
theorem turn_or {n h m mask : Nat} (hp : ∀ i j, i < n * h → j < n * h → pos n h m i = pos n h m j → i = j) (hl : ∀ i, i < n * h → pos n h m i < n * h) (h36 : n * h ≤ 36) {k : Nat} (hk : k < n * h) (hb : mask.testBit k = true) :
    turnTo n h m mask (k + 1) = turnTo n h m mask k ||| 2 ^ pos n h m k := by
  obtain ⟨h1, h2⟩ := turn_bits hp hl h36 k (mask := mask) (by omega)
  have h62 : (2 : Nat) ^ (n * h) ≤ 2 ^ 36 := Nat.pow_le_pow_right (by decide) h36
  have hk2 := hl k hk
  have hnb : (turnTo n h m mask k).testBit (pos n h m k) = false := by
    cases e : (turnTo n h m mask k).testBit (pos n h m k) with
    | false => rfl
    | true =>
      obtain ⟨i, hi, _, hpi⟩ := h2 _ e
      have := hp i k (by omega) (by omega) hpi
      omega
  show turnTo n h m mask k + _ = _
  rw [if_pos hb, or_bit (by omega) (by omega) hnb]
end Go.Proofs.Ytagkopemcabkpaa

/- The reference's draws: numbers below a bound, out of bytes. -/
namespace Go.Proofs.Ytagkopemcabkpaa
open Go.RowKit
set_option linter.unusedVariables false
attribute [local go_sem ↓] Go.wp_at_zero Go.wp_at_succ
/-- A cursor over bytes. -/
structure Cur (w : World) (g : Nat) (A : Option Addr) (n c : Nat) (bs : List UInt8) : Prop where
  blk : ∃ (i : Nat) (h : Int), i ≤ n ∧ Blk w g 75 #[.slice A n c, .int .i64 (i : Int), .int .i64 h]
  rd : Rd w A (vB bs)
  len : bs.length = n
  ne : 0 < n → ob A ≠ some g
theorem Cur.below {w w' : World} {g : Nat} {A : Option Addr} {n c : Nat} {bs : List UInt8} (h : Cur w g A n c bs) (hb : Below w.heap.size w w') : Cur w' g A n c bs := by
  obtain ⟨i, x, hi, hB⟩ := h.blk
  exact ⟨⟨i, x, hi, hB.below hb⟩, h.rd.below hb, h.len, h.ne⟩
theorem and255 (x : Int) : ∃ q : Nat, bits .and .i64 x 255 = (q : Int) ∧ q < 256 := by
  refine ⟨(BitVec.ofInt 64 x &&& BitVec.ofInt 64 255).toNat, ?_, ?_⟩
  · show IntKind.i64.wrap ((BitVec.ofInt 64 x &&& BitVec.ofInt 64 255).toNat : Int) = _
    have hlt : (BitVec.ofInt 64 x &&& BitVec.ofInt 64 255).toNat ≤ 255 := by
      rw [BitVec.toNat_and]
      exact Nat.le_trans Nat.and_le_right (by decide)
    exact Go.IntWalk.i64_in _ (by omega)
  · have hlt : (BitVec.ofInt 64 x &&& BitVec.ofInt 64 255).toNat ≤ 255 := by
      rw [BitVec.toNat_and]
      exact Nat.le_trans Nat.and_le_right (by decide)
    omega
theorem RdB.at_ {w : World} {A : Option Addr} {xs : List UInt8} (h : Rd w A (vB xs)) {k : Nat} (hk : k < xs.length) : ∃ g off, A = some ⟨g, off, none⟩ ∧ g < w.heap.size ∧ w.cell? ⟨g, off + k, none⟩ = some (.int .u8 (xs[k].toNat : Nat)) := by
  rcases h with h | ⟨g, off, rfl, h⟩
  · have h2 := congrArg List.length h
    simp [vB] at h2
    subst h2
    simp at hk
  · have h2 := h k (.int .u8 (xs[k].toNat : Nat)) (by simp [vB, List.getElem?_eq_getElem hk])
    exact ⟨g, off, rfl, World.block_lt_of_cell? w _ h2, h2⟩
theorem Cur.set_ {w : World} {g : Nat} {A : Option Addr} {n c : Nat} {bs : List UInt8} (h : Cur w g A n c bs) {cs : Array Value} {k : Nat} {u : Value} (hB : Blk w g 75 cs) (hk : ∃ (i : Nat) (h : Int), i ≤ n ∧ cs.setIfInBounds k u = #[.slice A n c, .int .i64 (i : Int), .int .i64 h]) : Cur (w.setCell ⟨g, k, none⟩ u) g A n c bs := by
  obtain ⟨i, x, hi, hx⟩ := hk
  refine ⟨⟨i, x, hi, hx ▸ hB.set_ k u⟩, ?_, h.len, h.ne⟩
  by_cases h0 : 0 < n
  · rcases h.rd with h1 | ⟨g', off, rfl, h1⟩
    · exact .inl h1
    · refine .inr ⟨g', off, rfl, fun j v hv => (World.cell?_setCell_other w _ _ u (fun e => h.ne h0 ?_)).trans (h1 j v hv)⟩
      simp only [Addr.mk.injEq] at e
      simp [ob, e.1]
  · left
    have := h.len
    rw [List.eq_nil_of_length_eq_zero (by omega : bs.length = 0)]
    rfl
/-- A number below a bound was drawn. -/
def RetDraw (w : World) (g : Nat) (A : Option Addr) (n c : Nat) (bs : List UInt8) (m : Nat) (e : Ending) (w' : World) : Prop :=
  ∃ q : Nat, e = .returned (.int .i64 (q : Int)) ∧ q < m ∧ Cur w' g A n c bs ∧ w.grownBy w' (some g)
def RetCur (w : World) (A : Option Addr) (n c : Nat) (bs : List UInt8) (e : Ending) (w' : World) : Prop :=
  ∃ g, e = .returned (.pointer (some ⟨g, 0, none⟩)) ∧ Cur w' g A n c bs ∧ w.heap.size ≤ g ∧ Below w.heap.size w w'
set_option maxHeartbeats 800000 in
theorem l1New_s (A : Option Addr) (n c : Nat) (bs : List UInt8) (w : World) (hr : Rd w A (vB bs)) (hl : bs.length = n) (hn : n ≤ 1048576) :
    Calls Try.prog 45 #[.slice A n c] w (RetCur w A n c bs) := by
  have HR := Lib.hid hr
  have HL := Lib.hid hl
  clear hr hl
  go_enter Try.func45, Try.ntmps45
  go_wp2_with fail
  go_loopw [4, 3] (fun e4 e3 wr => ∃ (i : Nat) (h : Int), i ≤ n ∧ e4 = .int .i64 i ∧ e3 = .int .i64 h ∧ Below w.heap.size w wr) (fun e4 _ _ => n - (intOf e4).toNat)
  case atStart => exact ⟨0, _, Nat.zero_le _, rfl, rfl, Below.refl _ _⟩
  case round =>
    obtain ⟨i, h, hi, rfl, rfl, hb⟩ := hrel
    have HB := Lib.hid hb
    clear hb
    by_cases hlt : i < n
    · have hi0 : (0 : Int) ≤ (i : Int) := by omega
      have hi1 : (i : Int) < (n : Int) := by omega
      by_cases h4 : i < 4000
      · have h41 : (i : Int) < 4000 := by omega
        have hil : i < bs.length := by rw [HL.out]; exact hlt
        obtain ⟨g, off, hA, hg, d1⟩ := RdB.at_ (HR.out.below HB.out) hil
        obtain ⟨b, hb⟩ : ∃ b, bs[i] = b := ⟨_, rfl⟩
        rw [hb] at d1
        have ebb : IntKind.i64.wrap (b.toNat : Int) = (b.toNat : Int) := Go.IntWalk.i64_in _ (by have := b.toNat_lt; omega)
        obtain ⟨a1, ha1⟩ : ∃ a1, IntKind.i64.wrap (h * 131) = a1 := ⟨_, rfl⟩
        obtain ⟨a2, ha2⟩ : ∃ a2, IntKind.i64.wrap (a1 + (b.toNat : Int)) = a2 := ⟨_, rfl⟩
        obtain ⟨a3, ha3⟩ : ∃ a3, IntKind.i64.wrap (a2 + 7) = a3 := ⟨_, rfl⟩
        obtain ⟨a4, ha4⟩ : ∃ a4, bits .and .i64 a3 1073741823 = a4 := ⟨_, rfl⟩
        subst hA
        clear hb
        go_wp2_with fail
        exact ⟨⟨i + 1, a4, by omega, by go_num, rfl, HB.out⟩, by simp [intOf]; omega⟩
      · have h41 : ¬ (i : Int) < 4000 := by omega
        go_wp2_with fail
        go_ret
        have hA : 0 < n → ob A ≠ some wr.heap.size := fun _ e => by
          obtain ⟨g, off, hA, hg, d1⟩ := RdB.at_ (HR.out.below HB.out) (show 0 < bs.length by rw [HL.out]; omega)
          subst hA
          simp only [ob, Option.map_some, Option.some.injEq] at e
          omega
        exact ⟨_, rfl, ⟨⟨0, h, Nat.zero_le _, Blk.new _ _ _⟩, (HR.out.below HB.out).alloc _, HL.out, hA⟩, HB.out.size, bel_alloc HB.out _⟩
    · obtain rfl : i = n := by omega
      have hi1 : ¬ (i : Int) < (i : Int) := by omega
      go_wp2_with fail
      go_ret
      have hA : 0 < i → ob A ≠ some wr.heap.size := fun h0 e => by
        obtain ⟨g, off, hA, hg, d1⟩ := RdB.at_ (HR.out.below HB.out) (show 0 < bs.length by rw [HL.out]; omega)
        subst hA
        simp only [ob, Option.map_some, Option.some.injEq] at e
        omega
      exact ⟨_, rfl, ⟨⟨0, h, Nat.zero_le _, Blk.new _ _ _⟩, (HR.out.below HB.out).alloc _, HL.out, hA⟩, HB.out.size, bel_alloc HB.out _⟩
set_option maxHeartbeats 800000 in
theorem l1Byte_s (A : Option Addr) (n c g : Nat) (bs : List UInt8) (w : World) (hc : Cur w g A n c bs) (hn : n ≤ 1048576) :
    Calls Try.prog 76 #[.pointer (some ⟨g, 0, none⟩)] w (RetDraw w g A n c bs 256) := by
  obtain ⟨i, h, hi, hB⟩ := hc.blk
  have c0 : w.cell? ⟨g, 0, none⟩ = some (.slice A n c) := by simpa using hB.cell 0
  have c1 : w.cell? ⟨g, 1, none⟩ = some (.int .i64 (i : Int)) := by simpa using hB.cell 1
  have c2 : w.cell? ⟨g, 2, none⟩ = some (.int .i64 h) := by simpa using hB.cell 2
  have f2 := hB.frozen 2
  have hg := hB.lt
  obtain ⟨a1, ha1⟩ : ∃ a1, IntKind.i64.wrap (h * 6364136223846793005) = a1 := ⟨_, rfl⟩
  obtain ⟨a2, ha2⟩ : ∃ a2, IntKind.i64.wrap (a1 + 1442695040888963407) = a2 := ⟨_, rfl⟩
  go_enter Try.func76, Try.ntmps76
  go_wp2_with fail
  have hB1 := hB.set_ 2 (.int .i64 a2)
  have hC1 := hc.set_ (k := 2) (u := .int .i64 a2) hB ⟨i, a2, hi, rfl⟩
  have hG1 : w.grownBy (w.setCell ⟨g, 2, none⟩ (.int .i64 a2)) (some g) := grown_set (p := ⟨g, 2, none⟩) (World.grownBy.refl _ _) rfl _
  obtain ⟨w1, hw1⟩ : ∃ w1, w.setCell ⟨g, 2, none⟩ (.int .i64 a2) = w1 := ⟨_, rfl⟩
  rw [hw1] at hB1 hC1 hG1 ⊢
  have HG1 := Lib.hid hG1
  have HC1 := Lib.hid hC1
  have HB1 := Lib.hid hB1
  have d0 : w1.cell? ⟨g, 0, none⟩ = some (.slice A n c) := by simpa using hB1.cell 0
  have d1 : w1.cell? ⟨g, 1, none⟩ = some (.int .i64 (i : Int)) := by simpa using hB1.cell 1
  have d2 : w1.cell? ⟨g, 2, none⟩ = some (.int .i64 a2) := by simpa using hB1.cell 2
  have l1 := hB1.lt
  have HI := Lib.hid hi
  clear hw1 c0 c1 c2 f2 hg hB hc hC1 hG1 hB1 ha1 ha2 hi
  (refine wp_region_below (by kernel_rfl) (by kernel_rfl) ?_; (repeat (first | go_big_quiet_skip | (refine quietV (v := ?_) (by rfl) rfl (fun w' hbw => ?_) ?_; rotate_left; ((try dsimp only at hbw); have hbc := (bcell hbw).1; have hbf := (bcell hbw).2; go_simp; first | done | with_reducible rfl | fail); simp only [List.setIfInBounds_toArray, List.set_cons_zero, List.set_cons_succ]))); refine wpQuiet_nil ?_; intro wq hbq)
  obtain ⟨q1, hq1, hlt1⟩ := and255 (bits BinOp.xor IntKind.i64 (a2 / 8589934592) (a2 / 35184372088832))
  have d0 := keep_below hbq d0
  have d1 := keep_below hbq d1
  have d2 := keep_below hbq d2
  have l1 : g < wq.heap.size := Nat.lt_of_lt_of_le l1 hbq.size
  have HBQ := Lib.hid hbq
  rw [hq1]
  clear hq1 hbq
  go_wp2_with fail
  (refine wp_region_below (by kernel_rfl) (by kernel_rfl) ?_; (repeat (first | go_big_quiet_skip | (refine quietV (v := ?_) (by rfl) rfl (fun w' hbw => ?_) ?_; rotate_left; ((try dsimp only at hbw); have hbc := (bcell hbw).1; have hbf := (bcell hbw).2; go_simp; first | done | with_reducible rfl | fail); simp only [List.setIfInBounds_toArray, List.set_cons_zero, List.set_cons_succ]))); refine wpQuiet_nil ?_; intro wp hbp)
  have d0 := keep_below hbp d0
  have d1 := keep_below hbp d1
  have l1 : g < wp.heap.size := Nat.lt_of_lt_of_le l1 hbp.size
  have HBP := Lib.hid (bel_trans HBQ.out hbp)
  clear hbp HBQ d2
  have hgr : ∀ w2 : World, Below w1.heap.size w1 w2 → w.grownBy w2 (some g) := fun w2 h => ⟨h.os.trans HG1.out.os, h.tape.trans HG1.out.tape, h.output.trans HG1.out.output, Nat.le_trans HG1.out.size h.size, fun k hk hn => (h.block k (Nat.lt_of_lt_of_le hk HG1.out.size)).trans (HG1.out.block k hk hn)⟩
  have HGR := Lib.hid @hgr
  clear hgr
  by_cases hlt : i < n
  · have hi1 : (i : Int) < (n : Int) := by omega
    have hi0 : (0 : Int) ≤ (i : Int) := by omega
    have hil : i < bs.length := by rw [HC1.out.len]; exact hlt
    obtain ⟨gb, off, hA, hgb, e1⟩ := RdB.at_ (HC1.out.rd.below HBP.out) hil
    obtain ⟨b, hb⟩ : ∃ b, bs[i] = b := ⟨_, rfl⟩
    rw [hb] at e1
    have hbl := b.toNat_lt
    have ebb : IntKind.i64.wrap (b.toNat : Int) = (b.toNat : Int) := Go.IntWalk.i64_in _ (by omega)
    have eq1 : IntKind.i64.wrap ((q1 : Int) + (b.toNat : Int)) = (q1 : Int) + (b.toNat : Int) := Go.IntWalk.i64_in _ (by omega)
    obtain ⟨q2, hq2, hlt2⟩ := and255 ((q1 : Int) + (b.toNat : Int))
    subst hA
    have HBB := Lib.hid hbl
    clear hb hbl
    go_wp2_with fail
    (refine wp_region_below (by kernel_rfl) (by kernel_rfl) ?_; (repeat (first | go_big_quiet_skip | (refine quietV (v := ?_) (by rfl) rfl (fun w' hbw => ?_) ?_; rotate_left; ((try dsimp only at hbw); have hbc := (bcell hbw).1; have hbf := (bcell hbw).2; go_simp; first | done | with_reducible rfl | fail); simp only [List.setIfInBounds_toArray, List.set_cons_zero, List.set_cons_succ]))); refine wpQuiet_nil ?_; intro wr hbr)
    have HBR := Lib.hid (bel_trans HBP.out hbr)
    have d0 := keep_below hbr d0
    have d1 := keep_below hbr d1
    have l1 : g < wr.heap.size := Nat.lt_of_lt_of_le l1 hbr.size
    have hBr := HB1.out.below HBR.out
    have f1 := hBr.frozen 1
    have ei : IntKind.i64.wrap ((i : Int) + 1) = ((i + 1 : Nat) : Int) := by rw [Go.IntWalk.i64_in _ (by have := HC1.out.len; omega)]; omega
    clear eq1 ebb e1 hbr hgb d0 hq2
    go_wp2_with fail
    go_ret
    exact ⟨q2, rfl, hlt2, (HC1.out.below HBR.out).set_ (k := 1) (u := .int .i64 ((i + 1 : Nat) : Int)) hBr ⟨i + 1, a2, by omega, rfl⟩, grown_set (p := ⟨g, 1, none⟩) (HGR.out _ HBR.out) rfl _⟩
  · have hi1 : ¬ (i : Int) < (n : Int) := by omega
    go_wp2_with fail
    go_ret
    exact ⟨q1, rfl, hlt1, HC1.out.below HBP.out, HGR.out _ HBP.out⟩
set_option maxHeartbeats 800000 in
theorem l1Below_s (A : Option Addr) (n c g k : Nat) (bs : List UInt8) (w : World) (hc : Cur w g A n c bs) (hn : n ≤ 1048576) (hk1 : 1 ≤ k) (hk : k ≤ 256) :
    Calls Try.prog 47 #[.pointer (some ⟨g, 0, none⟩), .int .i64 (k : Int)] w (RetDraw w g A n c bs k) := by
  have h0 : ¬ (k : Int) ≤ 0 := by omega
  have h2 : (k : Int) ≤ 256 := by omega
  have HC := Lib.hid hc
  clear hc
  go_enter Try.func47, Try.ntmps47
  go_wp2_with fail
  refine (l1Byte_s A n c g bs w HC.out hn).mono ?_
  rintro e w1 ⟨q, rfl, hq, hc1, hg1⟩
  have HC1 := Lib.hid hc1
  have HG1 := Lib.hid hg1
  obtain ⟨r, hr⟩ : ∃ r, q % k = r := ⟨_, rfl⟩
  have hrl : r < k := by rw [← hr]; exact Nat.mod_lt _ (by omega)
  have hrm : (q : Int) % (k : Int) = (r : Int) := by rw [← hr]; simp
  have hrm2 : (q : Int).tmod (k : Int) = (r : Int) := by rw [← hr]; simp [Int.tmod]
  have hkz : ((k : Int) == 0) = false := by simp; omega
  have er : IntKind.i64.wrap (r : Int) = (r : Int) := Go.IntWalk.i64_in _ (by omega)
  clear hc1 hg1 hr
  go_wp2_with fail
  go_ret
  exact ⟨r, rfl, hrl, HC1.out, HG1.out⟩
end Go.Proofs.Ytagkopemcabkpaa
