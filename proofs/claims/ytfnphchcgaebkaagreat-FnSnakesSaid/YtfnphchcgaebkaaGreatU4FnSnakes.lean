/- Texts of this claim, one behind the other: part 4. -/
import Derived.Test.YtfnphchcgaebkaaGreatU3FnSnakes
import Derived.Outline
import Derived.WalkLawsBesides
import Derived.WalkSpells
import Derived.BigQuiet
import Derived.Deep.QuietTactic
import Derived.Deep.RegionHeld3
import Derived.Deep.RegionWith
import Derived.Deep.DeepCutAuto
import Derived.Deep.CutBlock
import Derived.Deep.DrawnRows
import Derived.Laws.BitsLemmas
import Derived.Test.YtfnphchcgaebkaaGreatProg
/- 'append(append(append([]T{}, a...), x), b...)' in a region that draws its order: the two literals may be made in either order. -/
namespace Go.Proofs.YtfnphchcgaebkaaGreat
open Go.RowKit
set_option linter.unusedVariables false
section
variable {P : Program} {ops : Array Oper} {md : Region.Mode} {C : World → Prop} {Q : Exit → Act → World → Prop}
theorem rg_one {f i : Nat} {o : Oper} {listed : Array Bool} {a : Act} {w : World} (hr : Region.ready md ops listed = [i]) (hi : ops[i]? = some o) (hg : o.guard = none)
    (h : ∀ w', C w' → Ext w w' → o.wp P a w' (fun a' w'' => C w'' ∧ wpRg P md ops C Q f (listed.setIfInBounds i true) a' w'') Q) : wpRg P md ops C Q (f + 1) listed a w := by
  refine ⟨fun e => by rw [hr] at e; simp at e, fun j hj w' hc he => ?_⟩
  rw [hr] at hj
  obtain rfl : j = i := by simpa using hj
  unfold wpOp
  simp only [hi]
  rw [if_pos (by simp [Region.wanted, hg])]
  exact .inl (h w' hc he)
theorem rg_two {f i k : Nat} {o o2 : Oper} {listed : Array Bool} {a : Act} {w : World} (hr : Region.ready md ops listed = [i, k]) (hi : ops[i]? = some o) (hg : o.guard = none) (hk : ops[k]? = some o2) (hg2 : o2.guard = none)
    (h : ∀ w', C w' → Ext w w' → o.wp P a w' (fun a' w'' => C w'' ∧ wpRg P md ops C Q f (listed.setIfInBounds i true) a' w'') Q)
    (h2 : ∀ w', C w' → Ext w w' → o2.wp P a w' (fun a' w'' => C w'' ∧ wpRg P md ops C Q f (listed.setIfInBounds k true) a' w'') Q) : wpRg P md ops C Q (f + 1) listed a w := by
  refine ⟨fun e => by rw [hr] at e; simp at e, fun j hj w' hc he => ?_⟩
  rw [hr] at hj
  unfold wpOp
  rcases (by simpa using hj : j = i ∨ j = k) with rfl | rfl
  · simp only [hi]
    rw [if_pos (by simp [Region.wanted, hg])]
    exact .inl (h w' hc he)
  · simp only [hk]
    rw [if_pos (by simp [Region.wanted, hg2])]
    exact .inl (h2 w' hc he)
end
section
variable {P : Program} {ops : Array Oper} {C : World → Prop} {Q : Exit → Act → World → Prop} {w0 : World}
theorem wp_region_rg {id : Nat} {a : Act} {w : World} {l : List Oper} (n : Nat) (hl : l.length = n) (hm : P.follows .mixedOrders = true) (h : wpRg P .any l.toArray (ExC w) (NoPanic Q) n (Array.replicate n false) a w) : (Code.region id l.toArray true).wp P Q a w := by
  subst hl
  exact wp_region_noPanic (wp_region_any hm (wpAny_of_wpRg _ _ _ _ (ExC.drawn w) (wpRg_ext h (ExC.drawn w))))
/-- An operation that only reads is taken first. -/
theorem rgT {i d : Nat} {oi : Oper} {v : Value} {f : Nat} {listed : Array Bool} {ts : Array Value} {ds : List Deferred} {w : World} (hi : ops[i]? = some oi) (hd : oi.dst = some d)
    (hs : Region.noSelect ops = true) (hf : Region.free .any ops listed i = true) (hr : (Region.ready .any ops listed).contains i = true) (hw : Region.wanted oi (yielded ops ts) = true)
    (hy : ∀ w', ExC w0 w' → oi.quietAt P { tmps := ts, defers := ds } (Ext w') w' v)
    (h : wpRg P .any ops (ExC w0) (NoPanic Q) f (listed.setIfInBounds i true) { tmps := ts.setIfInBounds d v, defers := ds } w) : wpRg P .any ops (ExC w0) (NoPanic Q) (f + 1) listed { tmps := ts, defers := ds } w :=
  wpRg_first (fun _ _ h k => h.ext k) hi (Region.noSelect_spec hs) (fun _ _ _ h => h) f listed _ w (Region.free_spec hi hf) (by simpa using hr) (.inl ⟨hw, hy⟩) (by rw [hd]; exact h)
end
/-- a is a0 but for some slots. -/
structure Fr (S : List Nat) (a0 a : Act) : Prop where
  size : a.tmps.size = a0.tmps.size
  defers : a.defers = a0.defers
  same : ∀ t, t ∉ S → a.tmps[t]? = a0.tmps[t]?
theorem Fr.refl (S : List Nat) (a : Act) : Fr S a a := ⟨rfl, rfl, fun _ _ => rfl⟩
theorem Fr.put {S : List Nat} {a0 a : Act} (h : Fr S a0 a) {d : Nat} (hd : d ∈ S) (v : Value) : Fr S a0 (a.put (some d) v) := by
  refine ⟨by simp [Act.put, h.size], h.defers, fun t ht => ?_⟩
  have hne : d ≠ t := by rintro rfl; exact ht hd
  simp only [Act.put, Array.getElem?_setIfInBounds_ne hne]
  exact h.same t ht
theorem Fr.eval {S : List Nat} {a0 a : Act} (h : Fr S a0 a) {t : Nat} (ht : t ∉ S) : a.eval (.tmp t) = a0.eval (.tmp t) := by
  simp only [Act.eval, Array.getD_eq_getD_getElem?, h.same t ht]
theorem put_eval {a : Act} {d : Nat} (v : Value) (hd : d < a.tmps.size) : (a.put (some d) v).eval (.tmp d) = v := by simp [Act.eval, Act.put, hd]
theorem put_eval_ne {a : Act} {d t : Nat} (v : Value) (hne : d ≠ t) : (a.put (some d) v).eval (.tmp t) = a.eval (.tmp t) := by
  simp [Act.eval, Act.put, Array.getElem?_setIfInBounds_ne hne]
section
variable {P : Program} {o : Oper} {a : Act} {w : World} {K : Act → World → Prop} {Q : Exit → Act → World → Prop}
theorem wp_val {v : Value} {w' : World} (h : (execOp a.eval o).run P w = .ok (.value v) w') (hk : K (a.put o.dst v) w') : o.wp P a w K Q := by
  unfold Oper.wp
  rw [h]
  exact hk
end
theorem agree_set {S : List Nat} {s : Nat} {ts X : Array Value} (hz : ts.size = X.size) (h : ∀ t, t ∉ s :: S → ts[t]? = X[t]?) : ∀ t, t ∉ S → ts[t]? = (X.setIfInBounds s (ts.getD s undef))[t]? := by
  intro t ht
  by_cases e : s = t
  · subst e
    rcases Nat.lt_or_ge s ts.size with hl | hl
    · rw [Array.getElem?_setIfInBounds_self_of_lt (by omega), Array.getD_eq_getD_getElem?, Array.getElem?_eq_getElem hl]; rfl
    · rw [Array.getElem?_eq_none hl, Array.getElem?_eq_none (by simp; omega)]
  · rw [Array.getElem?_setIfInBounds_ne e]
    exact h t (by simp [Ne.symm e, ht])
theorem Fr.form {s0 sA sN sB sD dE : Nat} {a0 a : Act} (h : Fr [s0, sA, sN, sB, sD, dE] a0 a) {v : Value} (hv : a.eval (.tmp dE) = v) :
    ∃ v0 vA vN vB vD, a = { tmps := (((((a0.tmps.setIfInBounds s0 v0).setIfInBounds sA vA).setIfInBounds sN vN).setIfInBounds sB vB).setIfInBounds sD vD).setIfInBounds dE v, defers := a0.defers } := by
  refine ⟨a.tmps.getD s0 undef, a.tmps.getD sA undef, a.tmps.getD sN undef, a.tmps.getD sB undef, a.tmps.getD sD undef, ?_⟩
  have h1 := agree_set h.size h.same
  have h2 := agree_set (by simp [h.size]) h1
  have h3 := agree_set (by simp [h.size]) h2
  have h4 := agree_set (by simp [h.size]) h3
  have h5 := agree_set (by simp [h.size]) h4
  have h6 := agree_set (by simp [h.size]) h5
  have e : a.tmps = _ := Array.ext_getElem? fun t => h6 t (by simp)
  have hv' : a.tmps.getD dE undef = v := hv
  rw [hv'] at e
  obtain ⟨ts, ds⟩ := a
  have hd := h.defers
  simp only at hd e
  subst hd
  rw [← e]
/-- What is known of the region's six operations. -/
structure InsOps (P : Program) (ops : Array Oper) (T e : TypeId) (i0 iA iN iB iD iE s0 sA sN sB sD dE t1 t2 : Nat) (vn : Value) (news : List Value) (xn : Operand) : Prop where
  p0 : ∃ o : Oper, ops[i0]? = some o ∧ o.guard = none ∧ o.dst = some s0 ∧ ∀ a w, (execOp (Act.eval a) o).run P w = .ok (.value (.slice (some ⟨w.heap.size, 0, none⟩) 0 0)) (w.alloc (.cells #[] e))
  pA : ∃ o : Oper, ops[iA]? = some o ∧ o.guard = none ∧ o.dst = some sA ∧ o.op = .call { callee := .builtin .append, args := #[.tmp s0, .tmp t1], argTypes := #[T, T] }
  pN : ∃ o : Oper, ops[iN]? = some o ∧ o.guard = none ∧ o.dst = some sN ∧ ∀ a w, a.eval xn = vn → (execOp (Act.eval a) o).run P w = .ok (.value (.slice (some ⟨w.heap.size, 0, none⟩) 1 1)) (w.alloc (.cells news.toArray e))
  pB : ∃ o : Oper, ops[iB]? = some o ∧ o.guard = none ∧ o.dst = some sB ∧ o.op = .call { callee := .builtin .append, args := #[.tmp sA, .tmp sN], argTypes := #[T, T] }
  pD : ∃ o : Oper, ops[iD]? = some o ∧ o.guard = none ∧ o.dst = some sD ∧ o.op = .call { callee := .builtin .append, args := #[.tmp sB, .tmp t2], argTypes := #[T, T] }
  pE : ∃ o : Oper, ops[iE]? = some o ∧ o.guard = none ∧ o.dst = some dE ∧ o.op = .assign (.tmp sD)
/-- The slots differ. -/
structure InsSlots (s0 sA sN sB sD dE t1 t2 : Nat) (a0 : Act) : Prop where
  lt : s0 < a0.tmps.size ∧ sA < a0.tmps.size ∧ sN < a0.tmps.size ∧ sB < a0.tmps.size ∧ sD < a0.tmps.size ∧ dE < a0.tmps.size
  ne : s0 ≠ sN ∧ sA ≠ sN
  t1n : t1 ∉ [s0, sA, sN, sB, sD, dE]
  t2n : t2 ∉ [s0, sA, sN, sB, sD, dE]
section
variable {P : Program} {ops : Array Oper} {md : Region.Mode} {Q : Exit → Act → World → Prop}
variable {T e : TypeId} {i : TypeInfo} {z : Value} {size bytes : Nat} {i0 iA iN iB iD iE s0 sA sN sB sD dE t1 t2 : Nat} {vn : Value} {vs1 news vs2 : List Value} {xn : Operand} {A1 A2 : Option Addr} {m1 c1 m2 c2 : Nat} {a0 : Act} {w0 : World}
/-- The last two: the second append, the assignment. -/
theorem ins_3 (L : Array Bool) (ht : P.underlying T = some (.slice e)) (hi : P.info? e = some i) (hz : i.zero = some z) (hsize : i.size = size) (hby : i.bytes = bytes) (hzs : z.cells.size = size) (hsz : 0 < size)
    (ho : InsOps P ops T e i0 iA iN iB iD iE s0 sA sN sB sD dE t1 t2 vn news xn) (hs : InsSlots s0 sA sN sB sD dE t1 t2 a0)
    (hrD : Region.ready md ops L = [iD]) (hrE : Region.ready md ops (L.setIfInBounds iD true) = [iE]) (hrF : Region.ready md ops ((L.setIfInBounds iD true).setIfInBounds iE true) = [])
    (e2 : a0.eval (.tmp t2) = .slice A2 m2 c2) (r2 : Rd w0 A2 vs2) (l2 : vs2.length = m2 * size) (h2 : ∀ u ∈ vs2, u.oneCell' = true) (hm : m1 + 1 + m2 ≤ 1099511627776) (hbs : bytes ≤ 64)
    (hQ : ∀ a' w' A' c', Fr [s0, sA, sN, sB, sD, dE] a0 a' → a'.eval (.tmp dE) = .slice A' (m1 + 1 + m2) c' → w'.ownsRow w0.heap.size e size (.slice A' (m1 + 1 + m2) c') (m1 + 1 + m2) (vs1 ++ news ++ vs2) → Ext w0 w' → Q .normal a' w')
    (a : Act) (w : World) (hf : Fr [s0, sA, sN, sB, sD, dE] a0 a) (hx : Ext w0 w) {B : Option Addr} {cB : Nat} (eB : a.eval (.tmp sB) = .slice B (m1 + 1) cB) (oB : w.ownsRow w0.heap.size e size (.slice B (m1 + 1) cB) (m1 + 1) (vs1 ++ news)) :
    wpRg P md ops (ExC w0) Q 2 L a w := by
  obtain ⟨oD, d1, d2, d3, d4⟩ := ho.pD
  obtain ⟨oE, f1, f2, f3, f4⟩ := ho.pE
  refine rg_one hrD d1 d2 fun w1 hc1 he1 => ?_
  have hz1 := hc1.size
  refine wp_app w1 _ _ T d4 w0.heap.size e i z size bytes ht hi hz hsize hby hzs hsz B (m1 + 1) cB _ eB (own_keep oB he1) A2 m2 c2 vs2 (by rw [hf.eval hs.t2n]; exact e2) (r2.below hc1) l2 h2 (by unfold maxLen; omega)
    (Nat.le_trans (Nat.mul_le_mul hm hbs) (by omega)) hz1 ?_
  intro A' c' w2 o2 g2 at2
  have hx2 : Ext w0 w2 := bel_app hc1 g2 (fun g h => (own_lt oB g h).1)
  refine ⟨hx2, ?_⟩
  rw [d3]
  refine rg_one hrE f1 f2 fun w3 hc3 he3 => ?_
  have hlt := hs.lt
  have hf2 : Fr [s0, sA, sN, sB, sD, dE] a0 (a.put (some sD) (.slice A' (m1 + 1 + m2) c')) := hf.put (by simp) _
  have eD : (a.put (some sD) (.slice A' (m1 + 1 + m2) c')).eval (.tmp sD) = .slice A' (m1 + 1 + m2) c' := put_eval _ (by rw [hf.size]; exact hlt.2.2.2.2.1)
  refine wp_val (BigFrame.run_assign (.tmp sD) f4 _) ⟨hc3, ?_⟩
  rw [eD, f3]
  refine ⟨hrF, fun w4 hc4 he4 => ?_⟩
  exact hQ _ _ A' c' (hf2.put (by simp) _) (put_eval _ (by rw [hf2.size]; exact hlt.2.2.2.2.2)) (own_keep (own_keep o2 he3) he4) hc4
/-- The first append's slice and the new element are there. -/
theorem ins_2 (L : Array Bool) (ht : P.underlying T = some (.slice e)) (hi : P.info? e = some i) (hz : i.zero = some z) (hsize : i.size = size) (hby : i.bytes = bytes) (hzs : z.cells.size = size) (hsz : 0 < size)
    (ho : InsOps P ops T e i0 iA iN iB iD iE s0 sA sN sB sD dE t1 t2 vn news xn) (hs : InsSlots s0 sA sN sB sD dE t1 t2 a0)
    (hrB : Region.ready md ops L = [iB]) (hm : m1 + 1 + m2 ≤ 1099511627776) (hbs : bytes ≤ 64) (ln : news.length = size) (hn : ∀ u ∈ news, u.oneCell' = true)
    (h3 : ∀ a w B cB, Fr [s0, sA, sN, sB, sD, dE] a0 a → Ext w0 w → a.eval (.tmp sB) = .slice B (m1 + 1) cB → w.ownsRow w0.heap.size e size (.slice B (m1 + 1) cB) (m1 + 1) (vs1 ++ news) → wpRg P md ops (ExC w0) Q 2 (L.setIfInBounds iB true) a w)
    (a : Act) (w : World) (hf : Fr [s0, sA, sN, sB, sD, dE] a0 a) (hx : Ext w0 w) {B : Option Addr} {cB : Nat} (eA : a.eval (.tmp sA) = .slice B m1 cB) (oA : w.ownsRow w0.heap.size e size (.slice B m1 cB) m1 vs1)
    {N : Option Addr} {cN : Nat} (eN : a.eval (.tmp sN) = .slice N 1 cN) (rN : Rd w N news) : wpRg P md ops (ExC w0) Q 3 L a w := by
  obtain ⟨oB, d1, d2, d3, d4⟩ := ho.pB
  refine rg_one hrB d1 d2 fun w1 hc1 he1 => ?_
  have hz1 := hc1.size
  refine wp_app w1 _ _ T d4 w0.heap.size e i z size bytes ht hi hz hsize hby hzs hsz B m1 cB _ eA (own_keep oA he1) N 1 cN news eN (rN.below he1) (by rw [ln]; omega) hn (by unfold maxLen; omega)
    (Nat.le_trans (Nat.mul_le_mul (show m1 + 1 ≤ 1099511627776 by omega) hbs) (by omega)) hz1 ?_
  intro A' c' w2 o2 g2 at2
  have hx2 : Ext w0 w2 := bel_app hc1 g2 (fun g h => (own_lt oA g h).1)
  refine ⟨hx2, ?_⟩
  rw [d3]
  exact h3 _ _ A' c' (hf.put (by simp) _) hx2 (put_eval _ (by rw [hf.size]; exact hs.lt.2.2.2.1)) o2
/-- The whole tail. -/
theorem ins_tail (L : Array Bool) (ht : P.underlying T = some (.slice e)) (hi : P.info? e = some i) (hz : i.zero = some z) (hsize : i.size = size) (hby : i.bytes = bytes) (hzs : z.cells.size = size) (hsz : 0 < size)
    (ho : InsOps P ops T e i0 iA iN iB iD iE s0 sA sN sB sD dE t1 t2 vn news xn) (hs : InsSlots s0 sA sN sB sD dE t1 t2 a0) (hxn : ∀ a, Fr [s0, sA, sN, sB, sD, dE] a0 a → a.eval xn = vn)
    (r_ : Region.ready md ops L = [i0, iN]) (r0 : Region.ready md ops (L.setIfInBounds i0 true) = [iA, iN]) (rN : Region.ready md ops (L.setIfInBounds iN true) = [i0])
    (r0A : Region.ready md ops ((L.setIfInBounds i0 true).setIfInBounds iA true) = [iN]) (r0N : Region.ready md ops ((L.setIfInBounds i0 true).setIfInBounds iN true) = [iA])
    (i0N : i0 ≠ iN) (iAN : iA ≠ iN)
    (rB : Region.ready md ops (((L.setIfInBounds i0 true).setIfInBounds iA true).setIfInBounds iN true) = [iB])
    (rD : Region.ready md ops ((((L.setIfInBounds i0 true).setIfInBounds iA true).setIfInBounds iN true).setIfInBounds iB true) = [iD])
    (rE : Region.ready md ops (((((L.setIfInBounds i0 true).setIfInBounds iA true).setIfInBounds iN true).setIfInBounds iB true).setIfInBounds iD true) = [iE])
    (rF : Region.ready md ops ((((((L.setIfInBounds i0 true).setIfInBounds iA true).setIfInBounds iN true).setIfInBounds iB true).setIfInBounds iD true).setIfInBounds iE true) = [])
    (e1 : a0.eval (.tmp t1) = .slice A1 m1 c1) (q1 : Rd w0 A1 vs1) (l1 : vs1.length = m1 * size) (h1 : ∀ u ∈ vs1, u.oneCell' = true)
    (e2 : a0.eval (.tmp t2) = .slice A2 m2 c2) (q2 : Rd w0 A2 vs2) (l2 : vs2.length = m2 * size) (h2 : ∀ u ∈ vs2, u.oneCell' = true)
    (ln : news.length = size) (hn : ∀ u ∈ news, u.oneCell' = true) (hm : m1 + 1 + m2 ≤ 1099511627776) (hbs : bytes ≤ 64)
    (hQ : ∀ a' w' A' c', Fr [s0, sA, sN, sB, sD, dE] a0 a' → a'.eval (.tmp dE) = .slice A' (m1 + 1 + m2) c' → w'.ownsRow w0.heap.size e size (.slice A' (m1 + 1 + m2) c') (m1 + 1 + m2) (vs1 ++ news ++ vs2) → Ext w0 w' → Q .normal a' w') :
    wpRg P md ops (ExC w0) Q 6 L a0 w0 := by
  obtain ⟨o0, a1, a2, a3, a4⟩ := ho.p0
  obtain ⟨oA, b1, b2, b3, b4⟩ := ho.pA
  obtain ⟨oN, n1, n2, n3, n4⟩ := ho.pN
  have hlt := hs.lt
  have hsz0 : ∀ w : World, (w.alloc (.cells (#[] : Array Value) e)).ownsRow w.heap.size e size (.slice (some ⟨w.heap.size, 0, none⟩) 0 0) 0 [] := fun w => own_new w e size 0 #[] (by simp) (by simp [maxLen]) (Nat.le_refl _)
  -- behind the first append and the element
  have S2 : ∀ (a : Act) (w : World), Fr [s0, sA, sN, sB, sD, dE] a0 a → Ext w0 w → ∀ (B : Option Addr) (cB : Nat), a.eval (.tmp sA) = .slice B m1 cB → w.ownsRow w0.heap.size e size (.slice B m1 cB) m1 vs1 → ∀ (N : Option Addr) (cN : Nat), a.eval (.tmp sN) = .slice N 1 cN → Rd w N news →
      wpRg P md ops (ExC w0) Q 3 (((L.setIfInBounds i0 true).setIfInBounds iA true).setIfInBounds iN true) a w := fun a w hf hx B cB eA oA' N cN eN rN' =>
    ins_2 (m2 := m2) _ ht hi hz hsize hby hzs hsz ho hs rB hm hbs ln hn (fun a w B cB hf hx eB oB' => ins_3 _ ht hi hz hsize hby hzs hsz ho hs rD rE rF e2 q2 l2 h2 hm hbs hQ a w hf hx eB oB') a w hf hx eA oA' eN rN'
  -- the first append
  have SA : ∀ (a : Act) (w : World) (f : Nat) (L' : Array Bool), Fr [s0, sA, sN, sB, sD, dE] a0 a → Ext w0 w → ∀ (B : Option Addr) (cB : Nat), a.eval (.tmp s0) = .slice B 0 cB → w.ownsRow w0.heap.size e size (.slice B 0 cB) 0 [] →
      ∀ K : Act → World → Prop, (∀ A' c' w', Fr [s0, sA, sN, sB, sD, dE] a0 (a.put (some sA) (.slice A' m1 c')) → Ext w0 w' → w'.ownsRow w0.heap.size e size (.slice A' m1 c') m1 vs1 → w.grownBy w' (ob B) → (∀ g, ob B = some g → w0.heap.size ≤ g) → K (a.put (some sA) (.slice A' m1 c')) w') → oA.wp P a w K Q := by
    intro a w f L' hf hx B cB e0 o0' K hK
    refine wp_app w _ _ T b4 w0.heap.size e i z size bytes ht hi hz hsize hby hzs hsz B 0 cB [] e0 o0' A1 m1 c1 vs1 (by rw [hf.eval hs.t1n]; exact e1) (q1.below hx) l1 h1 (by unfold maxLen; omega)
      (by rw [Nat.zero_add]; exact Nat.le_trans (Nat.mul_le_mul (show m1 ≤ 1099511627776 by omega) hbs) (by omega)) hx.size ?_
    intro A' c' w2 o2 g2 at2
    simp only [Nat.zero_add, List.nil_append] at o2 ⊢
    rw [b3]
    exact hK A' c' w2 (hf.put (by simp) _) (bel_app hx g2 (fun g h => (own_lt o0' g h).1)) o2 g2 (fun g h => (own_lt o0' g h).1)
  refine rg_two r_ a1 a2 n1 n2 (fun w1 hc1 he1 => ?_) (fun w1 hc1 he1 => ?_)
  · -- the empty literal first
    refine wp_val (a4 a0 w1) ⟨bel_alloc hc1 _, ?_⟩
    rw [a3]
    have f0 : Fr [s0, sA, sN, sB, sD, dE] a0 (a0.put (some s0) (.slice (some ⟨w1.heap.size, 0, none⟩) 0 0)) := (Fr.refl _ _).put (by simp) _
    have ev0 : (a0.put (some s0) (.slice (some ⟨w1.heap.size, 0, none⟩) 0 0)).eval (.tmp s0) = .slice (some ⟨w1.heap.size, 0, none⟩) 0 0 := put_eval _ hlt.1
    have ow0 := own_base (hsz0 w1) hc1.size
    refine rg_two r0 b1 b2 n1 n2 (fun w2 hc2 he2 => ?_) (fun w2 hc2 he2 => ?_)
    · refine SA _ w2 0 L f0 hc2 _ _ ev0 (own_keep ow0 he2) _ fun A' c' w3 hf3 hx3 o3 _ _ => ⟨hx3, ?_⟩
      refine rg_one r0A n1 n2 fun w4 hc4 he4 => ?_
      refine wp_val (n4 _ w4 (hxn _ hf3)) ⟨bel_alloc hc4 _, ?_⟩
      rw [n3]
      refine S2 _ _ (hf3.put (by simp) _) (bel_alloc hc4 _) A' c' ?_ (own_keep (own_keep o3 he4) (bel_alloc (Below.refl _ _) _)) (some ⟨w4.heap.size, 0, none⟩) 1 (put_eval _ (by rw [hf3.size]; exact hlt.2.2.1)) (by simpa using rd_new w4 e news.toArray)
      rw [put_eval_ne _ hs.ne.2.symm]
      exact put_eval _ (by rw [f0.size]; exact hlt.2.1)
    · refine wp_val (n4 _ w2 (hxn _ f0)) ⟨bel_alloc hc2 _, ?_⟩
      rw [n3]
      refine rg_one r0N b1 b2 fun w3 hc3 he3 => ?_
      have f1 := f0.put (d := sN) (by simp) (.slice (some ⟨w2.heap.size, 0, none⟩) 1 1)
      have ev1 : ((a0.put (some s0) (.slice (some ⟨w1.heap.size, 0, none⟩) 0 0)).put (some sN) (.slice (some ⟨w2.heap.size, 0, none⟩) 1 1)).eval (.tmp s0) = .slice (some ⟨w1.heap.size, 0, none⟩) 0 0 := by
        rw [put_eval_ne _ hs.ne.1.symm]; exact ev0
      have evN : ((a0.put (some s0) (.slice (some ⟨w1.heap.size, 0, none⟩) 0 0)).put (some sN) (.slice (some ⟨w2.heap.size, 0, none⟩) 1 1)).eval (.tmp sN) = .slice (some ⟨w2.heap.size, 0, none⟩) 1 1 := put_eval _ (by rw [f0.size]; exact hlt.2.2.1)
      have rdN : Rd w3 (some ⟨w2.heap.size, 0, none⟩) news := Rd.below (by simpa using rd_new w2 e news.toArray) he3
      refine SA _ w3 0 L f1 hc3 _ _ ev1 (own_keep (own_keep (own_keep ow0 he2) (bel_alloc (Below.refl _ _) _)) he3) _ fun A' c' w4 hf4 hx4 o4 g4 _ => ⟨hx4, ?_⟩
      rw [Array.setIfInBounds_comm _ _ (Ne.symm iAN)]
      have hz := he2.size
      refine S2 _ _ hf4 hx4 A' c' (put_eval _ (by rw [f1.size]; exact hlt.2.1)) o4 (some ⟨w2.heap.size, 0, none⟩) 1 ?_ (rdN.grown g4 (fun g h e => by
        simp only [ob, Option.map_some, Option.some.injEq] at h e
        simp at hz
        omega))
      rw [put_eval_ne _ hs.ne.2]
      exact evN
  · -- the element first
    refine wp_val (n4 a0 w1 (hxn _ (Fr.refl _ _))) ⟨bel_alloc hc1 _, ?_⟩
    rw [n3]
    have f0 : Fr [s0, sA, sN, sB, sD, dE] a0 (a0.put (some sN) (.slice (some ⟨w1.heap.size, 0, none⟩) 1 1)) := (Fr.refl _ _).put (by simp) _
    have evN : (a0.put (some sN) (.slice (some ⟨w1.heap.size, 0, none⟩) 1 1)).eval (.tmp sN) = .slice (some ⟨w1.heap.size, 0, none⟩) 1 1 := put_eval _ hlt.2.2.1
    have rdN0 : Rd (w1.alloc (.cells news.toArray e)) (some ⟨w1.heap.size, 0, none⟩) news := by simpa using rd_new w1 e news.toArray
    refine rg_one rN a1 a2 fun w2 hc2 he2 => ?_
    refine wp_val (a4 _ w2) ⟨bel_alloc hc2 _, ?_⟩
    rw [a3]
    rw [Array.setIfInBounds_comm _ _ (Ne.symm i0N)]
    refine rg_one r0N b1 b2 fun w3 hc3 he3 => ?_
    have f1 := f0.put (d := s0) (by simp) (.slice (some ⟨w2.heap.size, 0, none⟩) 0 0)
    have ev0 : ((a0.put (some sN) (.slice (some ⟨w1.heap.size, 0, none⟩) 1 1)).put (some s0) (.slice (some ⟨w2.heap.size, 0, none⟩) 0 0)).eval (.tmp s0) = .slice (some ⟨w2.heap.size, 0, none⟩) 0 0 := put_eval _ (by rw [f0.size]; exact hlt.1)
    have evN1 : ((a0.put (some sN) (.slice (some ⟨w1.heap.size, 0, none⟩) 1 1)).put (some s0) (.slice (some ⟨w2.heap.size, 0, none⟩) 0 0)).eval (.tmp sN) = .slice (some ⟨w1.heap.size, 0, none⟩) 1 1 := by
      rw [put_eval_ne _ hs.ne.1]; exact evN
    have rdN : Rd w3 (some ⟨w1.heap.size, 0, none⟩) news := ((rdN0.below he2).alloc _).below he3
    have ow0 := own_base (hsz0 w2) hc2.size
    refine SA _ w3 0 L f1 hc3 _ _ ev0 (own_keep ow0 he3) _ fun A' c' w4 hf4 hx4 o4 g4 _ => ⟨hx4, ?_⟩
    rw [Array.setIfInBounds_comm _ _ (Ne.symm iAN)]
    have hz := he2.size
    refine S2 _ _ hf4 hx4 A' c' (put_eval _ (by rw [f1.size]; exact hlt.2.1)) o4 (some ⟨w1.heap.size, 0, none⟩) 1 ?_ (rdN.grown g4 (fun g h e => by
      simp only [ob, Option.map_some, Option.some.injEq] at h e
      simp at hz
      omega))
    rw [put_eval_ne _ hs.ne.2]
    exact evN1
end
end Go.Proofs.YtfnphchcgaebkaaGreat

/- Cells put in order: the reference. -/
namespace Go.Proofs.YtfnphchcgaebkaaGreat
open Go.RowKit
set_option linter.unusedVariables false
attribute [local go_sem ↓] Go.wp_at_zero Go.wp_at_succ

def offC (c k : Nat) : Nat := if c = k then 0 else k * 2
theorem run_uptoC (w : World) (g m c k : Nat) (hk : k ≤ c) : (Instr.slice 24 (.slice (some ⟨g, 0, none⟩) m c) none (some (.int .i64 (k : Int))) none).run Tryz.prog w = .ok (.slice (some ⟨g, 0, none⟩) k c) w := by
  have h2 : (k : Int) ≤ (c : Int) := by omega
  simp [go_sem, h2]
theorem run_fromC (w : World) (g m c k : Nat) (hk : k ≤ m) : (Instr.slice 24 (.slice (some ⟨g, 0, none⟩) m c) (some (.int .i64 (k : Int))) none none).run Tryz.prog w = .ok (.slice (some ⟨g, offC c k, none⟩) (m - k) (c - k)) w := by
  have h1 : (0 : Int) ≤ (k : Int) := by omega
  have h2 : (k : Int) ≤ (m : Int) := by omega
  unfold offC
  by_cases hc : c = k
  · subst hc
    simp [go_sem, h2]
  · simp [go_sem, h2, hc]
theorem Rd.fromC {w : World} {g c k m : Nat} {l : List C} (h : Rd w (some ⟨g, 0, none⟩) (vC l)) (hl : l.length = m) (hmc : m ≤ c) : Rd w (some ⟨g, offC c k, none⟩) (vC (l.drop k)) := by
  rcases h with h | ⟨g', off, he, h⟩
  · have : l = [] := by
      have := congrArg List.length h
      rw [vC_length] at this
      exact List.eq_nil_of_length_eq_zero (by simp at this; omega)
    subst this
    simp [Rd, vC]
  · injection he with he
    injection he with h1 h2 h3
    subst h1 h2
    unfold offC
    split
    · next e =>
      have : l.drop k = [] := List.drop_of_length_le (by omega)
      rw [this]
      exact .inl rfl
    · refine .inr ⟨g, k * 2, rfl, fun j u hu => ?_⟩
      rw [vC_drop, List.getElem?_drop] at hu
      have := h _ _ hu
      simpa using this
theorem take_fold {α β : Type} (f : β → α → β) (b : β) (xs : List α) (k : Nat) (hk : k < xs.length) : (xs.take (k + 1)).foldl f b = f ((xs.take k).foldl f b) xs[k] := by
  rw [List.take_succ_eq_append_getElem hk, List.foldl_append]
  rfl
set_option maxRecDepth 100000 in
set_option maxHeartbeats 3200000 in
theorem SortCells_s (A : Option Addr) (n c : Nat) (xs : List C) (w : World) (hr : Rd w A (vC xs)) (hl : xs.length = n) (hn : n ≤ 1048576) :
    Calls Tryz.prog 41 #[.slice A n c] w (RetS w 40 2 (vC (sortC xs))) := by
  have HL := Lib.hid hl
  have HR := Lib.hid hr
  have hini := own_new w 40 2 0 #[] rfl (by simp [maxLen]) (base := w.heap.size) (Nat.le_refl _)
  have HI0 := Lib.hid hini
  clear hl hr hini
  go_enter Tryz.func41, Tryz.ntmps41
  go_wp2
  go_loopw [4, 3] (fun e4 e3 wr => ∃ (i g m cp : Nat), i ≤ n ∧ m ≤ i ∧ e4 = .int .i64 i ∧ e3 = .slice (some ⟨g, 0, none⟩) m cp ∧ wr.ownsRow w.heap.size 40 2 (.slice (some ⟨g, 0, none⟩) m cp) m (vC ((xs.take i).foldl (putG befC) [])) ∧ Below w.heap.size w wr) (fun e4 _ _ => n - (intOf e4).toNat)
  case atStart => exact ⟨0, _, 0, 0, Nat.zero_le _, Nat.zero_le _, rfl, by simp, HI0.out, (by (repeat (first | with_reducible exact Below.refl _ _ | with_reducible assumption | with_reducible apply bel_alloc | with_reducible apply bel_drew | with_reducible apply bel_drewN | ((with_reducible refine bel_set ?_ ?_); rotate_left; (simp <;> omega)) | (with_reducible refine bel_trans ?_ (by with_reducible assumption)))))⟩
  case round =>
    obtain ⟨i, g, m, cp, hi, hmn, rfl, rfl, hown, hb⟩ := hrel
    by_cases hlt : i < n
    · have hil : i < xs.length := by rw [HL.out]; exact hlt
      have hi0 : (0 : Int) ≤ (i : Int) := by omega
      have hi1 : (i : Int) < (n : Int) := by omega
      have hst := take_fold (putG befC) [] xs i hil
      obtain ⟨l, hle⟩ : ∃ l, (xs.take i).foldl (putG befC) [] = l := ⟨_, rfl⟩
      rw [hle] at hst hown
      obtain ⟨gx, ox, rfl, hgx, a1, a2⟩ := RdC.at_ (HR.out.below hb) hil
      obtain ⟨x, hx⟩ : ∃ x, xs[i].1 = x := ⟨_, rfl⟩
      obtain ⟨y, hy⟩ : ∃ y, xs[i].2 = y := ⟨_, rfl⟩
      have hxy : xs[i] = (x, y) := Prod.ext hx hy
      rw [hx] at a1
      rw [hy] at a2
      rw [hxy] at hst
      have hlm : l.length = m := by have := own_len hown; rw [vC_length] at this; omega
      have hmc : m ≤ cp ∧ cp ≤ 9223372036854775807 := by
        rcases hown.2 with ⟨h, _⟩ | ⟨g', cap, cur, hv, _, _, h1, h2, _⟩
        · cases h
        · injection hv with _ _ h3
          unfold maxLen at h2
          omega
      obtain ⟨hmc1, hmc2⟩ := hmc
      have hlr := Rd.of_own hown
      have hgl := (own_lt hown g rfl).2
      have HLM := Lib.hid hlm
      have HO := Lib.hid hown
      have HLR0 := Lib.hid hlr
      have hcm : cutG befC l (x, y) l.length = cutG befC l (x, y) m := by rw [hlm]
      have HIN : Hid (∀ k', cutG befC l (x, y) m = k' → ¬ (0 < k' ∧ l.getD (k' - 1) default = (x, y)) → putG befC l (x, y) = l.take k' ++ [(x, y)] ++ l.drop k') := fun k' h1 h2 => putG_new (hcm.trans h1) h2
      have HSM : Hid (∀ k', cutG befC l (x, y) m = k' → 0 < k' → l.getD (k' - 1) default = (x, y) → putG befC l (x, y) = l) := fun k' h1 h2 h3 => putG_same (hcm.trans h1) h2 h3
      have HST := Lib.hid hst
      have HBW := Lib.hid hb
      have HBZ := Lib.hid hb.size
      clear hlm hown hlr hcm hst hle hx hy hxy hb
      go_wp2
      go_loopw [5] (fun e5 wr2 => ∃ k : Nat, k ≤ m ∧ e5 = .int .i64 k ∧ cutG befC l (x, y) m = cutG befC l (x, y) k ∧ Below wr.heap.size wr wr2) (fun e5 _ => (intOf e5).toNat)
      case atStart => exact ⟨m, Nat.le_refl _, rfl, rfl, Below.refl _ _⟩
      case round =>
        obtain ⟨k, hk, rfl, hcut, hb2⟩ := hrel
        have HLR := Lib.hid (HLR0.out.below hb2)
        have f1 : wr.cell? ⟨gx, ox + i * 2, none⟩ = some (.int .i64 x) := (hb2.cell hgx).trans a1
        have f2 : wr.cell? ⟨gx, ox + i * 2 + 1, none⟩ = some (.int .i64 y) := (hb2.cell hgx).trans a2
        have HCUT := Lib.hid hcut
        have hgx2 : gx < wr.heap.size := Nat.lt_of_lt_of_le hgx hb2.size
        have hgl2 : g < wr.heap.size := Nat.lt_of_lt_of_le hgl hb2.size
        have HB := Lib.hid (bel_trans HBW.out hb2)
        have HBS : Hid (w.heap.size ≤ wr.heap.size) := (HB.out).size
        have hbs2 := HBS.out
        clear a1 a2 hcut
        by_cases hk0 : 0 < k
        · obtain ⟨j, hjk⟩ : ∃ j, k = j + 1 := ⟨k - 1, by omega⟩
          have hjl : j < l.length := by rw [HLM.out]; omega
          obtain ⟨g', off, he, _, b1, b2⟩ := RdC.at_ HLR.out hjl
          simp only [Option.some.injEq, Addr.mk.injEq, and_true] at he
          obtain ⟨rfl, rfl⟩ := he
          rw [Nat.zero_add] at b1 b2
          have hgd : l.getD j default = l[j] := by rw [List.getD_eq_getElem?_getD, List.getElem?_eq_getElem hjl]; rfl
          obtain ⟨p, hp⟩ : ∃ p, l[j].1 = p := ⟨_, rfl⟩
          obtain ⟨q, hq⟩ : ∃ q, l[j].2 = q := ⟨_, rfl⟩
          have hpq : l[j] = (p, q) := Prod.ext hp hq
          rw [hp] at b1
          rw [hq] at b2
          rw [hpq] at hgd
          have HG := Lib.hid hgd
          have hj1 : (k : Int) - 1 = (j : Int) := by omega
          have hj0 : (0 : Int) ≤ (j : Int) := by omega
          have hjw : IntKind.i64.wrap (j : Int) = (j : Int) := Go.IntWalk.i64_in _ (by omega)
          have hjm : (j : Int) < (m : Int) := by omega
          have hkp : (k : Int) > 0 := by omega
          have HJ := Lib.hid hjk
          have HK0 := Lib.hid hk0
          clear hgd hp hq hpq hjk
          cases hbf : befC (x, y) (p, q) with
          | true =>
            have HN : Hid (cutG befC l (x, y) m = cutG befC l (x, y) j) := by show _ = _; rw [HCUT.out, HJ.out]; show (if befC (x, y) (l.getD j default) = true then _ else _) = _; rw [HG.out, if_pos hbf]
            have HBF := Lib.hid hbf
            clear hbf
            go_wp2_with fail
            (refine wp_region_below (by kernel_rfl) (by kernel_rfl) ?_; (repeat (first | go_big_quiet_skip | (refine quietV (v := ?_) (by rfl) rfl (fun w' hbw => ?_) ?_; rotate_left; ((try dsimp only at hbw); have hbc := (bcell hbw).1; have hbf := (bcell hbw).2; go_simp; first | done | with_reducible rfl | exact callsBB (l2Before_s x y p q _) HBF.out hbw); simp only [List.setIfInBounds_toArray, List.set_cons_zero, List.set_cons_succ]))); refine wpQuiet_nil ?_; intro wq hbq)
            go_wp2_with fail
            exact ⟨⟨j, by omega, rfl, HN.out, bel_trans hb2 hbq⟩, by simp [intOf]; have := HJ.out; omega⟩
          | false =>
            have HN : Hid (cutG befC l (x, y) m = k) := by show _ = _; rw [HCUT.out, HJ.out]; show (if befC (x, y) (l.getD j default) = true then _ else _) = _; rw [HG.out, if_neg (by rw [hbf]; simp)]
            have HBF := Lib.hid hbf
            clear hbf
            by_cases hsame : p = x ∧ q = y
            · obtain ⟨rfl, rfl⟩ := hsame
              have HV := Lib.hid (HSM.out k HN.out HK0.out (by rw [show k - 1 = j from by have := HJ.out; omega]; exact HG.out))
              go_wp2_with fail
              (refine wp_region_below (by kernel_rfl) (by kernel_rfl) ?_; (repeat (first | go_big_quiet_skip | (refine quietV (v := ?_) (by rfl) rfl (fun w' hbw => ?_) ?_; rotate_left; ((try dsimp only at hbw); have hbc := (bcell hbw).1; have hbf := (bcell hbw).2; go_simp; first | done | with_reducible rfl | exact callsBB (l2Before_s p q p q _) HBF.out hbw); simp only [List.setIfInBounds_toArray, List.set_cons_zero, List.set_cons_succ]))); refine wpQuiet_nil ?_; intro wq hbq)
              have c1 : wq.cell? ⟨gx, ox + i * 2, none⟩ = some (.int .i64 p) := (hbq.cell hgx2).trans f1
              have c2 : wq.cell? ⟨gx, ox + i * 2 + 1, none⟩ = some (.int .i64 q) := (hbq.cell hgx2).trans f2
              have c3 : wq.cell? ⟨g, j * 2, none⟩ = some (.int .i64 p) := (hbq.cell hgl2).trans b1
              have c4 : wq.cell? ⟨g, j * 2 + 1, none⟩ = some (.int .i64 q) := (hbq.cell hgl2).trans b2
              have hgxq : gx < wq.heap.size := Nat.lt_of_lt_of_le hgx2 hbq.size
              have hglq : g < wq.heap.size := Nat.lt_of_lt_of_le hgl2 hbq.size
              clear f1 f2 b1 b2
              go_wp2_with fail
              (refine wp_region_below (by kernel_rfl) (by kernel_rfl) ?_; (repeat (first | go_big_quiet_skip | (refine quietV (v := ?_) (by rfl) rfl (fun w' hbw => ?_) ?_; rotate_left; ((try dsimp only at hbw); have hbc := (bcell hbw).1; have hbf := (bcell hbw).2; go_simp; first | done | with_reducible rfl | fail); simp only [List.setIfInBounds_toArray, List.set_cons_zero, List.set_cons_succ]))); refine wpQuiet_nil ?_; intro wz hbz)
              go_wp2_with fail
              exact ⟨⟨i + 1, g, m, cp, by omega, by omega, by go_num, rfl, by rw [HST.out, HV.out]; exact own_keep (own_keep (own_keep HO.out hb2) hbq) hbz, bel_trans (bel_trans HB.out hbq) hbz⟩, by simp [intOf]; omega⟩
            · have HV := Lib.hid (HIN.out k HN.out (fun h => hsame (by have := h.2; rw [show k - 1 = j from by have := HJ.out; omega, HG.out] at this; injection this with h1 h2; exact ⟨h1, h2⟩)))
              have hne : (p == x && q == y) = false := by
                rw [Bool.and_eq_false_iff, beq_eq_false_iff_ne, beq_eq_false_iff_ne]
                by_cases h1 : p = x
                · exact .inr fun h2 => hsame ⟨h1, h2⟩
                · exact .inl h1
              clear hsame
              go_wp2_with fail
              (refine wp_region_below (by kernel_rfl) (by kernel_rfl) ?_; (repeat (first | go_big_quiet_skip | (refine quietV (v := ?_) (by rfl) rfl (fun w' hbw => ?_) ?_; rotate_left; ((try dsimp only at hbw); have hbc := (bcell hbw).1; have hbf := (bcell hbw).2; go_simp; first | done | with_reducible rfl | exact callsBB (l2Before_s x y p q _) HBF.out hbw); simp only [List.setIfInBounds_toArray, List.set_cons_zero, List.set_cons_succ]))); refine wpQuiet_nil ?_; intro wq hbq)
              have c1 : wq.cell? ⟨gx, ox + i * 2, none⟩ = some (.int .i64 x) := (hbq.cell hgx2).trans f1
              have c2 : wq.cell? ⟨gx, ox + i * 2 + 1, none⟩ = some (.int .i64 y) := (hbq.cell hgx2).trans f2
              have c3 : wq.cell? ⟨g, j * 2, none⟩ = some (.int .i64 p) := (hbq.cell hgl2).trans b1
              have c4 : wq.cell? ⟨g, j * 2 + 1, none⟩ = some (.int .i64 q) := (hbq.cell hgl2).trans b2
              have hgxq : gx < wq.heap.size := Nat.lt_of_lt_of_le hgx2 hbq.size
              have hglq : g < wq.heap.size := Nat.lt_of_lt_of_le hgl2 hbq.size
              clear f1 f2 b1 b2
              go_wp2_with fail
              (refine wp_region_below (by kernel_rfl) (by kernel_rfl) ?_; (repeat (first | go_big_quiet_skip | (refine quietV (v := ?_) (by rfl) rfl (fun w' hbw => ?_) ?_; rotate_left; ((try dsimp only at hbw); have hbc := (bcell hbw).1; have hbf := (bcell hbw).2; go_simp; first | done | with_reducible rfl | fail); simp only [List.setIfInBounds_toArray, List.set_cons_zero, List.set_cons_succ]))); refine wpQuiet_nil ?_; intro wz hbz)
              have f1 : wz.cell? ⟨gx, ox + i * 2, none⟩ = some (.int .i64 x) := (hbz.cell hgxq).trans c1
              have f2 : wz.cell? ⟨gx, ox + i * 2 + 1, none⟩ = some (.int .i64 y) := (hbz.cell hgxq).trans c2
              have hgxz : gx < wz.heap.size := Nat.lt_of_lt_of_le hgxq hbz.size
              replace HLR := Lib.hid ((HLR.out.below hbq).below hbz)
              replace HB := Lib.hid (bel_trans (bel_trans HB.out hbq) hbz)
              replace HBS : Hid (w.heap.size ≤ wz.heap.size) := (HB.out).size
              clear c1 c2 c3 c4
              go_wp2_with fail
              obtain ⟨i0, hi, hz0, hz1, hz2⟩ := info_parts infoC
              have hs1 : ∀ w', (Instr.slice 24 (.slice (some ⟨g, 0, none⟩) m cp) none (some (.int .i64 (k : Int))) none).run Tryz.prog w' = .ok (.slice (some ⟨g, 0, none⟩) k cp) w' := fun w' => run_uptoC w' g m cp k (by omega)
              have hs2 : ∀ w', (Instr.slice 24 (.slice (some ⟨g, 0, none⟩) m cp) (some (.int .i64 (k : Int))) none none).run Tryz.prog w' = .ok (.slice (some ⟨g, offC cp k, none⟩) (m - k) (cp - k)) w' := fun w' => run_fromC w' g m cp k (by omega)
              have R2 : Hid (Rd wz (some ⟨g, offC cp k, none⟩) (vC (l.drop k))) := Rd.fromC HLR.out HLM.out (by omega)
              have R1 : Hid (Rd wz (some ⟨g, 0, none⟩) (vC (l.take k))) := by show Rd _ _ _; rw [vC_take]; exact Rd.take HLR.out _
              have L1 : Hid ((l.take k).length = k) := by show (l.take k).length = k; rw [List.length_take, HLM.out]; omega
              have L2 : Hid ((l.drop k).length = m - k) := by show (l.drop k).length = m - k; rw [List.length_drop, HLM.out]
              have HI := Lib.hid hi
              have HZ0 := Lib.hid hz0
              have HZ1 := Lib.hid hz1
              have HZ2 := Lib.hid hz2
              clear hi hz0 hz1 hz2
              refine wp_region_rg 16 rfl (by kernel_rfl) ?_
              (refine rgT (i := 1) (v := ?_) rfl rfl (by kernel_rfl) (by kernel_rfl) (by kernel_rfl) (by rfl) (fun w' hcw => ?_) ?_; rotate_left; ((try dsimp only at hcw); have hbc := hcw.cells; go_simp; first | done | with_reducible rfl); simp only [List.setIfInBounds_toArray, List.set_cons_zero, List.set_cons_succ])
              (refine rgT (i := 2) (v := ?_) rfl rfl (by kernel_rfl) (by kernel_rfl) (by kernel_rfl) (by rfl) (fun w' hcw => ?_) ?_; rotate_left; ((try dsimp only at hcw); have hbc := hcw.cells; go_simp; first | done | with_reducible rfl); simp only [List.setIfInBounds_toArray, List.set_cons_zero, List.set_cons_succ])
              (refine rgT (i := 3) (v := ?_) rfl rfl (by kernel_rfl) (by kernel_rfl) (by kernel_rfl) (by rfl) (fun w' hcw => ?_) ?_; rotate_left; ((try dsimp only at hcw); have hbc := hcw.cells; go_simp; first | done | with_reducible rfl); simp only [List.setIfInBounds_toArray, List.set_cons_zero, List.set_cons_succ])
              (refine rgT (i := 5) (v := ?_) rfl rfl (by kernel_rfl) (by kernel_rfl) (by kernel_rfl) (by rfl) (fun w' hcw => ?_) ?_; rotate_left; ((try dsimp only at hcw); have hbc := hcw.cells; go_simp; first | done | with_reducible rfl); simp only [List.setIfInBounds_toArray, List.set_cons_zero, List.set_cons_succ])
              (refine rgT (i := 6) (v := ?_) rfl rfl (by kernel_rfl) (by kernel_rfl) (by kernel_rfl) (by rfl) (fun w' hcw => ?_) ?_; rotate_left; ((try dsimp only at hcw); have hbc := hcw.cells; go_simp; first | done | with_reducible rfl); simp only [List.setIfInBounds_toArray, List.set_cons_zero, List.set_cons_succ])
              (refine rgT (i := 7) (v := ?_) rfl rfl (by kernel_rfl) (by kernel_rfl) (by kernel_rfl) (by rfl) (fun w' hcw => ?_) ?_; rotate_left; ((try dsimp only at hcw); have hbc := hcw.cells; go_simp; first | done | with_reducible rfl); simp only [List.setIfInBounds_toArray, List.set_cons_zero, List.set_cons_succ])
              (refine rgT (i := 8) (v := ?_) rfl rfl (by kernel_rfl) (by kernel_rfl) (by kernel_rfl) (by rfl) (fun w' hcw => ?_) ?_; rotate_left; ((try dsimp only at hcw); have hbc := hcw.cells; go_simp; first | done | with_reducible rfl); simp only [List.setIfInBounds_toArray, List.set_cons_zero, List.set_cons_succ])
              (refine rgT (i := 11) (v := ?_) rfl rfl (by kernel_rfl) (by kernel_rfl) (by kernel_rfl) (by rfl) (fun w' hcw => ?_) ?_; rotate_left; ((try dsimp only at hcw); have hbc := hcw.cells; go_simp; first | done | with_reducible rfl); simp only [List.setIfInBounds_toArray, List.set_cons_zero, List.set_cons_succ])
              (refine rgT (i := 12) (v := ?_) rfl rfl (by kernel_rfl) (by kernel_rfl) (by kernel_rfl) (by rfl) (fun w' hcw => ?_) ?_; rotate_left; ((try dsimp only at hcw); have hbc := hcw.cells; go_simp; first | done | with_reducible rfl); simp only [List.setIfInBounds_toArray, List.set_cons_zero, List.set_cons_succ])
              (refine rgT (i := 13) (v := ?_) rfl rfl (by kernel_rfl) (by kernel_rfl) (by kernel_rfl) (by rfl) (fun w' hcw => ?_) ?_; rotate_left; ((try dsimp only at hcw); have hbc := hcw.cells; go_simp; first | done | with_reducible rfl); simp only [List.setIfInBounds_toArray, List.set_cons_zero, List.set_cons_succ])
              refine ins_tail (T := 24) (e := 40) (i := i0) (z := .agg #[.int .i64 0, .int .i64 0]) (size := 2) (bytes := 16) (i0 := 0) (iA := 4) (iN := 9) (iB := 10) (iD := 14) (iE := 15) (s0 := 45) (sA := 49) (sN := 54) (sB := 55) (sD := 59) (dE := 3) (t1 := 48) (t2 := 58) (xn := .tmp 53) (vn := .agg #[.int .i64 x, .int .i64 y]) (news := vC [(x, y)]) (vs1 := vC (l.take k)) (vs2 := vC (l.drop k)) (A1 := some ⟨g, 0, none⟩) (m1 := k) (c1 := cp) (A2 := some ⟨g, offC cp k, none⟩) (m2 := m - k) (c2 := cp - k) _ ?ht ?hi ?hz ?h1 ?h2 rfl (by omega) ⟨⟨_, rfl, rfl, rfl, fun a w => ?p0⟩, ⟨_, rfl, rfl, rfl, rfl⟩, ⟨_, rfl, rfl, rfl, fun a w h => ?pN⟩, ⟨_, rfl, rfl, rfl, rfl⟩, ⟨_, rfl, rfl, rfl, rfl⟩, ⟨_, rfl, rfl, rfl, rfl⟩⟩ ⟨by simp, by decide, by decide, by decide⟩ (fun a h => (h.eval (by decide)).trans rfl) (by kernel_rfl) (by kernel_rfl) (by kernel_rfl) (by kernel_rfl) (by kernel_rfl) (by decide) (by decide) (by kernel_rfl) (by kernel_rfl) (by kernel_rfl) (by kernel_rfl) rfl ?q1 ?l1 ?o1 rfl ?q2 ?l2 ?o2 ?ln ?on ?hm ?hb ?hQ
              case ht => exact Tryz.underlying24
              case hi => exact HI.out
              case hz => exact HZ0.out
              case h1 => exact HZ1.out
              case h2 => exact HZ2.out
              case p0 => simp [go_sem, execOp]
              case pN => (generalize Act.eval a = ρ at h ⊢; simp [go_sem, execOp, h, vC])
              case q1 => exact R1.out
              case l1 => rw [vC_length, L1.out] <;> omega
              case o1 => exact vC_one _
              case q2 => exact R2.out
              case l2 => rw [vC_length, L2.out] <;> omega
              case o2 => exact vC_one _
              case ln => rfl
              case on => exact vC_one _
              case hm => omega
              case hb => omega
              case hQ =>
                intro a' w' A' c' hfr hev how hex
                obtain ⟨v0, vA, vN, vB, vD, rfl⟩ := hfr.form hev
                rw [← vC_append, ← vC_append, ← HV.out, ← HST.out] at how
                obtain ⟨g', rfl, _, _⟩ := own_at how (by omega)
                have HOW := Lib.hid (own_base how HBS.out)
                clear how hev hfr
                refine NoPanic.normal ?_
                simp only [List.setIfInBounds_toArray, List.set_cons_zero, List.set_cons_succ]
                go_wp2
                exact ⟨⟨i + 1, g', k + 1 + (m - k), c', by omega, by omega, by go_num, by rfl, HOW.out, bel_trans HB.out hex⟩, by simp [intOf]; omega⟩
        · obtain rfl : k = 0 := by omega
          have HN : Hid (cutG befC l (x, y) m = 0) := HCUT.out
          have HV := Lib.hid (HIN.out 0 HN.out (fun h => absurd h.1 (by omega)))
          obtain ⟨k, hkz⟩ : ∃ k : Nat, 0 = k := ⟨0, rfl⟩
          have hkp : ¬ 0 < k := by omega
          have hkp2 : decide (0 < k) = false := by simp; omega
          have HKZ := Lib.hid hkz
          rw [hkz] at HV hk
          rw [show ((0 : Nat) : Int) = (k : Int) from by rw [hkz]]
          clear hkz
          go_wp2_with fail
          (refine wp_region_below (by kernel_rfl) (by kernel_rfl) ?_; (repeat (first | go_big_quiet_skip | (refine quietV (v := ?_) (by rfl) rfl (fun w' hbw => ?_) ?_; rotate_left; ((try dsimp only at hbw); have hbc := (bcell hbw).1; have hbf := (bcell hbw).2; go_simp; first | done | with_reducible rfl | fail); simp only [List.setIfInBounds_toArray, List.set_cons_zero, List.set_cons_succ]))); refine wpQuiet_nil ?_; intro wq hbq)
          go_wp2_with fail
          (refine wp_region_below (by kernel_rfl) (by kernel_rfl) ?_; (repeat (first | go_big_quiet_skip | (refine quietV (v := ?_) (by rfl) rfl (fun w' hbw => ?_) ?_; rotate_left; ((try dsimp only at hbw); have hbc := (bcell hbw).1; have hbf := (bcell hbw).2; go_simp; first | done | with_reducible rfl | fail); simp only [List.setIfInBounds_toArray, List.set_cons_zero, List.set_cons_succ]))); refine wpQuiet_nil ?_; intro wz hbz)
          have c1 : wz.cell? ⟨gx, ox + i * 2, none⟩ = some (.int .i64 x) := (hbz.cell (Nat.lt_of_lt_of_le hgx2 hbq.size)).trans ((hbq.cell hgx2).trans f1)
          have c2 : wz.cell? ⟨gx, ox + i * 2 + 1, none⟩ = some (.int .i64 y) := (hbz.cell (Nat.lt_of_lt_of_le hgx2 hbq.size)).trans ((hbq.cell hgx2).trans f2)
          have hgxz : gx < wz.heap.size := Nat.lt_of_lt_of_le hgx2 (Nat.le_trans hbq.size hbz.size)
          replace HLR := Lib.hid ((HLR.out.below hbq).below hbz)
          replace HB := Lib.hid (bel_trans (bel_trans HB.out hbq) hbz)
          replace HBS : Hid (w.heap.size ≤ wz.heap.size) := (HB.out).size
          clear f1 f2
          go_wp2_with fail
          obtain ⟨i0, hi, hz0, hz1, hz2⟩ := info_parts infoC
          have hs1 : ∀ w', (Instr.slice 24 (.slice (some ⟨g, 0, none⟩) m cp) none (some (.int .i64 (k : Int))) none).run Tryz.prog w' = .ok (.slice (some ⟨g, 0, none⟩) k cp) w' := fun w' => run_uptoC w' g m cp k (by omega)
          have hs2 : ∀ w', (Instr.slice 24 (.slice (some ⟨g, 0, none⟩) m cp) (some (.int .i64 (k : Int))) none none).run Tryz.prog w' = .ok (.slice (some ⟨g, offC cp k, none⟩) (m - k) (cp - k)) w' := fun w' => run_fromC w' g m cp k (by omega)
          have R2 : Hid (Rd wz (some ⟨g, offC cp k, none⟩) (vC (l.drop k))) := Rd.fromC HLR.out HLM.out (by omega)
          have R1 : Hid (Rd wz (some ⟨g, 0, none⟩) (vC (l.take k))) := by show Rd _ _ _; rw [vC_take]; exact Rd.take HLR.out _
          have L1 : Hid ((l.take k).length = k) := by show (l.take k).length = k; rw [List.length_take, HLM.out]; omega
          have L2 : Hid ((l.drop k).length = m - k) := by show (l.drop k).length = m - k; rw [List.length_drop, HLM.out]
          have HI := Lib.hid hi
          have HZ0 := Lib.hid hz0
          have HZ1 := Lib.hid hz1
          have HZ2 := Lib.hid hz2
          clear hi hz0 hz1 hz2
          refine wp_region_rg 16 rfl (by kernel_rfl) ?_
          (refine rgT (i := 1) (v := ?_) rfl rfl (by kernel_rfl) (by kernel_rfl) (by kernel_rfl) (by rfl) (fun w' hcw => ?_) ?_; rotate_left; ((try dsimp only at hcw); have hbc := hcw.cells; go_simp; first | done | with_reducible rfl); simp only [List.setIfInBounds_toArray, List.set_cons_zero, List.set_cons_succ])
          (refine rgT (i := 2) (v := ?_) rfl rfl (by kernel_rfl) (by kernel_rfl) (by kernel_rfl) (by rfl) (fun w' hcw => ?_) ?_; rotate_left; ((try dsimp only at hcw); have hbc := hcw.cells; go_simp; first | done | with_reducible rfl); simp only [List.setIfInBounds_toArray, List.set_cons_zero, List.set_cons_succ])
          (refine rgT (i := 3) (v := ?_) rfl rfl (by kernel_rfl) (by kernel_rfl) (by kernel_rfl) (by rfl) (fun w' hcw => ?_) ?_; rotate_left; ((try dsimp only at hcw); have hbc := hcw.cells; go_simp; first | done | with_reducible rfl); simp only [List.setIfInBounds_toArray, List.set_cons_zero, List.set_cons_succ])
          (refine rgT (i := 5) (v := ?_) rfl rfl (by kernel_rfl) (by kernel_rfl) (by kernel_rfl) (by rfl) (fun w' hcw => ?_) ?_; rotate_left; ((try dsimp only at hcw); have hbc := hcw.cells; go_simp; first | done | with_reducible rfl); simp only [List.setIfInBounds_toArray, List.set_cons_zero, List.set_cons_succ])
          (refine rgT (i := 6) (v := ?_) rfl rfl (by kernel_rfl) (by kernel_rfl) (by kernel_rfl) (by rfl) (fun w' hcw => ?_) ?_; rotate_left; ((try dsimp only at hcw); have hbc := hcw.cells; go_simp; first | done | with_reducible rfl); simp only [List.setIfInBounds_toArray, List.set_cons_zero, List.set_cons_succ])
          (refine rgT (i := 7) (v := ?_) rfl rfl (by kernel_rfl) (by kernel_rfl) (by kernel_rfl) (by rfl) (fun w' hcw => ?_) ?_; rotate_left; ((try dsimp only at hcw); have hbc := hcw.cells; go_simp; first | done | with_reducible rfl); simp only [List.setIfInBounds_toArray, List.set_cons_zero, List.set_cons_succ])
          (refine rgT (i := 8) (v := ?_) rfl rfl (by kernel_rfl) (by kernel_rfl) (by kernel_rfl) (by rfl) (fun w' hcw => ?_) ?_; rotate_left; ((try dsimp only at hcw); have hbc := hcw.cells; go_simp; first | done | with_reducible rfl); simp only [List.setIfInBounds_toArray, List.set_cons_zero, List.set_cons_succ])
          (refine rgT (i := 11) (v := ?_) rfl rfl (by kernel_rfl) (by kernel_rfl) (by kernel_rfl) (by rfl) (fun w' hcw => ?_) ?_; rotate_left; ((try dsimp only at hcw); have hbc := hcw.cells; go_simp; first | done | with_reducible rfl); simp only [List.setIfInBounds_toArray, List.set_cons_zero, List.set_cons_succ])
          (refine rgT (i := 12) (v := ?_) rfl rfl (by kernel_rfl) (by kernel_rfl) (by kernel_rfl) (by rfl) (fun w' hcw => ?_) ?_; rotate_left; ((try dsimp only at hcw); have hbc := hcw.cells; go_simp; first | done | with_reducible rfl); simp only [List.setIfInBounds_toArray, List.set_cons_zero, List.set_cons_succ])
          (refine rgT (i := 13) (v := ?_) rfl rfl (by kernel_rfl) (by kernel_rfl) (by kernel_rfl) (by rfl) (fun w' hcw => ?_) ?_; rotate_left; ((try dsimp only at hcw); have hbc := hcw.cells; go_simp; first | done | with_reducible rfl); simp only [List.setIfInBounds_toArray, List.set_cons_zero, List.set_cons_succ])
          refine ins_tail (T := 24) (e := 40) (i := i0) (z := .agg #[.int .i64 0, .int .i64 0]) (size := 2) (bytes := 16) (i0 := 0) (iA := 4) (iN := 9) (iB := 10) (iD := 14) (iE := 15) (s0 := 45) (sA := 49) (sN := 54) (sB := 55) (sD := 59) (dE := 3) (t1 := 48) (t2 := 58) (xn := .tmp 53) (vn := .agg #[.int .i64 x, .int .i64 y]) (news := vC [(x, y)]) (vs1 := vC (l.take k)) (vs2 := vC (l.drop k)) (A1 := some ⟨g, 0, none⟩) (m1 := k) (c1 := cp) (A2 := some ⟨g, offC cp k, none⟩) (m2 := m - k) (c2 := cp - k) _ ?ht ?hi ?hz ?h1 ?h2 rfl (by omega) ⟨⟨_, rfl, rfl, rfl, fun a w => ?p0⟩, ⟨_, rfl, rfl, rfl, rfl⟩, ⟨_, rfl, rfl, rfl, fun a w h => ?pN⟩, ⟨_, rfl, rfl, rfl, rfl⟩, ⟨_, rfl, rfl, rfl, rfl⟩, ⟨_, rfl, rfl, rfl, rfl⟩⟩ ⟨by simp, by decide, by decide, by decide⟩ (fun a h => (h.eval (by decide)).trans rfl) (by kernel_rfl) (by kernel_rfl) (by kernel_rfl) (by kernel_rfl) (by kernel_rfl) (by decide) (by decide) (by kernel_rfl) (by kernel_rfl) (by kernel_rfl) (by kernel_rfl) rfl ?q1 ?l1 ?o1 rfl ?q2 ?l2 ?o2 ?ln ?on ?hm ?hb ?hQ
          case ht => exact Tryz.underlying24
          case hi => exact HI.out
          case hz => exact HZ0.out
          case h1 => exact HZ1.out
          case h2 => exact HZ2.out
          case p0 => simp [go_sem, execOp]
          case pN => (generalize Act.eval a = ρ at h ⊢; simp [go_sem, execOp, h, vC])
          case q1 => exact R1.out
          case l1 => rw [vC_length, L1.out] <;> omega
          case o1 => exact vC_one _
          case q2 => exact R2.out
          case l2 => rw [vC_length, L2.out] <;> omega
          case o2 => exact vC_one _
          case ln => rfl
          case on => exact vC_one _
          case hm => omega
          case hb => omega
          case hQ =>
            intro a' w' A' c' hfr hev how hex
            obtain ⟨v0, vA, vN, vB, vD, rfl⟩ := hfr.form hev
            rw [← vC_append, ← vC_append, ← HV.out, ← HST.out] at how
            obtain ⟨g', rfl, _, _⟩ := own_at how (by omega)
            have HOW := Lib.hid (own_base how HBS.out)
            clear how hev hfr
            refine NoPanic.normal ?_
            simp only [List.setIfInBounds_toArray, List.set_cons_zero, List.set_cons_succ]
            go_wp2
            exact ⟨⟨i + 1, g', k + 1 + (m - k), c', by omega, by omega, by go_num, by rfl, HOW.out, bel_trans HB.out hex⟩, by simp [intOf]; omega⟩
    · have hin : i = n := by omega
      have hv : (xs.take i).foldl (putG befC) [] = sortC xs := by rw [List.take_of_length_le (by rw [HL.out]; omega)]; rfl
      rw [hv] at hown
      have HO := Lib.hid hown
      subst hin
      have hi1 : ¬ (i : Int) < (i : Int) := by omega
      clear hown hv
      go_wp2
      go_ret
      exact ⟨_, _, _, rfl, HO.out, hb⟩
end Go.Proofs.YtfnphchcgaebkaaGreat

/- The shape of a word of few letters: the program's and the reference's. -/
namespace Go.Proofs.YtfnphchcgaebkaaGreat
open Go.RowKit
set_option linter.unusedVariables false
attribute [local go_sem ↓] Go.wp_at_zero Go.wp_at_succ
theorem way_small {s : ByteArray} {l : List C} (h : wayW (0, 0) s.data.toList = some l) (hs : s.size ≤ 20) : ∀ d ∈ l, small d := by
  intro d hd
  obtain ⟨i, hi, rfl⟩ := List.mem_iff_getElem.1 hd
  have hl := wayW_len h
  rw [data_len] at hl
  have he := way_at h i (by rw [data_len]; omega)
  rw [getD_of hi] at he
  have hb := endW_bound he 0 (by rw [List.length_take, data_len]; omega) (by simp)
  rw [List.length_take, data_len] at hb
  unfold small
  omega
set_option maxHeartbeats 1600000 in
theorem ShapeOfWord_i (s : ByteArray) (w : World) (hs : s.size ≤ 11) : Calls Tryz.prog 9 #[.string s] w (RetS2 w 40 2 (vC (sowV s.data.toList).1) (.bool (sowV s.data.toList).2)) := by
  cases hw : wayW (0, 0) s.data.toList with
  | none =>
    have HV := Lib.hid (sowV_none hw)
    have HW := Lib.hid hw
    clear hw
    go_enter Tryz.func9, Tryz.ntmps9
    go_wp2_with fail
    refine (wayOf_i s 20 _ (by omega) (by omega)).mono ?_
    rw [HW.out]
    rintro e w1 ⟨rfl, hb1⟩
    go_wp2_with fail
    go_ret2
    exact ⟨none, 0, 0, by rw [HV.out]; rfl, by rw [HV.out]; exact own_nil _ _ _ _, hb1⟩
  | some l =>
    have hl := wayW_len hw
    rw [data_len] at hl
    have hsm := way_small hw (by omega)
    cases hsh : isShape (cornI l) with
    | false =>
      have HV := Lib.hid (sowV_no hw hsh)
      have HW := Lib.hid hw
      have HSH := Lib.hid hsh
      have HSM := Lib.hid hsm
      have HL := Lib.hid hl
      clear hw hsh hsm hl
      go_enter Tryz.func9, Tryz.ntmps9
      go_wp2_with fail
      refine (wayOf_i s 20 _ (by omega) (by omega)).mono ?_
      rw [HW.out]
      rintro e w1 ⟨A, n, c, rfl, hown, hb1⟩
      have hn : l.length = n := by have h1 := own_len hown; rw [vC_length] at h1; omega
      have HN := Lib.hid hn
      have HO := Lib.hid (Rd.of_own hown)
      have hnb : 1 ≤ n ∧ n ≤ 12 := by have := HL.out; omega
      clear hown hn
      go_wp2_with fail
      refine (corner_i A n c l w1 HO.out HN.out hnb.1 hnb.2 HSM.out).mono ?_
      rintro e w2 ⟨B, m, cb, rfl, hO2, hb2⟩
      have hm : (cornI l).length = m := by have h1 := own_len hO2; rw [vC_length] at h1; omega
      have hml : m ≤ 1048576 := by have := cornI_len l; have := HN.out; omega
      have HM := Lib.hid hm
      have HR2 := Lib.hid (Rd.of_own hO2)
      have HB2 := Lib.hid (bel_trans hb1 hb2)
      clear hO2 hb2 hm
      go_wp2_with fail
      refine (IsShape_i B m cb (cornI l) w2 HR2.out HM.out (by omega)).mono ?_
      rw [HSH.out]
      rintro e w3 ⟨rfl, hb3⟩
      go_wp2_with fail
      go_ret2
      exact ⟨none, 0, 0, by rw [HV.out]; rfl, by rw [HV.out]; exact own_nil _ _ _ _, bel_trans HB2.out hb3⟩
    | true =>
      have HV := Lib.hid (sowV_yes hw hsh)
      have HW := Lib.hid hw
      have HSH := Lib.hid hsh
      have HSM := Lib.hid hsm
      have HL := Lib.hid hl
      clear hw hsh hsm hl
      go_enter Tryz.func9, Tryz.ntmps9
      go_wp2_with fail
      refine (wayOf_i s 20 _ (by omega) (by omega)).mono ?_
      rw [HW.out]
      rintro e w1 ⟨A, n, c, rfl, hown, hb1⟩
      have hn : l.length = n := by have h1 := own_len hown; rw [vC_length] at h1; omega
      have HN := Lib.hid hn
      have HO := Lib.hid (Rd.of_own hown)
      have hnb : 1 ≤ n ∧ n ≤ 12 := by have := HL.out; omega
      clear hown hn
      go_wp2_with fail
      refine (corner_i A n c l w1 HO.out HN.out hnb.1 hnb.2 HSM.out).mono ?_
      rintro e w2 ⟨B, m, cb, rfl, hO2, hb2⟩
      have hm : (cornI l).length = m := by have h1 := own_len hO2; rw [vC_length] at h1; omega
      have hml : m ≤ 1048576 := by have := cornI_len l; have := HN.out; omega
      have HM := Lib.hid hm
      have HO2 := Lib.hid hO2
      have hbz := hb1.size
      have HB2 := Lib.hid (bel_trans hb1 hb2)
      clear hO2 hb2 hm
      go_wp2_with fail
      refine (IsShape_i B m cb (cornI l) w2 (Rd.of_own HO2.out) HM.out (by omega)).mono ?_
      rw [HSH.out]
      rintro e w3 ⟨rfl, hb3⟩
      have HO3 := Lib.hid (own_keep HO2.out hb3)
      go_wp2_with fail
      go_ret2
      exact ⟨B, m, cb, by rw [HV.out]; rfl, by rw [HV.out]; exact own_base HO3.out hbz, bel_trans HB2.out hb3⟩
end Go.Proofs.YtfnphchcgaebkaaGreat

/- Regions, masks and motions of a grid: plain functions. No program is in sight. -/
namespace Go.Proofs.YtfnphchcgaebkaaGreat
open Go.RowKit
set_option linter.unusedVariables false
/-- A region that is right. -/
def isReg (W : Int) (rows : List Int) : Bool :=
  ((decide (1 ≤ W) && decide (W ≤ 6)) && (decide (1 ≤ (rows.length : Int)) && decide ((rows.length : Int) ≤ 6))) && rows.all (fun x => decide (0 ≤ x) && decide (x < 2 ^ W.toNat))
theorem isReg_yes {W : Int} {rows : List Int} (h : isReg W rows = true) :
    ∃ n : Nat, W = (n : Int) ∧ 1 ≤ n ∧ n ≤ 6 ∧ 1 ≤ rows.length ∧ rows.length ≤ 6 ∧ ∀ k (hk : k < rows.length), ∃ q : Nat, rows[k] = (q : Int) ∧ q < 2 ^ n := by
  unfold isReg at h
  simp only [Bool.and_eq_true, decide_eq_true_eq, List.all_eq_true] at h
  obtain ⟨⟨⟨h1, h2⟩, h3, h4⟩, h5⟩ := h
  refine ⟨W.toNat, by omega, by omega, by omega, by omega, by omega, fun k hk => ?_⟩
  obtain ⟨h6, h7⟩ := h5 _ (List.getElem_mem hk)
  obtain ⟨q, hq⟩ := Int.eq_ofNat_of_zero_le h6
  rw [hq] at h7
  exact ⟨q, hq, by exact_mod_cast h7⟩
/-- The mask of the rows below k. -/
def mkTo (n : Nat) (rows : List Int) : Nat → Nat
  | 0 => 0
  | k + 1 => mkTo n rows k + (rows.getD k 0).toNat * 2 ^ (k * n)
theorem mkTo_lt {n : Nat} {rows : List Int} (h : ∀ k (hk : k < rows.length), ∃ q : Nat, rows[k] = (q : Int) ∧ q < 2 ^ n) : ∀ k, k ≤ rows.length → mkTo n rows k < 2 ^ (k * n)
  | 0, _ => by simp [mkTo]
  | k + 1, hk => by
    have h1 := mkTo_lt h k (by omega)
    obtain ⟨q, hq, hlt⟩ := h k (by omega)
    have e : (rows.getD k 0).toNat = q := by rw [List.getD_eq_getElem?_getD, List.getElem?_eq_getElem (by omega), Option.getD_some, hq]; rfl
    show mkTo n rows k + _ < _
    rw [e, Nat.succ_mul, Nat.pow_add]
    have : q + 1 ≤ 2 ^ n := hlt
    calc mkTo n rows k + q * 2 ^ (k * n) < 2 ^ (k * n) + q * 2 ^ (k * n) := by omega
      _ = (q + 1) * 2 ^ (k * n) := by rw [Nat.succ_mul]; omega
      _ ≤ 2 ^ n * 2 ^ (k * n) := Nat.mul_le_mul_right _ this
      _ = 2 ^ (k * n) * 2 ^ n := Nat.mul_comm _ _
/-- A bit that is not there is added. -/
theorem or_bit {a d : Nat} (ha : a < 2 ^ 62) (hd : d < 62) (h : a.testBit d = false) : a ||| 2 ^ d = a + 2 ^ d := by
  have hp : 2 ^ d < 2 ^ 62 := Nat.pow_lt_pow_right (by decide) hd
  have h0 : BitVec.ofNat 64 a &&& BitVec.ofNat 64 (2 ^ d) = 0#64 := by
    apply BitVec.eq_of_toNat_eq
    rw [BitVec.toNat_and, BitVec.toNat_ofNat, BitVec.toNat_ofNat, Nat.mod_eq_of_lt (by omega), Nat.mod_eq_of_lt (by omega)]
    apply Nat.eq_of_testBit_eq
    intro i
    rw [Nat.testBit_and, Nat.testBit_two_pow]
    by_cases e : d = i
    · subst e; simp [h]
    · simp [e]
  have h1 := congrArg BitVec.toNat (BitVec.add_eq_or_of_and_eq_zero _ _ h0)
  rw [BitVec.toNat_add, BitVec.toNat_or, BitVec.toNat_ofNat, BitVec.toNat_ofNat, Nat.mod_eq_of_lt (by omega : a < 2 ^ 64), Nat.mod_eq_of_lt (by omega : 2 ^ d < 2 ^ 64), Nat.mod_eq_of_lt (by omega)] at h1
  exact h1.symm
theorem wraps_i64 (n : Int) (h₀ : 0 ≤ n) (h₁ : n < 2 ^ 63) : IntKind.i64.wrap n = n := by rw [IntKind.wrap_i64]; omega
theorem i64_or (a b : Nat) (ha : a < 2 ^ 63) (hb : b < 2 ^ 63) : bits .or .i64 (a : Int) (b : Int) = ((a ||| b : Nat) : Int) := (bits_nat .i64 63 (by decide) wraps_i64 a b ha hb).2
theorem i64_and (a b : Nat) (ha : a < 2 ^ 63) (hb : b < 2 ^ 63) : bits .and .i64 (a : Int) (b : Int) = ((a &&& b : Nat) : Int) := (bits_nat .i64 63 (by decide) wraps_i64 a b ha hb).1
theorem or_high {a b i : Nat} (ha : a < 2 ^ i) : a ||| b * 2 ^ i = a + b * 2 ^ i := by
  rw [Nat.or_comm, Nat.mul_comm, Nat.add_comm]
  exact (Nat.two_pow_add_eq_or_of_lt ha b).symm
theorem bit_and (m k : Nat) : m / 2 ^ k % 2 = (m.testBit k).toNat := by
  rw [Nat.testBit_eq_decide_div_mod_eq]
  rcases Nat.mod_two_eq_zero_or_one (m / 2 ^ k) with h | h <;> simp [h]
/-- A quarter turn: width, height, place. -/
abbrev Q4 := Int × Int × Int × Int
def quarter (q : Q4) : Q4 := (q.2.1, q.1, q.2.1 - 1 - q.2.2.2, q.2.2.1)
def rot : Nat → Q4 → Q4
  | 0, q => q
  | k + 1, q => quarter (rot k q)
def okQ (q : Q4) : Prop := 1 ≤ q.1 ∧ q.1 ≤ 6 ∧ 1 ≤ q.2.1 ∧ q.2.1 ≤ 6 ∧ 0 ≤ q.2.2.1 ∧ q.2.2.1 < q.1 ∧ 0 ≤ q.2.2.2 ∧ q.2.2.2 < q.2.1
theorem okQ_quarter {q : Q4} (h : okQ q) : okQ (quarter q) := by
  unfold okQ quarter at *
  simp only
  omega
theorem okQ_rot {q : Q4} (h : okQ q) : ∀ k, okQ (rot k q)
  | 0 => h
  | k + 1 => okQ_quarter (okQ_rot h k)
/-- Where a motion carries a place. -/
def startQ (w h x y : Int) (m : Nat) : Q4 := (w, h, if 4 ≤ m then w - 1 - x else x, y)
def carry (w h x y : Int) (m : Nat) : Q4 := rot (m % 4) (startQ w h x y m)
theorem okQ_start {w h x y : Int} (m : Nat) (hq : okQ (w, h, x, y)) : okQ (startQ w h x y m) := by
  unfold okQ startQ at *
  simp only at hq ⊢
  split <;> omega
/-- The number of the place where a motion carries place i of a grid. -/
def pos (n h m i : Nat) : Nat := ((carry n h ((i % n : Nat) : Int) ((i / n : Nat) : Int) m).2.2.2 * n + (carry n h ((i % n : Nat) : Int) ((i / n : Nat) : Int) m).2.2.1).toNat
def goesM (n h m : Nat) : Bool := m % 2 == 0 || n == h
def posOk (n h m : Nat) : Bool := !goesM n h m || ((List.range (n * h)).map (pos n h m)).Nodup && (List.range (n * h)).all fun i => decide (pos n h m i < n * h)
theorem posOk_all : ((List.range 7).all fun n => (List.range 7).all fun h => (List.range 8).all fun m => n == 0 || h == 0 || posOk n h m) = true := by decide +kernel
theorem pos_ok {n h m : Nat} (hn : 1 ≤ n ∧ n ≤ 6) (hh : 1 ≤ h ∧ h ≤ 6) (hm : m < 8) (hg : goesM n h m = true) :
    (∀ i, i < n * h → pos n h m i < n * h) ∧ ∀ i j, i < n * h → j < n * h → pos n h m i = pos n h m j → i = j := by
  have h0 := posOk_all
  simp only [List.all_eq_true, List.mem_range, Bool.or_eq_true, beq_iff_eq] at h0
  have h1 := h0 n (by omega) h (by omega) m hm
  have h2 : posOk n h m = true := by
    rcases h1 with (h1 | h1) | h1
    · omega
    · omega
    · exact h1
  unfold posOk at h2
  rw [hg] at h2
  simp only [Bool.not_true, Bool.false_or, Bool.and_eq_true, decide_eq_true_eq, List.all_eq_true, List.mem_range] at h2
  refine ⟨h2.2, fun i j hi hj e => ?_⟩
  have hp := List.pairwise_iff_getElem.1 h2.1
  rcases Nat.lt_trichotomy i j with hij | hij | hij
  · exact absurd e (by have := hp i j (by simpa using hi) (by simpa using hj) hij; simpa using this)
  · exact hij
  · exact absurd e.symm (by have := hp j i (by simpa using hj) (by simpa using hi) hij; simpa using this)
/-- The mask that a motion makes of the places below k. -/
def turnTo (n h m mask : Nat) : Nat → Nat
  | 0 => 0
  | k + 1 => turnTo n h m mask k + (if mask.testBit k then 2 ^ pos n h m k else 0)
theorem turn_bits {n h m mask : Nat} (hp : ∀ i j, i < n * h → j < n * h → pos n h m i = pos n h m j → i = j) (hl : ∀ i, i < n * h → pos n h m i < n * h) (h36 : n * h ≤ 36) :
    ∀ k, k ≤ n * h → turnTo n h m mask k < 2 ^ (n * h) ∧ ∀ j, (turnTo n h m mask k).testBit j = true → ∃ i, i < k ∧ mask.testBit i = true ∧ pos n h m i = j
  | 0, _ => ⟨by simp [turnTo]; exact Nat.pow_pos (by decide), fun j hj => by simp [turnTo] at hj⟩
  | k + 1, hk => by
    obtain ⟨h1, h2⟩ := turn_bits hp hl h36 k (by omega)
    have h62 : (2 : Nat) ^ (n * h) ≤ 2 ^ 36 := Nat.pow_le_pow_right (by decide) h36
    by_cases hb : mask.testBit k = true
    · have hk2 := hl k (by omega)
      have hnb : (turnTo n h m mask k).testBit (pos n h m k) = false := by
        cases e : (turnTo n h m mask k).testBit (pos n h m k) with
        | false => rfl
        | true =>
          obtain ⟨i, hi, _, hpi⟩ := h2 _ e
          have := hp i k (by omega) (by omega) hpi
          omega
      have e : turnTo n h m mask (k + 1) = turnTo n h m mask k ||| 2 ^ pos n h m k := by
        show turnTo n h m mask k + _ = _
        rw [if_pos hb, or_bit (by omega) (by omega) hnb]
      rw [e]
      refine ⟨Nat.or_lt_two_pow h1 (Nat.pow_lt_pow_right (by decide) hk2), fun j hj => ?_⟩
      rw [Nat.testBit_or, Bool.or_eq_true, Nat.testBit_two_pow] at hj
      rcases hj with hj | hj
      · obtain ⟨i, hi, h3⟩ := h2 j hj
        exact ⟨i, by omega, h3⟩
      · exact ⟨k, by omega, hb, by simpa using hj⟩
    · have e : turnTo n h m mask (k + 1) = turnTo n h m mask k := by
        show turnTo n h m mask k + _ = _
        rw [if_neg hb, Nat.add_zero]
      rw [e]
      refine ⟨h1, fun j hj => ?_⟩
      obtain ⟨i, hi, h3⟩ := h2 j hj
      exact ⟨i, by omega, h3⟩
theorem turn_or {n h m mask : Nat} (hp : ∀ i j, i < n * h → j < n * h → pos n h m i = pos n h m j → i = j) (hl : ∀ i, i < n * h → pos n h m i < n * h) (h36 : n * h ≤ 36) {k : Nat} (hk : k < n * h) (hb : mask.testBit k = true) :
    turnTo n h m mask (k + 1) = turnTo n h m mask k ||| 2 ^ pos n h m k := by
  obtain ⟨h1, h2⟩ := turn_bits hp hl h36 k (mask := mask) (by omega)
  have h62 : (2 : Nat) ^ (n * h) ≤ 2 ^ 36 := Nat.pow_le_pow_right (by decide) h36
  have hk2 := hl k hk
  have hnb : (turnTo n h m mask k).testBit (pos n h m k) = false := by
    cases e : (turnTo n h m mask k).testBit (pos n h m k) with
    | false => rfl
    | true =>
      obtain ⟨i, hi, _, hpi⟩ := h2 _ e
      have := hp i k (by omega) (by omega) hpi
      omega
  show turnTo n h m mask k + _ = _
  rw [if_pos hb, or_bit (by omega) (by omega) hnb]
end Go.Proofs.YtfnphchcgaebkaaGreat

/- The reference's draws: numbers below a bound, out of bytes. -/
namespace Go.Proofs.YtfnphchcgaebkaaGreat
open Go.RowKit
set_option linter.unusedVariables false
attribute [local go_sem ↓] Go.wp_at_zero Go.wp_at_succ
/-- A cursor over bytes. -/
structure Cur (w : World) (g : Nat) (A : Option Addr) (n c : Nat) (bs : List UInt8) : Prop where
  blk : ∃ (i : Nat) (h : Int), i ≤ n ∧ Blk w g 62 #[.slice A n c, .int .i64 (i : Int), .int .i64 h]
  rd : Rd w A (vB bs)
  len : bs.length = n
  ne : 0 < n → ob A ≠ some g
theorem Cur.below {w w' : World} {g : Nat} {A : Option Addr} {n c : Nat} {bs : List UInt8} (h : Cur w g A n c bs) (hb : Below w.heap.size w w') : Cur w' g A n c bs := by
  obtain ⟨i, x, hi, hB⟩ := h.blk
  exact ⟨⟨i, x, hi, hB.below hb⟩, h.rd.below hb, h.len, h.ne⟩
theorem and255 (x : Int) : ∃ q : Nat, bits .and .i64 x 255 = (q : Int) ∧ q < 256 := by
  refine ⟨(BitVec.ofInt 64 x &&& BitVec.ofInt 64 255).toNat, ?_, ?_⟩
  · show IntKind.i64.wrap ((BitVec.ofInt 64 x &&& BitVec.ofInt 64 255).toNat : Int) = _
    have hlt : (BitVec.ofInt 64 x &&& BitVec.ofInt 64 255).toNat ≤ 255 := by
      rw [BitVec.toNat_and]
      exact Nat.le_trans Nat.and_le_right (by decide)
    exact Go.IntWalk.i64_in _ (by omega)
  · have hlt : (BitVec.ofInt 64 x &&& BitVec.ofInt 64 255).toNat ≤ 255 := by
      rw [BitVec.toNat_and]
      exact Nat.le_trans Nat.and_le_right (by decide)
    omega
theorem RdB.at_ {w : World} {A : Option Addr} {xs : List UInt8} (h : Rd w A (vB xs)) {k : Nat} (hk : k < xs.length) : ∃ g off, A = some ⟨g, off, none⟩ ∧ g < w.heap.size ∧ w.cell? ⟨g, off + k, none⟩ = some (.int .u8 (xs[k].toNat : Nat)) := by
  rcases h with h | ⟨g, off, rfl, h⟩
  · have h2 := congrArg List.length h
    simp [vB] at h2
    subst h2
    simp at hk
  · have h2 := h k (.int .u8 (xs[k].toNat : Nat)) (by simp [vB, List.getElem?_eq_getElem hk])
    exact ⟨g, off, rfl, World.block_lt_of_cell? w _ h2, h2⟩
theorem Cur.set_ {w : World} {g : Nat} {A : Option Addr} {n c : Nat} {bs : List UInt8} (h : Cur w g A n c bs) {cs : Array Value} {k : Nat} {u : Value} (hB : Blk w g 62 cs) (hk : ∃ (i : Nat) (h : Int), i ≤ n ∧ cs.setIfInBounds k u = #[.slice A n c, .int .i64 (i : Int), .int .i64 h]) : Cur (w.setCell ⟨g, k, none⟩ u) g A n c bs := by
  obtain ⟨i, x, hi, hx⟩ := hk
  refine ⟨⟨i, x, hi, hx ▸ hB.set_ k u⟩, ?_, h.len, h.ne⟩
  by_cases h0 : 0 < n
  · rcases h.rd with h1 | ⟨g', off, rfl, h1⟩
    · exact .inl h1
    · refine .inr ⟨g', off, rfl, fun j v hv => (World.cell?_setCell_other w _ _ u (fun e => h.ne h0 ?_)).trans (h1 j v hv)⟩
      simp only [Addr.mk.injEq] at e
      simp [ob, e.1]
  · left
    have := h.len
    rw [List.eq_nil_of_length_eq_zero (by omega : bs.length = 0)]
    rfl
/-- A number below a bound was drawn. -/
def RetDraw (w : World) (g : Nat) (A : Option Addr) (n c : Nat) (bs : List UInt8) (m : Nat) (e : Ending) (w' : World) : Prop :=
  ∃ q : Nat, e = .returned (.int .i64 (q : Int)) ∧ q < m ∧ Cur w' g A n c bs ∧ w.grownBy w' (some g)
def RetCur (w : World) (A : Option Addr) (n c : Nat) (bs : List UInt8) (e : Ending) (w' : World) : Prop :=
  ∃ g, e = .returned (.pointer (some ⟨g, 0, none⟩)) ∧ Cur w' g A n c bs ∧ w.heap.size ≤ g ∧ Below w.heap.size w w'
set_option maxHeartbeats 800000 in
theorem l1New_s (A : Option Addr) (n c : Nat) (bs : List UInt8) (w : World) (hr : Rd w A (vB bs)) (hl : bs.length = n) (hn : n ≤ 1048576) :
    Calls Tryz.prog 39 #[.slice A n c] w (RetCur w A n c bs) := by
  have HR := Lib.hid hr
  have HL := Lib.hid hl
  clear hr hl
  go_enter Tryz.func39, Tryz.ntmps39
  go_wp2_with fail
  go_loopw [4, 3] (fun e4 e3 wr => ∃ (i : Nat) (h : Int), i ≤ n ∧ e4 = .int .i64 i ∧ e3 = .int .i64 h ∧ Below w.heap.size w wr) (fun e4 _ _ => n - (intOf e4).toNat)
  case atStart => exact ⟨0, _, Nat.zero_le _, rfl, rfl, Below.refl _ _⟩
  case round =>
    obtain ⟨i, h, hi, rfl, rfl, hb⟩ := hrel
    have HB := Lib.hid hb
    clear hb
    by_cases hlt : i < n
    · have hi0 : (0 : Int) ≤ (i : Int) := by omega
      have hi1 : (i : Int) < (n : Int) := by omega
      by_cases h4 : i < 4000
      · have h41 : (i : Int) < 4000 := by omega
        have hil : i < bs.length := by rw [HL.out]; exact hlt
        obtain ⟨g, off, hA, hg, d1⟩ := RdB.at_ (HR.out.below HB.out) hil
        obtain ⟨b, hb⟩ : ∃ b, bs[i] = b := ⟨_, rfl⟩
        rw [hb] at d1
        have ebb : IntKind.i64.wrap (b.toNat : Int) = (b.toNat : Int) := Go.IntWalk.i64_in _ (by have := b.toNat_lt; omega)
        obtain ⟨a1, ha1⟩ : ∃ a1, IntKind.i64.wrap (h * 131) = a1 := ⟨_, rfl⟩
        obtain ⟨a2, ha2⟩ : ∃ a2, IntKind.i64.wrap (a1 + (b.toNat : Int)) = a2 := ⟨_, rfl⟩
        obtain ⟨a3, ha3⟩ : ∃ a3, IntKind.i64.wrap (a2 + 7) = a3 := ⟨_, rfl⟩
        obtain ⟨a4, ha4⟩ : ∃ a4, bits .and .i64 a3 1073741823 = a4 := ⟨_, rfl⟩
        subst hA
        clear hb
        go_wp2_with fail
        exact ⟨⟨i + 1, a4, by omega, by go_num, rfl, HB.out⟩, by simp [intOf]; omega⟩
      · have h41 : ¬ (i : Int) < 4000 := by omega
        go_wp2_with fail
        go_ret
        have hA : 0 < n → ob A ≠ some wr.heap.size := fun _ e => by
          obtain ⟨g, off, hA, hg, d1⟩ := RdB.at_ (HR.out.below HB.out) (show 0 < bs.length by rw [HL.out]; omega)
          subst hA
          simp only [ob, Option.map_some, Option.some.injEq] at e
          omega
        exact ⟨_, rfl, ⟨⟨0, h, Nat.zero_le _, Blk.new _ _ _⟩, (HR.out.below HB.out).alloc _, HL.out, hA⟩, HB.out.size, bel_alloc HB.out _⟩
    · obtain rfl : i = n := by omega
      have hi1 : ¬ (i : Int) < (i : Int) := by omega
      go_wp2_with fail
      go_ret
      have hA : 0 < i → ob A ≠ some wr.heap.size := fun h0 e => by
        obtain ⟨g, off, hA, hg, d1⟩ := RdB.at_ (HR.out.below HB.out) (show 0 < bs.length by rw [HL.out]; omega)
        subst hA
        simp only [ob, Option.map_some, Option.some.injEq] at e
        omega
      exact ⟨_, rfl, ⟨⟨0, h, Nat.zero_le _, Blk.new _ _ _⟩, (HR.out.below HB.out).alloc _, HL.out, hA⟩, HB.out.size, bel_alloc HB.out _⟩
set_option maxHeartbeats 800000 in
theorem l1Byte_s (A : Option Addr) (n c g : Nat) (bs : List UInt8) (w : World) (hc : Cur w g A n c bs) (hn : n ≤ 1048576) :
    Calls Tryz.prog 63 #[.pointer (some ⟨g, 0, none⟩)] w (RetDraw w g A n c bs 256) := by
  obtain ⟨i, h, hi, hB⟩ := hc.blk
  have c0 : w.cell? ⟨g, 0, none⟩ = some (.slice A n c) := by simpa using hB.cell 0
  have c1 : w.cell? ⟨g, 1, none⟩ = some (.int .i64 (i : Int)) := by simpa using hB.cell 1
  have c2 : w.cell? ⟨g, 2, none⟩ = some (.int .i64 h) := by simpa using hB.cell 2
  have f2 := hB.frozen 2
  have hg := hB.lt
  obtain ⟨a1, ha1⟩ : ∃ a1, IntKind.i64.wrap (h * 6364136223846793005) = a1 := ⟨_, rfl⟩
  obtain ⟨a2, ha2⟩ : ∃ a2, IntKind.i64.wrap (a1 + 1442695040888963407) = a2 := ⟨_, rfl⟩
  go_enter Tryz.func63, Tryz.ntmps63
  go_wp2_with fail
  have hB1 := hB.set_ 2 (.int .i64 a2)
  have hC1 := hc.set_ (k := 2) (u := .int .i64 a2) hB ⟨i, a2, hi, rfl⟩
  have hG1 : w.grownBy (w.setCell ⟨g, 2, none⟩ (.int .i64 a2)) (some g) := grown_set (p := ⟨g, 2, none⟩) (World.grownBy.refl _ _) rfl _
  obtain ⟨w1, hw1⟩ : ∃ w1, w.setCell ⟨g, 2, none⟩ (.int .i64 a2) = w1 := ⟨_, rfl⟩
  rw [hw1] at hB1 hC1 hG1 ⊢
  have HG1 := Lib.hid hG1
  have HC1 := Lib.hid hC1
  have HB1 := Lib.hid hB1
  have d0 : w1.cell? ⟨g, 0, none⟩ = some (.slice A n c) := by simpa using hB1.cell 0
  have d1 : w1.cell? ⟨g, 1, none⟩ = some (.int .i64 (i : Int)) := by simpa using hB1.cell 1
  have d2 : w1.cell? ⟨g, 2, none⟩ = some (.int .i64 a2) := by simpa using hB1.cell 2
  have l1 := hB1.lt
  have HI := Lib.hid hi
  clear hw1 c0 c1 c2 f2 hg hB hc hC1 hG1 hB1 ha1 ha2 hi
  (refine wp_region_below (by kernel_rfl) (by kernel_rfl) ?_; (repeat (first | go_big_quiet_skip | (refine quietV (v := ?_) (by rfl) rfl (fun w' hbw => ?_) ?_; rotate_left; ((try dsimp only at hbw); have hbc := (bcell hbw).1; have hbf := (bcell hbw).2; go_simp; first | done | with_reducible rfl | fail); simp only [List.setIfInBounds_toArray, List.set_cons_zero, List.set_cons_succ]))); refine wpQuiet_nil ?_; intro wq hbq)
  obtain ⟨q1, hq1, hlt1⟩ := and255 (bits BinOp.xor IntKind.i64 (a2 / 8589934592) (a2 / 35184372088832))
  have d0 := keep_below hbq d0
  have d1 := keep_below hbq d1
  have d2 := keep_below hbq d2
  have l1 : g < wq.heap.size := Nat.lt_of_lt_of_le l1 hbq.size
  have HBQ := Lib.hid hbq
  rw [hq1]
  clear hq1 hbq
  go_wp2_with fail
  (refine wp_region_below (by kernel_rfl) (by kernel_rfl) ?_; (repeat (first | go_big_quiet_skip | (refine quietV (v := ?_) (by rfl) rfl (fun w' hbw => ?_) ?_; rotate_left; ((try dsimp only at hbw); have hbc := (bcell hbw).1; have hbf := (bcell hbw).2; go_simp; first | done | with_reducible rfl | fail); simp only [List.setIfInBounds_toArray, List.set_cons_zero, List.set_cons_succ]))); refine wpQuiet_nil ?_; intro wp hbp)
  have d0 := keep_below hbp d0
  have d1 := keep_below hbp d1
  have l1 : g < wp.heap.size := Nat.lt_of_lt_of_le l1 hbp.size
  have HBP := Lib.hid (bel_trans HBQ.out hbp)
  clear hbp HBQ d2
  have hgr : ∀ w2 : World, Below w1.heap.size w1 w2 → w.grownBy w2 (some g) := fun w2 h => ⟨h.os.trans HG1.out.os, h.tape.trans HG1.out.tape, h.output.trans HG1.out.output, Nat.le_trans HG1.out.size h.size, fun k hk hn => (h.block k (Nat.lt_of_lt_of_le hk HG1.out.size)).trans (HG1.out.block k hk hn)⟩
  have HGR := Lib.hid @hgr
  clear hgr
  by_cases hlt : i < n
  · have hi1 : (i : Int) < (n : Int) := by omega
    have hi0 : (0 : Int) ≤ (i : Int) := by omega
    have hil : i < bs.length := by rw [HC1.out.len]; exact hlt
    obtain ⟨gb, off, hA, hgb, e1⟩ := RdB.at_ (HC1.out.rd.below HBP.out) hil
    obtain ⟨b, hb⟩ : ∃ b, bs[i] = b := ⟨_, rfl⟩
    rw [hb] at e1
    have hbl := b.toNat_lt
    have ebb : IntKind.i64.wrap (b.toNat : Int) = (b.toNat : Int) := Go.IntWalk.i64_in _ (by omega)
    have eq1 : IntKind.i64.wrap ((q1 : Int) + (b.toNat : Int)) = (q1 : Int) + (b.toNat : Int) := Go.IntWalk.i64_in _ (by omega)
    obtain ⟨q2, hq2, hlt2⟩ := and255 ((q1 : Int) + (b.toNat : Int))
    subst hA
    have HBB := Lib.hid hbl
    clear hb hbl
    go_wp2_with fail
    (refine wp_region_below (by kernel_rfl) (by kernel_rfl) ?_; (repeat (first | go_big_quiet_skip | (refine quietV (v := ?_) (by rfl) rfl (fun w' hbw => ?_) ?_; rotate_left; ((try dsimp only at hbw); have hbc := (bcell hbw).1; have hbf := (bcell hbw).2; go_simp; first | done | with_reducible rfl | fail); simp only [List.setIfInBounds_toArray, List.set_cons_zero, List.set_cons_succ]))); refine wpQuiet_nil ?_; intro wr hbr)
    have HBR := Lib.hid (bel_trans HBP.out hbr)
    have d0 := keep_below hbr d0
    have d1 := keep_below hbr d1
    have l1 : g < wr.heap.size := Nat.lt_of_lt_of_le l1 hbr.size
    have hBr := HB1.out.below HBR.out
    have f1 := hBr.frozen 1
    have ei : IntKind.i64.wrap ((i : Int) + 1) = ((i + 1 : Nat) : Int) := by rw [Go.IntWalk.i64_in _ (by have := HC1.out.len; omega)]; omega
    clear eq1 ebb e1 hbr hgb d0 hq2
    go_wp2_with fail
    go_ret
    exact ⟨q2, rfl, hlt2, (HC1.out.below HBR.out).set_ (k := 1) (u := .int .i64 ((i + 1 : Nat) : Int)) hBr ⟨i + 1, a2, by omega, rfl⟩, grown_set (p := ⟨g, 1, none⟩) (HGR.out _ HBR.out) rfl _⟩
  · have hi1 : ¬ (i : Int) < (n : Int) := by omega
    go_wp2_with fail
    go_ret
    exact ⟨q1, rfl, hlt1, HC1.out.below HBP.out, HGR.out _ HBP.out⟩
set_option maxHeartbeats 800000 in
theorem l1Below_s (A : Option Addr) (n c g k : Nat) (bs : List UInt8) (w : World) (hc : Cur w g A n c bs) (hn : n ≤ 1048576) (hk1 : 1 ≤ k) (hk : k ≤ 256) :
    Calls Tryz.prog 45 #[.pointer (some ⟨g, 0, none⟩), .int .i64 (k : Int)] w (RetDraw w g A n c bs k) := by
  have h0 : ¬ (k : Int) ≤ 0 := by omega
  have h2 : (k : Int) ≤ 256 := by omega
  have HC := Lib.hid hc
  clear hc
  go_enter Tryz.func45, Tryz.ntmps45
  go_wp2_with fail
  refine (l1Byte_s A n c g bs w HC.out hn).mono ?_
  rintro e w1 ⟨q, rfl, hq, hc1, hg1⟩
  have HC1 := Lib.hid hc1
  have HG1 := Lib.hid hg1
  obtain ⟨r, hr⟩ : ∃ r, q % k = r := ⟨_, rfl⟩
  have hrl : r < k := by rw [← hr]; exact Nat.mod_lt _ (by omega)
  have hrm : (q : Int) % (k : Int) = (r : Int) := by rw [← hr]; simp
  have hrm2 : (q : Int).tmod (k : Int) = (r : Int) := by rw [← hr]; simp [Int.tmod]
  have hkz : ((k : Int) == 0) = false := by simp; omega
  have er : IntKind.i64.wrap (r : Int) = (r : Int) := Go.IntWalk.i64_in _ (by omega)
  clear hc1 hg1 hr
  go_wp2_with fail
  go_ret
  exact ⟨r, rfl, hrl, HC1.out, HG1.out⟩
end Go.Proofs.YtfnphchcgaebkaaGreat

/- A queue: a slice of the call's own that may begin in the middle of its block; taken from at the front, appended to. -/
namespace Go.Proofs.YtfnphchcgaebkaaGreat
open Go.RowKit
set_option linter.unusedVariables false
/-- The slice at cell off of block g, n elements long, owns its row. -/
def World.ownsQ (w : World) (base e size g off n c : Nat) (xs : List Value) : Prop :=
  xs.length = n * size ∧ n ≤ c ∧ c ≤ maxLen ∧ base ≤ g ∧ ∃ cur : Array Value, w.heap[g]? = some (.cells cur e (0, 0)) ∧ off + c * size ≤ cur.size ∧ (cur.toList.drop off).take (n * size) = xs
section
variable {w w' : World} {base e size g off n c : Nat} {xs : List Value}
theorem ownQ_of {A : Option Addr} (h : w.ownsRow base e size (.slice A n c) n xs) (hn : 0 < n) : ∃ g, A = some ⟨g, 0, none⟩ ∧ World.ownsQ w base e size g 0 n c xs := by
  rcases h.2 with ⟨_, rfl⟩ | ⟨g, cap, cur, hv, hb, hg, hnc, hcm, hcs, ht⟩
  · omega
  · injection hv with h1 h2 h3
    subst h1 h3
    exact ⟨g, rfl, h.1, hnc, hcm, hb, cur, hg, by rw [hcs]; omega, by simpa using ht⟩
theorem ownQ_keep (h : World.ownsQ w base e size g off n c xs) (hb : Below w.heap.size w w') : World.ownsQ w' base e size g off n c xs := by
  obtain ⟨h1, h2, h3, h4, cur, hg, h5, h6⟩ := h
  exact ⟨h1, h2, h3, h4, cur, (hb.block g (Array.getElem?_eq_some_iff.1 hg).1).trans hg, h5, h6⟩
theorem ownQ_kept {row : Option Nat} (h : World.ownsQ w base e size g off n c xs) (hb : w.grownBy w' row) (hne : some g ≠ row) : World.ownsQ w' base e size g off n c xs := by
  obtain ⟨h1, h2, h3, h4, cur, hg, h5, h6⟩ := h
  exact ⟨h1, h2, h3, h4, cur, (hb.block g (Array.getElem?_eq_some_iff.1 hg).1 hne).trans hg, h5, h6⟩
theorem ownQ_lt (h : World.ownsQ w base e size g off n c xs) : base ≤ g ∧ g < w.heap.size := by
  obtain ⟨h1, h2, h3, h4, cur, hg, h5, h6⟩ := h
  exact ⟨h4, (Array.getElem?_eq_some_iff.1 hg).1⟩
theorem Rd.of_ownQ (h : World.ownsQ w base e size g off n c xs) : Rd w (some ⟨g, off, none⟩) xs := by
  obtain ⟨h1, h2, h3, h4, cur, hg, h5, h6⟩ := h
  refine .inr ⟨g, off, rfl, fun j u hu => ?_⟩
  rw [cell_of_row w g (off + j) cur e (0, 0) hg]
  rw [← h6, List.getElem?_take] at hu
  split at hu
  · rw [List.getElem?_drop] at hu; simpa using hu
  · cases hu
/-- The front is taken away. -/
theorem ownQ_tail (h : World.ownsQ w base e size g off (n + 1) c xs) : World.ownsQ w base e size g (if c = 1 then off else off + size) n (c - 1) (xs.drop size) := by
  obtain ⟨h1, h2, h3, h4, cur, hg, h5, h6⟩ := h
  refine ⟨by rw [List.length_drop, h1, Nat.add_mul]; omega, by omega, by omega, h4, cur, hg, ?_, ?_⟩
  · split
    · next e => subst e; simp at h5 ⊢; omega
    · obtain ⟨k, rfl⟩ : ∃ k, c = k + 1 := ⟨c - 1, by omega⟩
      simp only [Nat.add_sub_cancel, Nat.add_mul, Nat.one_mul] at h5 ⊢
      omega
  · subst h6
    split
    · next e =>
      have : n = 0 := by omega
      subst this
      simp
    · rw [List.drop_take, List.drop_drop, Nat.add_mul, Nat.one_mul, Nat.add_sub_cancel]
theorem run_append_Q {P : Program} (w : World) {base e size g off n c : Nat} {xs : List Value} (t ty : TypeId) (i : TypeInfo) (z : Value) (bytes : Nat) (ht : P.underlying t = some (.slice e)) (hi : P.info? e = some i) (hz : i.zero = some z)
    (hsize : i.size = size) (hby : i.bytes = bytes) (hzs : z.cells.size = size) (hown : World.ownsQ w base e size g off n c xs)
    (a : Addr) (m c2 : Nat) (news : List Value) (hl : news.length = m * size) (hnews : ∀ j u, news[j]? = some u → w.cell? (a.add j) = some u) (h1 : ∀ u ∈ news, u.oneCell' = true)
    (h63 : n + m ≤ maxLen) (hbytes : (n + m) * bytes ≤ 140737488355328) (hbase : base ≤ w.heap.size) :
    ∃ g' off' c' w', (Builtin.append_ #[t, t] ty #[.slice (some ⟨g, off, none⟩) n c, .slice (some a) m c2]).run P w = .ok (.slice (some ⟨g', off', none⟩) (n + m) c') w' ∧ World.ownsQ w' base e size g' off' (n + m) c' (xs ++ news) ∧ w.grownBy w' (some g) ∧ (g' = g ∨ g' = w.heap.size) := by
  subst hsize hby
  have hrd := Rd.of_ownQ hown
  obtain ⟨hx, hnc, hcm, hbg, cur, hg, hfit, htake⟩ := hown
  have hlen : (xs ++ news).length = (n + m) * i.size := by rw [List.length_append, hx, hl, Nat.add_mul]
  by_cases hroom : n + m ≤ c
  · have hfit2 : off + n * i.size + news.length ≤ cur.size := by
      have : (n + m) * i.size ≤ c * i.size := Nat.mul_le_mul_right _ hroom
      rw [Nat.add_mul] at this
      omega
    have hf := run_firstCells_some (P := P) w i.size m a m c2 news hl hnews
    have hst := run_storeCells_at P g (off + n * i.size) e news 0 cur w hg (by simpa using hfit2) h1
    simp only [Nat.add_zero] at hst
    have hadd : (⟨g, off, none⟩ : Addr).add (n * i.size) = ⟨g, off + n * i.size, none⟩ := by unfold Addr.add; split <;> simp_all
    refine ⟨g, off, c, _, by simp [Builtin.append_, run_underlying ht, sizeOf, typeInfo, hi, Builtin.lenOf, hroom, hf, hadd, hst]; rfl, ⟨hlen, hroom, hcm, hbg, _, setRow_heap w g cur _ e _ hg, ?_, ?_⟩, ⟨rfl, rfl, rfl, by simp, fun k hk hne => setRow_other w g k _ (fun e => hne (by rw [e]))⟩, .inl rfl⟩
    · simp only [List.size_toArray, List.length_append, List.length_take, List.length_drop, Array.length_toList]
      omega
    · have e1 : (cur.toList.take (off + n * i.size)).drop off = xs := by rw [List.drop_take, Nat.add_sub_cancel_left]; exact htake
      have e2 : off ≤ (cur.toList.take (off + n * i.size)).length := by rw [List.length_take, Array.length_toList]; omega
      rw [← hlen]
      simp only []
      rw [List.drop_append_of_le_length e2, e1, ← List.append_assoc]
      exact List.take_left
  · have holds : ∀ j u, xs[j]? = some u → w.cell? ((⟨g, off, none⟩ : Addr).add j) = some u := by
      intro j u hu
      have hadd : (⟨g, off, none⟩ : Addr).add j = ⟨g, off + j, none⟩ := by unfold Addr.add; split <;> simp_all
      rw [hadd]
      rcases hrd with h | ⟨g', off', he, h⟩
      · rw [h] at hu; cases hu
      · injection he with he; injection he with h1 h2; subst h1 h2; exact h j u hu
    have hr := run_append_grow (P := P) w t ty e i z ht hi hz ⟨g, off, none⟩ n c xs hx holds a m c2 news hl hnews (by omega) (by simp only [maxLen] at h63; omega) (growslice_fits (by omega) hbytes)
    have hge := grownCap_ge w (n + m) c e
    have hcm2 : grownCap w (n + m) c e ≤ maxLen := grownCap_le_maxLen w (n + m) c e h63
    refine ⟨_, _, _, _, hr, ⟨hlen, hge, hcm2, hbase, _, heap_alloc_new w.drew _, ?_, ?_⟩, ⟨rfl, rfl, rfl, by simp, fun k hk _ => Below.heap_alloc w.drew _ k hk⟩, .inr rfl⟩
    · simp only [Array.size_append, List.size_toArray, size_zeroCells, hzs, hx, hl, ← Nat.add_mul, Nat.zero_add]
      refine Nat.le_of_eq ?_
      congr 1
      omega
    · simp only [Array.toList_append, List.append_assoc, List.drop_zero]
      rw [← List.append_assoc, ← hlen]
      exact List.take_left
end
section
variable (w : World) {ops : Array Oper} {rest : List Oper} {o : Oper} {a : Act} {Q : Exit → Act → World → Prop}
theorem app_QC (hgd : o.guard = none) (s x : Operand) (ho : o.op = .call { callee := .builtin .append, args := #[s, x], argTypes := #[24, 24] })
    (base g off n c : Nat) (l : List C) (hs : a.eval s = .slice (some ⟨g, off, none⟩) n c) (hown : World.ownsQ w base 40 2 g off n c (vC l))
    (g2 m c2 : Nat) (l2 : List C) (hx : a.eval x = .slice (some ⟨g2, 0, none⟩) m c2) (hr : ∀ j u, (vC l2)[j]? = some u → w.cell? ((⟨g2, 0, none⟩ : Addr).add j) = some u) (hl : l2.length = m) (hb : n + m ≤ 1099511627776) (hbase : base ≤ w.heap.size)
    (h : ∀ g' off' c' w', World.ownsQ w' base 40 2 g' off' (n + m) c' (vC (l ++ l2)) → w.grownBy w' (some g) → (g' = g ∨ g' = w.heap.size) → wpList Tryz.prog ops Q rest (a.put o.dst (.slice (some ⟨g', off', none⟩) (n + m) c')) w') :
    wpList Tryz.prog ops Q (o :: rest) a w := by
  obtain ⟨i0, hi, hz0, hz1, hz2⟩ := info_parts infoC
  refine wpList_plain hgd fun K hK => ?_
  obtain ⟨g', off', c', w', hrun, h2, h3, h4⟩ := run_append_Q (P := Tryz.prog) w 24 o.type i0 _ 16 Tryz.underlying24 hi hz0 hz1 hz2 rfl hown ⟨g2, 0, none⟩ m c2 (vC l2) (by rw [vC_length, hl]) hr (vC_one _) (by unfold maxLen; omega) (by omega) hbase
  rw [← vC_append] at h2
  unfold Oper.wp execOp
  simp only [ho, resolve, invoke, builtin, Sem.run_bind, Sem.run_pure, Result.andThen_ok, List.map_toArray, List.map_cons, List.map_nil, hs, hx, hrun]
  exact hK _ _ (h g' off' c' w' h2 h3 h4)
end
theorem newC_cells (w : World) (t : TypeId) (x y : Int) : ∀ j u, (vC [(x, y)])[j]? = some u → (w.alloc (.cells #[.int .i64 x, .int .i64 y] t)).cell? ((⟨w.heap.size, 0, none⟩ : Addr).add j) = some u := by
  intro j u hu
  have h := rd_newC w t x y
  rcases h with h | ⟨g, off, he, h⟩
  · simp [vC] at h
  · injection he with he; injection he with h1 h2; subst h1 h2
    have := h j u hu
    have hadd : (⟨w.heap.size, 0, none⟩ : Addr).add j = ⟨w.heap.size, 0 + j, none⟩ := by unfold Addr.add; split <;> simp_all
    rw [hadd]; exact this
end Go.Proofs.YtfnphchcgaebkaaGreat

/- The loops of a code. -/
namespace Go.Proofs.YtfnphchcgaebkaaGreat
open Go.RowKit
/-- The loops of a code, the outer ones first. -/
def loopsIn : Code → List Code
  | .loop c => c :: loopsIn c
  | .seq a b => loopsIn a ++ loopsIn b
  | .block _ c => loopsIn c
  | .scope c => loopsIn c
  | .cond _ a b => loopsIn a ++ loopsIn b
  | _ => []
end Go.Proofs.YtfnphchcgaebkaaGreat

/- The reference's draws of shapes. -/
namespace Go.Proofs.YtfnphchcgaebkaaGreat
open Go.RowKit
set_option linter.unusedVariables false
attribute [local go_sem ↓] Go.wp_at_zero Go.wp_at_succ
theorem own_keptD {w w' : World} {base n c e size : Nat} {A : Option Addr} {xs : List Value} {row : Option Nat} (h : w.ownsRow base e size (.slice A n c) n xs) (hg : w.grownBy w' row) (hn : ∀ g, ob A = some g → row ≠ some g) : w'.ownsRow base e size (.slice A n c) n xs :=
  h.kept hg (by
    rw [ownBlock_slice]
    cases hA : ob A with
    | none => exact .inl rfl
    | some g => right; intro e; exact hn g hA e.symm)
theorem own_mono2D {w : World} {base base' e size n c : Nat} {A : Option Addr} {xs : List Value} (h : w.ownsRow base e size (.slice A n c) n xs) (hb : base' ≤ base) : w.ownsRow base' e size (.slice A n c) n xs := by
  refine ⟨h.1, ?_⟩
  rcases h.2 with hn | ⟨g, cap, cur, hv, hg, hgg, rest⟩
  · exact .inl hn
  · exact .inr ⟨g, cap, cur, hv, Nat.le_trans hb hg, hgg, rest⟩
theorem grown_trans {w w1 w2 : World} {row : Option Nat} (h : w.grownBy w1 row) (k : w1.grownBy w2 row) : w.grownBy w2 row :=
  ⟨k.os.trans h.os, k.tape.trans h.tape, k.output.trans h.output, Nat.le_trans h.size k.size, fun i hi hr => (k.block i (Nat.lt_of_lt_of_le hi h.size) hr).trans (h.block i hi hr)⟩
/-- Below base only the cursor's block is written. -/
structure FrG (base g : Nat) (w w' : World) : Prop where
  os : w'.os = w.os
  tape : w'.tape = w.tape
  output : w'.output = w.output
  size : w.heap.size ≤ w'.heap.size
  block : ∀ k, k < base → k ≠ g → w'.heap[k]? = w.heap[k]?
theorem FrG.refl (base g : Nat) (w : World) : FrG base g w w := ⟨rfl, rfl, rfl, Nat.le_refl _, fun _ _ _ => rfl⟩
theorem FrG.below {base g : Nat} {w w1 w2 : World} (h : FrG base g w w1) (k : Below w1.heap.size w1 w2) (hb : base ≤ w1.heap.size) : FrG base g w w2 :=
  ⟨k.os.trans h.os, k.tape.trans h.tape, k.output.trans h.output, Nat.le_trans h.size k.size, fun i hi hg => (k.block i (by omega)).trans (h.block i hi hg)⟩
theorem FrG.draw {base g : Nat} {w w1 w2 : World} (h : FrG base g w w1) (k : w1.grownBy w2 (some g)) (hb : base ≤ w1.heap.size) : FrG base g w w2 :=
  ⟨k.os.trans h.os, k.tape.trans h.tape, k.output.trans h.output, Nat.le_trans h.size k.size, fun i hi hg => (k.block i (by omega) (fun e => hg (by injection e))).trans (h.block i hi hg)⟩
theorem FrG.row {base g : Nat} {w w1 w2 : World} {row : Option Nat} (h : FrG base g w w1) (k : w1.grownBy w2 row) (hb : base ≤ w1.heap.size) (hr : ∀ b, row = some b → base ≤ b) : FrG base g w w2 :=
  ⟨k.os.trans h.os, k.tape.trans h.tape, k.output.trans h.output, Nat.le_trans h.size k.size, fun i hi hg => (k.block i (by omega) (fun e => by have := hr i e.symm; omega)).trans (h.block i hi hg)⟩
theorem FrG.grown {g : Nat} {w w1 : World} (h : FrG w.heap.size g w w1) : w.grownBy w1 (some g) := ⟨h.os, h.tape, h.output, h.size, fun k hk hg => h.block k hk (fun e => hg (by rw [e]))⟩
theorem Cur.row {w w' : World} {g : Nat} {A : Option Addr} {n c : Nat} {bs : List UInt8} {row : Option Nat} (h : Cur w g A n c bs) (k : w.grownBy w' row) (h1 : ∀ b, row = some b → b ≠ g) (h2 : 0 < n → ∀ b, row = some b → ob A ≠ some b) : Cur w' g A n c bs := by
  obtain ⟨i, x, hi, hB⟩ := h.blk
  refine ⟨⟨i, x, hi, hB.grown k (fun e => h1 g e.symm rfl)⟩, ?_, h.len, h.ne⟩
  by_cases h0 : 0 < n
  · exact h.rd.grown k (fun b e r => h2 h0 b r.symm e)
  · left
    have := h.len
    rw [List.eq_nil_of_length_eq_zero (by omega : bs.length = 0)]
    rfl
/-- A shape was drawn: cells near the board. -/
def RetShp (w : World) (g : Nat) (A : Option Addr) (n c : Nat) (bs : List UInt8) (e : Ending) (w' : World) : Prop :=
  ∃ D k cD xs, e = .returned (.slice D k cD) ∧ w'.ownsRow w.heap.size 40 2 (.slice D k cD) k (vC xs) ∧ 1 ≤ k ∧ k ≤ 7 ∧ Cur w' g A n c bs ∧ w.grownBy w' (some g)
noncomputable def growLp : Code := ((Tryz.f77.body.map loopsIn).getD []).getD 0 .skip
set_option maxRecDepth 100000 in
set_option maxHeartbeats 1600000 in
theorem growLoop {Q : Exit → Act → World → Prop} {s2 s3 s4 s7 s8 s9 s10 s11 s12 s13 s14 s15 s16 s17 s18 s19 s20 s21 s22 s23 s24 s25 s26 s27 s28 s29 s30 s31 s32 s33 s34 s35 s36 s37 s38 s39 s40 s41 s42 s43 s44 s45 s46 s47 s48 s49 s50 s51 s52 s53 s54 s55 s56 s57 s58 s59 s60 s61 s62 : Value} {A D : Option Addr} {n c g cD m base : Nat} {bs : List UInt8} {w : World}
    (hAb : 0 < n → ∀ b, ob A = some b → b < base) (hc : Cur w g A n c bs) (hn : n ≤ 1048576) (hm : 1 ≤ m) (hm7 : m ≤ 7) (hO : w.ownsRow base 40 2 (.slice D 1 cD) 1 (vC [(3, 3)])) (hgb : g < base) (hbase : base ≤ w.heap.size)
    (hexit : ∀ (v7 v8 v9 v12 v13 v14 v15 v16 v17 v18 v19 v20 v21 v22 v23 v24 v25 v26 v27 v28 v29 v30 v31 v32 v33 v34 v35 v36 v37 v38 v39 v40 v41 v42 v43 v44 v45 v46 v47 v48 v49 v50 v51 v52 v53 v54 v55 v56 v57 v58 v59 : Value) (D' : Option Addr) (k c' : Nat) (ys : List C) (w3 : World), w3.ownsRow base 40 2 (.slice D' k c') k (vC ys) → 1 ≤ k → k ≤ 7 → (∀ d ∈ ys, (0 ≤ d.1 ∧ d.1 ≤ 7) ∧ (0 ≤ d.2 ∧ d.2 ≤ 7)) → Cur w3 g A n c bs → FrG base g w w3 → Q (.exit 0) ⟨List.toArray ((.pointer (some ⟨g, 0, none⟩)) :: (.int .i64 (m : Int)) :: s2 :: s3 :: s4 :: (.slice D' k c') :: (.int .i64 (m : Int)) :: v7 :: v8 :: v9 :: s10 :: s11 :: v12 :: v13 :: v14 :: v15 :: v16 :: v17 :: v18 :: v19 :: v20 :: v21 :: v22 :: v23 :: v24 :: v25 :: v26 :: v27 :: v28 :: v29 :: v30 :: v31 :: v32 :: v33 :: v34 :: v35 :: v36 :: v37 :: v38 :: v39 :: v40 :: v41 :: v42 :: v43 :: v44 :: v45 :: v46 :: v47 :: v48 :: v49 :: v50 :: v51 :: v52 :: v53 :: v54 :: v55 :: v56 :: v57 :: v58 :: v59 :: s60 :: s61 :: s62 :: []), []⟩ w3) :
    Code.wp Tryz.prog (Code.loop growLp) Q ⟨List.toArray ((.pointer (some ⟨g, 0, none⟩)) :: (.int .i64 (m : Int)) :: s2 :: s3 :: s4 :: (.slice D 1 cD) :: (.int .i64 1) :: s7 :: s8 :: s9 :: s10 :: s11 :: s12 :: s13 :: s14 :: s15 :: s16 :: s17 :: s18 :: s19 :: s20 :: s21 :: s22 :: s23 :: s24 :: s25 :: s26 :: s27 :: s28 :: s29 :: s30 :: s31 :: s32 :: s33 :: s34 :: s35 :: s36 :: s37 :: s38 :: s39 :: s40 :: s41 :: s42 :: s43 :: s44 :: s45 :: s46 :: s47 :: s48 :: s49 :: s50 :: s51 :: s52 :: s53 :: s54 :: s55 :: s56 :: s57 :: s58 :: s59 :: s60 :: s61 :: s62 :: []), []⟩ w := by
  have HC0 := Lib.hid hc
  have HO0 := Lib.hid hO
  have HX := Lib.hid @hexit
  clear hc hO hexit
  conv => arg 2; arg 1; whnf
  go_loopw [6, 5] (fun e6 e5 wr => ∃ (i k cq : Nat) (E : Option Addr) (ys : List C), i ≤ m ∧ 1 ≤ i ∧ e6 = .int .i64 i ∧ e5 = .slice E k cq ∧ 1 ≤ k ∧ k ≤ i ∧ wr.ownsRow base 40 2 (.slice E k cq) k (vC ys) ∧ (∀ d ∈ ys, (0 ≤ d.1 ∧ d.1 ≤ 7) ∧ (0 ≤ d.2 ∧ d.2 ≤ 7)) ∧ Cur wr g A n c bs ∧ FrG base g w wr) (fun e6 _ _ => m - (intOf e6).toNat)
  case atStart => exact ⟨1, 1, cD, D, [(3, 3)], hm, Nat.le_refl _, rfl, rfl, Nat.le_refl _, Nat.le_refl _, HO0.out, by simp, HC0.out, FrG.refl _ _ _⟩
  case round =>
    clear HC0 HO0
    obtain ⟨i, k, cq, E, ys, hi, hi1', rfl, rfl, hk1, hki, hO, hin, hc, hfr⟩ := hrel
    have HO := Lib.hid hO
    have HIN := Lib.hid hin
    have HC := Lib.hid hc
    have HFR := Lib.hid hfr
    clear hO hin hc hfr
    by_cases hlt : i < m
    · have hi0 : (0 : Int) ≤ (i : Int) := by omega
      have hi1 : (i : Int) < (m : Int) := by omega
      go_wp2_with fail
      refine (l1Below_s A n c g k bs wr HC.out hn hk1 (by omega)).mono ?_
      rintro e w1 ⟨r, rfl, hr, hc1, hg1⟩
      have hEg : ∀ b, ob E = some b → b ≠ g := fun b e r => by have := (own_lt HO.out b e).1; omega
      have hO1 := own_keptD HO.out hg1 (fun b e r => hEg b e (by injection r with r; exact r.symm))
      have hyl : ys.length = k := by have := own_len hO1; rw [vC_length] at this; omega
      have hrl : r < ys.length := by omega
      have hr0 : (0 : Int) ≤ (r : Int) := by omega
      have hrk : (r : Int) < (k : Int) := by omega
      obtain ⟨ge, oe, hEe, hge, d1, d2⟩ := RdC.at_ (Rd.of_own hO1) hrl
      obtain ⟨px, hpx⟩ : ∃ px, ys[r].1 = px := ⟨_, rfl⟩
      obtain ⟨py, hpy⟩ : ∃ py, ys[r].2 = py := ⟨_, rfl⟩
      have hpin := HIN.out _ (List.getElem_mem hrl)
      rw [hpx] at d1 hpin
      rw [hpy] at d2 hpin
      have hbs1 : base ≤ wr.heap.size := Nat.le_trans hbase HFR.out.size
      have hbs2 : base ≤ w1.heap.size := Nat.le_trans hbs1 hg1.size
      have HFR1 := Lib.hid (HFR.out.draw hg1 hbs1)
      have HC1 := Lib.hid hc1
      have HO1 := Lib.hid hO1
      have HYL := Lib.hid hyl
      subst hEe
      clear hc1 hg1 hO1 hyl hpx hpy HFR HO HC hEg
      go_wp2_with fail
      have hbx := Blk.new w1 40 #[.int .i64 px, .int .i64 py]
      refine (l1Below_s A n c g 4 bs _ (HC1.out.below (bel_alloc (Below.refl _ _) _)) hn (by omega) (by omega)).mono ?_
      rintro e w2 ⟨d, rfl, hd, hc2, hg2⟩
      have hbx2 := hbx.grown hg2 (fun e => by injection e with e; omega)
      have x0 : w2.cell? ⟨w1.heap.size, 0, none⟩ = some (.int .i64 px) := by simpa using hbx2.cell 0
      have x1 : w2.cell? ⟨w1.heap.size, 1, none⟩ = some (.int .i64 py) := by simpa using hbx2.cell 1
      have xl := hbx2.lt
      have hws : (w1.alloc (.cells #[.int .i64 px, .int .i64 py] 40)).heap.size = w1.heap.size + 1 := by simp
      have HFR2 := Lib.hid ((HFR1.out.below (bel_alloc (Below.refl _ _) (.cells #[.int .i64 px, .int .i64 py] 40)) hbs2).draw hg2 (by omega))
      have HO2 := Lib.hid (own_keptD (own_keep HO1.out (bel_alloc (Below.refl _ _) (.cells #[.int .i64 px, .int .i64 py] 40))) hg2 (fun b e r => by have := (own_lt HO1.out b e).1; injection r with r; omega))
      have HC2 := Lib.hid hc2
      have hbs3 : base ≤ w2.heap.size := by have := hg2.size; omega
      obtain ⟨da, db, e1, e2, hd1, hd2⟩ : ∃ da db : Int, ((1 : Int) - (d : Int)).tmod 2 = da ∧ ((2 : Int) - (d : Int)).tmod 2 = db ∧ (-1 ≤ da ∧ da ≤ 1) ∧ (-1 ≤ db ∧ db ≤ 1) := by
        rcases (by omega : d = 0 ∨ d = 1 ∨ d = 2 ∨ d = 3) with rfl | rfl | rfl | rfl
        · exact ⟨1, 0, by decide, by decide, by omega, by omega⟩
        · exact ⟨0, 1, by decide, by decide, by omega, by omega⟩
        · exact ⟨-1, 0, by decide, by decide, by omega, by omega⟩
        · exact ⟨0, -1, by decide, by decide, by omega, by omega⟩
      obtain ⟨a0, ha0⟩ : ∃ a0, px + da = a0 := ⟨_, rfl⟩
      obtain ⟨b0, hb0⟩ : ∃ b0, py + db = b0 := ⟨_, rfl⟩
      have q1 : IntKind.i64.wrap ((1 : Int) - (d : Int)) = (1 : Int) - (d : Int) := Go.IntWalk.i64_in _ (by omega)
      have q2 : IntKind.i64.wrap ((2 : Int) - (d : Int)) = (2 : Int) - (d : Int) := Go.IntWalk.i64_in _ (by omega)
      have q3 : IntKind.i64.wrap a0 = a0 := Go.IntWalk.i64_in _ (by omega)
      have q4 : IntKind.i64.wrap b0 = b0 := Go.IntWalk.i64_in _ (by omega)
      have q5 : IntKind.i64.wrap da = da := Go.IntWalk.i64_in _ (by omega)
      have q6 : IntKind.i64.wrap db = db := Go.IntWalk.i64_in _ (by omega)
      have HPI := Lib.hid hpin
      clear hc2 hg2 hbx hbx2 HFR1 HO1 HC1 d1 d2 hge hd hpin hws
      go_wp2_with fail
      have hby := Blk.new w2 40 #[.int .i64 a0, .int .i64 b0]
      obtain ⟨w3, hw3⟩ : ∃ w3, w2.alloc (.cells #[.int .i64 a0, .int .i64 b0] 40) = w3 := ⟨_, rfl⟩
      have hb23 : Below w2.heap.size w2 w3 := by rw [← hw3]; exact bel_alloc (Below.refl _ _) _
      rw [hw3] at hby ⊢
      have HBY := Lib.hid hby
      have HB23 := Lib.hid hb23
      clear hby hb23 hw3 e1 e2 ha0 hb0 q1 q2 q3 q4 q5 q6 x0 x1 xl
      by_cases hin1 : 0 ≤ a0 ∧ a0 ≤ 7
      · refine (l1In_t a0 0 7 w3 hin1.1 hin1.2).mono ?_
        rintro e w4 ⟨rfl, hb4⟩
        have HB4 := Lib.hid (bel_trans HB23.out hb4)
        have hby4 := HBY.out.below hb4
        have y1 : w4.cell? ⟨w2.heap.size, 1, none⟩ = some (.int .i64 b0) := by simpa using hby4.cell 1
        have yl := hby4.lt
        have HBY4 := Lib.hid hby4
        clear hb4 hby4 HBY
        go_wp2_with fail
        by_cases hin2 : 0 ≤ b0 ∧ b0 ≤ 7
        · refine (l1In_t b0 0 7 w4 hin2.1 hin2.2).mono ?_
          rintro e w5 ⟨rfl, hb5⟩
          have HB5 := Lib.hid (bel_trans HB4.out hb5)
          have hby5 := HBY4.out.below hb5
          have z0 : w5.cell? ⟨w2.heap.size, 0, none⟩ = some (.int .i64 a0) := by simpa using hby5.cell 0
          have z1 : w5.cell? ⟨w2.heap.size, 1, none⟩ = some (.int .i64 b0) := by simpa using hby5.cell 1
          have zl := hby5.lt
          have HBY5 := Lib.hid hby5
          have HO5 := Lib.hid (own_keep HO2.out HB5.out)
          clear hb5 hby5 y1 yl HBY4
          go_wp2_with fail
          refine (HasCell_s _ k cq ys a0 b0 w5 (Rd.of_own HO5.out) HYL.out (by omega)).mono ?_
          rintro e w6 ⟨rfl, hb6⟩
          have HB6 := Lib.hid (bel_trans HB5.out hb6)
          have hby6 := HBY5.out.below hb6
          have z0 : w6.cell? ⟨w2.heap.size, 0, none⟩ = some (.int .i64 a0) := by simpa using hby6.cell 0
          have z1 : w6.cell? ⟨w2.heap.size, 1, none⟩ = some (.int .i64 b0) := by simpa using hby6.cell 1
          have zl := hby6.lt
          have HO6 := Lib.hid (own_keep HO5.out hb6)
          clear hb6 hby6 HO5
          cases hh : hasC ys a0 b0 with
          | true =>
            clear z0 z1 zl
            go_wp2_with fail
            exact ⟨⟨i + 1, k, cq, _, ys, by omega, by omega, by go_num, rfl, hk1, by omega, HO6.out, HIN.out, HC2.out.below HB6.out, HFR2.out.below HB6.out hbs3⟩, by simp [intOf]; omega⟩
          | false =>
            clear hh
            go_wp2_with (at_builtin; go_must (refine app_C _ rfl _ _ rfl base _ _ _ ys rfl (HO6.out.alloc _) _ _ _ [(a0, b0)] rfl (rd_newC _ _ _ _) rfl (by omega) (by have := HB6.out.size; simp; omega) ?_); intro D6 c6 w8 ho6 hg6 hat6; have HO8 := Lib.hid ho6; have HG8 := Lib.hid hg6; clear ho6 hg6 hat6)
            have hfr8 : FrG base g w w8 := ((HFR2.out.below HB6.out hbs3).below (bel_alloc (Below.refl _ _) _) (by have := HB6.out.size; omega)).row HG8.out (by have := HB6.out.size; simp; omega) (fun b e => (own_lt HO6.out b e).1)
            have hc8 : Cur w8 g A n c bs := ((HC2.out.below HB6.out).below (bel_alloc (Below.refl _ _) _)).row HG8.out (fun b e => by have := (own_lt HO6.out b e).1; omega) (fun h0 b e r => by have h1 := (own_lt HO6.out b e).1; have h2 := hAb h0 b r; omega)
            have hin8 : ∀ d ∈ ys ++ [(a0, b0)], (0 ≤ d.1 ∧ d.1 ≤ 7) ∧ (0 ≤ d.2 ∧ d.2 ≤ 7) := fun d hd => by
              rcases List.mem_append.1 hd with h | h
              · exact HIN.out d h
              · simp only [List.mem_singleton] at h; subst h; exact ⟨hin1, hin2⟩
            exact ⟨⟨i + 1, k + 1, c6, D6, _, by omega, by omega, by go_num, rfl, by omega, by omega, HO8.out, hin8, hc8, hfr8⟩, by simp [intOf]; omega⟩
        · refine (l1In_f b0 0 7 w4 hin2).mono ?_
          rintro e w5 ⟨rfl, hb5⟩
          have HB5 := Lib.hid (bel_trans HB4.out hb5)
          clear hb5 y1 yl HBY4
          go_wp2_with fail
          exact ⟨⟨i + 1, k, cq, _, ys, by omega, by omega, by go_num, rfl, hk1, by omega, own_keep HO2.out HB5.out, HIN.out, HC2.out.below HB5.out, HFR2.out.below HB5.out hbs3⟩, by simp [intOf]; omega⟩
      · refine (l1In_f a0 0 7 w3 hin1).mono ?_
        rintro e w4 ⟨rfl, hb4⟩
        have HB4 := Lib.hid (bel_trans HB23.out hb4)
        clear hb4
        go_wp2_with fail
        exact ⟨⟨i + 1, k, cq, _, ys, by omega, by omega, by go_num, rfl, hk1, by omega, own_keep HO2.out HB4.out, HIN.out, HC2.out.below HB4.out, HFR2.out.below HB4.out hbs3⟩, by simp [intOf]; omega⟩
    · obtain rfl : i = m := by omega
      have hi1 : ¬ (i : Int) < (i : Int) := by omega
      go_wp2_with fail
      exact HX.out _ _ _ _ _ _ _ _ _ _ _ _ _ _ _ _ _ _ _ _ _ _ _ _ _ _ _ _ _ _ _ _ _ _ _ _ _ _ _ _ _ _ _ _ _ _ _ _ _ _ _ _ _ _ _ _ HO.out hk1 (by omega) HIN.out HC.out HFR.out
theorem cornS_len2 (s : List C) : (cornS s).length = s.length := by unfold cornS; rw [mv_len]
set_option maxRecDepth 100000 in
set_option maxHeartbeats 1600000 in
theorem l2Grow_s (A : Option Addr) (n c g m : Nat) (bs : List UInt8) (w : World) (hc : Cur w g A n c bs) (hn : n ≤ 1048576) (hm : 1 ≤ m) (hm7 : m ≤ 7) :
    Calls Tryz.prog 77 #[.pointer (some ⟨g, 0, none⟩), .int .i64 (m : Int)] w (RetShp w g A n c bs) := by
  have hgl : g < w.heap.size := by obtain ⟨i, x, hi, hB⟩ := hc.blk; exact hB.lt
  have hAb : 0 < n → ∀ b, ob A = some b → b < w.heap.size := fun h0 b e => by
    obtain ⟨gb, off, hA, hgb, _⟩ := RdB.at_ hc.rd (show 0 < bs.length by rw [hc.len]; exact h0)
    subst hA
    simp only [ob, Option.map_some, Option.some.injEq] at e
    omega
  have HC := Lib.hid (hc.below (bel_alloc (Below.refl _ _) (.cells #[.int .i64 3, .int .i64 3] 40)))
  have HAB := Lib.hid hAb
  have HO0 : Hid ((w.alloc (.cells #[.int .i64 3, .int .i64 3] 40)).ownsRow w.heap.size 40 2 (.slice (some ⟨w.heap.size, 0, none⟩) 1 1) 1 (vC [((3 : Int), (3 : Int))])) := own_newC w 40 3 3 (Nat.le_refl _)
  clear hc hAb
  go_enter Tryz.func77, Tryz.ntmps77
  go_wp2_with fail
  refine growLoop HAB.out HC.out hn hm hm7 HO0.out hgl (by simp) ?_
  intro _ _ _ _ _ _ _ _ _ _ _ _ _ _ _ _ _ _ _ _ _ _ _ _ _ _ _ _ _ _ _ _ _ _ _ _ _ _ _ _ _ _ _ _ _ _ _ _ _ _ _ D k c' ys w3 hO hk1 hk7 hin hc3 hfr
  have HO := Lib.hid hO
  have HIN := Lib.hid hin
  have HC3 := Lib.hid hc3
  have hfr3 : FrG w.heap.size g w w3 := ⟨hfr.os, hfr.tape, hfr.output, Nat.le_trans (by simp) hfr.size, fun b hb hg => (hfr.block b hb hg).trans (Below.heap_alloc w _ b hb)⟩
  have HFR := Lib.hid hfr3
  have hyl : ys.length = k := by have := own_len hO; rw [vC_length] at this; omega
  have HYL := Lib.hid hyl
  clear hO hin hc3 hfr hfr3 hyl
  go_wp2_with fail
  refine (SortCells_s D k c' ys w3 (Rd.of_own HO.out) HYL.out (by omega)).mono ?_
  rintro e w4 ⟨D4, k4, c4, rfl, hO4, hb4⟩
  have hl4 : (sortC ys).length = k4 := by have := own_len hO4; rw [vC_length] at this; omega
  have hk4 := sortC_len ys
  have hk41 := sortC_ne (s := ys) (by rw [HYL.out]; omega)
  have HO4 := Lib.hid hO4
  have HB4 := Lib.hid hb4
  have HL4 := Lib.hid hl4
  have hk4b : 1 ≤ k4 ∧ k4 ≤ 7 := by have := HYL.out; omega
  have hsm : ∀ d ∈ sortC ys, small d := fun d hd => by
    have h := HIN.out d ((sortC_mem ys d).1 hd)
    unfold small
    omega
  have HSM := Lib.hid hsm
  clear hO4 hb4 hl4 hk4 hk41 hsm
  go_wp2_with fail
  refine (l2Corner_s D4 k4 c4 (sortC ys) w4 (Rd.of_own HO4.out) HL4.out (by omega) HSM.out).mono ?_
  rintro e w5 ⟨D5, k5, c5, rfl, hO5, hb5⟩
  obtain rfl : k5 = k4 := by have := own_len hO5; rw [vC_length, cornS_len2, HL4.out] at this; omega
  have hsz3 : w.heap.size ≤ w3.heap.size := HFR.out.size
  have hsz4 : w.heap.size ≤ w4.heap.size := Nat.le_trans hsz3 HB4.out.size
  have HO5 := Lib.hid (own_mono2D hO5 hsz4)
  have HC5 := Lib.hid ((HC3.out.below HB4.out).below hb5)
  have HF5 := Lib.hid ((HFR.out.below HB4.out hsz3).below hb5 hsz4).grown
  clear hO5 hb5
  go_wp2_with fail
  go_ret
  exact ⟨D5, k5, c5, _, rfl, HO5.out, by omega, by omega, HC5.out, HF5.out⟩
theorem l2Shape_s (A : Option Addr) (n c g : Nat) (bs : List UInt8) (w : World) (hc : Cur w g A n c bs) (hn : n ≤ 1048576) :
    Calls Tryz.prog 67 #[.pointer (some ⟨g, 0, none⟩)] w (RetShp w g A n c bs) := by
  have HC := Lib.hid hc
  clear hc
  go_enter Tryz.func67, Tryz.ntmps67
  go_wp2_with fail
  refine (l1Below_s A n c g 7 bs w HC.out hn (by omega) (by omega)).mono ?_
  rintro e w1 ⟨q, rfl, hq, hc1, hg1⟩
  have HC1 := Lib.hid hc1
  have HG1 := Lib.hid hg1
  obtain ⟨m, hm⟩ : ∃ m, 1 + q = m := ⟨_, rfl⟩
  have hmI : (1 : Int) + (q : Int) = (m : Int) := by omega
  have em : IntKind.i64.wrap (m : Int) = (m : Int) := Go.IntWalk.i64_in _ (by omega)
  have hm1 : 1 ≤ m ∧ m ≤ 7 := by omega
  clear hc1 hg1 hm hq
  go_wp2_with fail
  refine (l2Grow_s A n c g m bs w1 HC1.out hn hm1.1 hm1.2).mono ?_
  rintro e w2 ⟨D, k, cD, xs, rfl, hO, hk1, hk7, hc2, hg2⟩
  have HO := Lib.hid (own_mono2D hO HG1.out.size)
  have HC2 := Lib.hid hc2
  have HG2 := Lib.hid (grown_trans HG1.out hg2)
  clear hO hc2 hg2
  go_wp2_with fail
  go_ret
  exact ⟨D, k, cD, xs, rfl, HO.out, hk1, hk7, HC2.out, HG2.out⟩
end Go.Proofs.YtfnphchcgaebkaaGreat

/- The shape of a word of few letters: the reference's. -/
namespace Go.Proofs.YtfnphchcgaebkaaGreat
open Go.RowKit
set_option linter.unusedVariables false
attribute [local go_sem ↓] Go.wp_at_zero Go.wp_at_succ
theorem sow_S (l : List C) (h : 0 < l.length) : cornS (sortC l) = cornI l := (corn_eq h).symm
set_option maxRecDepth 100000 in
set_option maxHeartbeats 3200000 in
theorem ShapeOfWord_s (s : ByteArray) (w : World) (hs : s.size ≤ 11) : Calls Tryz.prog 16 #[.string s] w (RetS2 w 40 2 (vC (sowV s.data.toList).1) (.bool (sowV s.data.toList).2)) := by
  have hs20 : (s.size : Int) ≤ 20 := by omega
  obtain ⟨B, hB0⟩ : ∃ B, w.heap.size + 1 = B := ⟨_, rfl⟩
  go_enter Tryz.func16, Tryz.ntmps16
  go_wp2_with fail
  go_loopw [6, 4, 7, 8] (fun i t4 t7 t8 wr => ∃ (k n cap : Nat) (A : Option Addr) (l : List C) (x y : Int), k ≤ s.size ∧ i = .int .i64 k ∧ t4 = .slice A n cap ∧ n = k + 1 ∧ wr.ownsRow w.heap.size 40 2 (.slice A n cap) n (vC l) ∧ ob A ≠ some (w.heap.size + 1) ∧ wayW (0, 0) (s.data.toList.take k) = some l ∧ endW (0, 0) (s.data.toList.take k) = some (x, y) ∧ Blk wr (w.heap.size + 1) 40 #[.int .i64 x, .int .i64 y] ∧ Below w.heap.size w wr) (fun i _ _ _ _ => s.size - (intOf i).toNat)
  case atStart =>
    refine ⟨0, 1, 1, some ⟨w.heap.size, 0, none⟩, [(0, 0)], 0, 0, Nat.zero_le _, rfl, rfl, rfl, (own_newC w _ 0 0 (Nat.le_refl _)).alloc _, ?_, rfl, rfl, ?_, bel_alloc (bel_alloc (Below.refl _ _) _) _⟩
    · simp [ob]
    · have h := Blk.new (w.alloc (.cells #[.int .i64 0, .int .i64 0] 40)) 40 #[.int .i64 0, .int .i64 0]
      have e : (w.alloc (.cells #[.int .i64 0, .int .i64 0] 40)).heap.size = w.heap.size + 1 := by simp
      rw [e] at h
      exact h
  case round =>
    obtain ⟨k, n, cap, A, l, x, y, hk, rfl, rfl, hnk, hown, hAB, hl, hd, hB, hb⟩ := hrel
    rw [hB0] at hB hAB
    have hlen := own_len hown
    rw [vC_length] at hlen
    have c1 : wr.cell? ⟨B, 0, none⟩ = some (.int .i64 x) := by simpa using hB.cell 0
    have c2 : wr.cell? ⟨B, 1, none⟩ = some (.int .i64 y) := by simpa using hB.cell 1
    have hg := hB.lt
    have n1 := World.new_ne wr _ c1
    have hbz := hb.size
    by_cases hlt : k < s.size
    · have ee := end_step s k hlt (0, 0) (x, y) hd
      have ew := way_step s k hlt (0, 0) (x, y) l hl hd
      have HE := Lib.hid ee
      have HW := Lib.hid ew
      have HOW := Lib.hid hown
      have HNK := Lib.hid hnk
      have HLEN := Lib.hid hlen
      have hn12 : n ≤ 12 := by omega
      clear ee ew hd hl hown hnk hlen
      have hi0 : (0 : Int) ≤ (k : Int) := by omega
      have hi1 : (k : Int) < (s.size : Int) := by omega
      go_upto_region 6 with fail
      go_cut [7, 8] (fun s5 s6 wx => ∃ (q : Nat), s5 = .pointer (some ⟨q, 0, none⟩) ∧ s6 = .bool (stepW (x, y) s[k]).isSome ∧ wr.heap.size ≤ q ∧ Blk wx q 40 #[.int .i64 ((stepW (x, y) s[k]).getD (x, y)).1, .int .i64 ((stepW (x, y) s[k]).getD (x, y)).2] ∧ Below wr.heap.size wr wx)
      case first =>
        go_region_held3 (fun w' => w'.cell? ⟨B, 0, none⟩ = some (.int .i64 x) ∧ w'.cell? ⟨B, 1, none⟩ = some (.int .i64 y))
          ((go_split_ands; (try dsimp only); (repeat' (with_reducible apply And.intro)) <;> (repeat (first | with_reducible assumption | with_reducible apply keep_alloc | with_reducible apply keep_drew | with_reducible refine keep_below hb1 ?_ | ((with_reducible refine keep_set ?_ ?_); rotate_left; (simp <;> omega))))))
          (first | (go_at_call 40; refine (l26Step_s _ _ _ _).mono ?_; rintro e w' ⟨rfl, hb1⟩; obtain ⟨hc1, hf1⟩ := bcell hb1))
        all_goals go_wp2_with fail
        all_goals go_meet
        all_goals first
          | exact ⟨_, rfl, rfl, by have := hb1.size; simpa using this, Blk.new _ _ _, (by (repeat (first | with_reducible exact Below.refl _ _ | with_reducible assumption | with_reducible apply bel_alloc | with_reducible apply bel_drew | with_reducible apply bel_drewN | ((with_reducible refine bel_set ?_ ?_); rotate_left; (simp <;> omega)) | (with_reducible refine bel_trans ?_ (by with_reducible assumption)))))⟩
          | exact ⟨_, rfl, rfl, Nat.le_refl _, blk_set2 hb1, (by (repeat (first | with_reducible exact Below.refl _ _ | with_reducible assumption | with_reducible apply bel_alloc | with_reducible apply bel_drew | with_reducible apply bel_drewN | ((with_reducible refine bel_set ?_ ?_); rotate_left; (simp <;> omega)) | (with_reducible refine bel_trans ?_ (by with_reducible assumption)))))⟩
      case rest =>
        obtain ⟨q, rfl, rfl, hq, hB2, hb2⟩ := hcut
        have b1 := hB2.cell 0
        have b2 := hB2.cell 1
        simp at b1 b2
        have hB3 := hB.below hb2
        have d1 : wc.cell? ⟨B, 0, none⟩ = some (.int .i64 x) := by simpa using hB3.cell 0
        have d2 : wc.cell? ⟨B, 1, none⟩ = some (.int .i64 y) := by simpa using hB3.cell 1
        have f1 := hB3.frozen 0
        have f2 := hB3.frozen 1
        have hne : q ≠ B := by omega
        have HBK := Lib.hid hB
        clear hB2 hB c1 c2
        cases hst : stepW (x, y) s[k] with
        | none =>
          have HF := Lib.hid (sowV_none (wayW_none.2 (end_none_of_take (HE.out.trans hst))))
          simp only [hst] at b1 b2 ⊢
          clear hst
          go_wp2
          go_ret2
          exact ⟨_, 0, 0, by rw [HF.out]; rfl, by rw [HF.out]; exact own_new _ _ 2 0 #[] rfl (by simp [maxLen]) (by have := hb2.size; omega), (by (repeat (first | with_reducible exact Below.refl _ _ | with_reducible assumption | with_reducible apply bel_alloc | with_reducible apply bel_drew | with_reducible apply bel_drewN | ((with_reducible refine bel_set ?_ ?_); rotate_left; (simp <;> omega)) | (with_reducible refine bel_trans ?_ (by with_reducible assumption)))))⟩
        | some d =>
          simp only [hst, Option.getD_some, Option.isSome_some] at b1 b2 ⊢
          have HS := Lib.hid hst
          clear hst
          have HO2 := Lib.hid (own_keep HOW.out hb2)
          have HB3 := Lib.hid hB3
          have HB2 := Lib.hid hb2
          have hAB2 : ∀ b, ob A = some b → b ≠ B := fun b e hh => hAB (by rw [e, hh])
          have hst2 : wc.grownBy ((wc.setCell ⟨B, 0, none⟩ (.int .i64 d.1)).setCell ⟨B, 1, none⟩ (.int .i64 d.2)) (some B) := grown_set (p := ⟨B, 1, none⟩) (grown_set (p := ⟨B, 0, none⟩) (World.grownBy.refl _ _) rfl _) rfl _
          have HOD := Lib.hid (own_keptD HO2.out hst2 (fun b e r => hAB2 b e (Option.some.inj r).symm))
          have hB4 : Blk ((wc.setCell ⟨B, 0, none⟩ (.int .i64 d.1)).setCell ⟨B, 1, none⟩ (.int .i64 d.2)) B 40 #[.int .i64 d.1, .int .i64 d.2] := by simpa using (hB3.set_ 0 (.int .i64 d.1)).set_ 1 (.int .i64 d.2)
          have HB4 := Lib.hid hB4
          have hwB : w.heap.size ≤ B := by omega
          have HBW := Lib.hid (bel_grown (bel_trans hb hb2) hst2 (fun g e => by have := Option.some.inj e; omega))
          have hrn : Rd (((wc.setCell ⟨B, 0, none⟩ (.int .i64 d.1)).setCell ⟨B, 1, none⟩ (.int .i64 d.2)).alloc (.cells #[.int .i64 d.1, .int .i64 d.2] 40)) (some ⟨wc.heap.size, 0, none⟩) (vC [(d.1, d.2)]) := by
            have h := rd_newC ((wc.setCell ⟨B, 0, none⟩ (.int .i64 d.1)).setCell ⟨B, 1, none⟩ (.int .i64 d.2)) 40 d.1 d.2
            have e : ((wc.setCell ⟨B, 0, none⟩ (.int .i64 d.1)).setCell ⟨B, 1, none⟩ (.int .i64 d.2)).heap.size = wc.heap.size := by simp [World.setCell]
            rw [e] at h
            exact h
          have HRN := Lib.hid hrn
          clear hrn
          have hszd : B < ((wc.setCell ⟨B, 0, none⟩ (.int .i64 d.1)).setCell ⟨B, 1, none⟩ (.int .i64 d.2)).heap.size := hB4.lt
          clear hB3 hst2 hB4
          go_wp2_with (at_builtin; go_must (refine app_C _ rfl _ _ rfl w.heap.size _ _ _ l rfl (HOD.out.alloc _) _ _ _ [(d.1, d.2)] rfl HRN.out rfl (by omega) (by have := HBW.out.size; simp at this ⊢; omega) ?_); intro D6 c6 w8 ho6 hg6 hat6; have HO8 := Lib.hid ho6; have HG8 := Lib.hid hg6; have HAT := Lib.hid hat6; clear ho6 hg6 hat6)
          have hA0 : ob A ≠ some (w.heap.size + 1) := by rw [hB0]; exact hAB
          have hD6 : ob D6 ≠ some (w.heap.size + 1) := by
            rcases HAT.out with h | h
            · rw [h]; exact hA0
            · rw [h]
              intro e
              have e2 := Option.some.inj e
              simp at e2
              have e3 : ((wc.setCell ⟨B, 0, none⟩ (.int .i64 d.1)).setCell ⟨B, 1, none⟩ (.int .i64 d.2)).heap.size = wc.heap.size := by simp [World.setCell]
              omega
          have hlt2 := (own_lt HOD.out)
          have hBk : Blk w8 (w.heap.size + 1) 40 #[.int .i64 d.1, .int .i64 d.2] := by
            rw [hB0]
            exact (HB4.out.below (bel_alloc (Below.refl _ _) _)).grown HG8.out (fun e => hAB e.symm)
          exact ⟨⟨k + 1, n + 1, c6, D6, l ++ [d], d.1, d.2, by omega, by go_num, rfl, by have := HNK.out; omega, HO8.out, hD6, by rw [HW.out, HS.out]; rfl, by rw [HE.out, HS.out], hBk, bel_app (bel_alloc HBW.out _) HG8.out (fun b e => (hlt2 b e).1)⟩, by simp [intOf]; omega⟩
    · have hkk : k = s.size := by omega
      subst hkk
      rw [take_all] at hd hl
      have hsm := way_small hl (by omega)
      have hll := wayW_len hl
      rw [data_len] at hll
      have hcor := sow_S l (by omega)
      have hn12 : 1 ≤ n ∧ n ≤ 12 := by omega
      have HO := Lib.hid hown
      have HL := Lib.hid (by omega : l.length = n)
      have hsm2 : ∀ d ∈ sortC l, small d := fun d hd => hsm d ((sortC_mem l d).1 hd)
      have hsl := sortC_len l
      have HSM := Lib.hid hsm2
      have HCOR := Lib.hid hcor
      have HWAY := Lib.hid hl
      clear hd hl hsm hll hcor hown hsm2 hlen c1 c2 n1 hg hB hnk
      go_wp2_with fail
      refine (SortCells_s A n cap l wr (Rd.of_own HO.out) HL.out (by omega)).mono ?_
      rintro e w2 ⟨D, m, cd, rfl, hO2, hb2⟩
      have hm : (sortC l).length = m := by have h1 := own_len hO2; rw [vC_length] at h1; omega
      have HM := Lib.hid hm
      have HR2 := Lib.hid (Rd.of_own hO2)
      have hm2 : m ≤ 12 := by have := HL.out; omega
      have HB2 := Lib.hid (bel_trans hb hb2)
      clear hO2 hb2 hm
      go_wp2_with fail
      refine (l2Corner_s D m cd (sortC l) w2 HR2.out HM.out (by omega) HSM.out).mono ?_
      rw [HCOR.out]
      rintro e w3 ⟨E, m3, c3, rfl, hO3, hb3⟩
      have hm3 : (cornI l).length = m3 := by have h1 := own_len hO3; rw [vC_length] at h1; omega
      have hm3b : m3 ≤ 1048576 := by have := cornI_len l; have := HL.out; omega
      have HM3 := Lib.hid hm3
      have HO3 := Lib.hid (own_base hO3 HB2.out.size)
      have HB3 := Lib.hid (bel_trans HB2.out hb3)
      clear hO3 hb3 hm3
      go_wp2_with fail
      refine (IsShape_s E m3 c3 (cornI l) w3 (Rd.of_own HO3.out) HM3.out (by omega)).mono ?_
      cases hsh : isShape (cornI l) with
      | false =>
        have HV := Lib.hid (sowV_no HWAY.out hsh)
        rintro e w4 ⟨rfl, hb4⟩
        have HB4 := Lib.hid (bel_trans HB3.out hb4)
        clear hsh hb4
        go_wp2_with fail
        go_ret2
        exact ⟨_, 0, 0, by rw [HV.out]; rfl, by rw [HV.out]; exact own_new _ _ 2 0 #[] rfl (by simp [maxLen]) HB4.out.size, bel_alloc HB4.out _⟩
      | true =>
        have HV := Lib.hid (sowV_yes HWAY.out hsh)
        rintro e w4 ⟨rfl, hb4⟩
        have HO4 := Lib.hid (own_keep HO3.out hb4)
        have HB4 := Lib.hid (bel_trans HB3.out hb4)
        clear hsh hb4
        go_wp2_with fail
        go_ret2
        exact ⟨E, m3, c3, by rw [HV.out]; rfl, by rw [HV.out]; exact HO4.out, HB4.out⟩
end Go.Proofs.YtfnphchcgaebkaaGreat

/- The reference's draws of lists of cells: shapes and their neighbours. -/
namespace Go.Proofs.YtfnphchcgaebkaaGreat
open Go.RowKit
set_option linter.unusedVariables false
attribute [local go_sem ↓] Go.wp_at_zero Go.wp_at_succ
/-- A list of cells was drawn: it can be read. -/
def RetAny (w : World) (g : Nat) (A : Option Addr) (n c : Nat) (bs : List UInt8) (e : Ending) (w' : World) : Prop :=
  ∃ D k cD xs, e = .returned (.slice D k cD) ∧ Rd w' D (vC xs) ∧ xs.length = k ∧ k ≤ 8 ∧ k ≤ cD ∧ Cur w' g A n c bs ∧ w.grownBy w' (some g) ∧ ∀ b, ob D = some b → b ≠ g
theorem own_capD {w : World} {base e n c size : Nat} {A : Option Addr} {xs : List Value} (h : w.ownsRow base e size (.slice A n c) n xs) : n ≤ c := by
  rcases h.2 with ⟨hv, hn⟩ | ⟨g, cap, cur, hv, hb, hg, hnc, _⟩
  · omega
  · injection hv with h1 h2 h3
    omega
theorem own_someD {w : World} {base e n c size : Nat} {A : Option Addr} {xs : List Value} (h : w.ownsRow base e size (.slice A n c) n xs) (hn : 1 ≤ n) : ∃ g, A = some ⟨g, 0, none⟩ ∧ base ≤ g ∧ g < w.heap.size := by
  rcases h.2 with ⟨hv, h0⟩ | ⟨g, cap, cur, hv, hb, hg, hnc, _⟩
  · omega
  · injection hv with h1 h2 h3
    exact ⟨g, h1, hb, (Array.getElem?_eq_some_iff.1 hg).1⟩
theorem rd_tail {w : World} {g c : Nat} {xs : List C} (h : Rd w (some ⟨g, 0, none⟩) (vC xs)) (hl : xs.length ≤ c) (h1 : ¬c = 1) : Rd w (some ⟨g, 0 + 2, none⟩) (vC (xs.drop 1)) := by
  have h2 := Rd.drop h 2 (2 * c) (by rw [vC_length]; omega)
  rw [if_neg (by omega)] at h2
  have e2 : (some ⟨g, 0, none⟩ : Option Addr).map (·.add 2) = some ⟨g, 0 + 2, none⟩ := by simp only [Option.map_some]; unfold Addr.add; split <;> simp_all
  rw [e2] at h2
  cases xs with
  | nil => exact h2
  | cons x xs => exact h2
/-- One of a list's numbers was drawn. -/
def RetPick (w : World) (g : Nat) (A : Option Addr) (n c : Nat) (bs : List UInt8) (l : List Int) (e : Ending) (w' : World) : Prop :=
  ∃ v, e = .returned (.int .i64 v) ∧ v ∈ l ∧ Cur w' g A n c bs ∧ w.grownBy w' (some g)
set_option maxRecDepth 100000 in
theorem l1PickInt_s (A B : Option Addr) (n c g m d : Nat) (l : List Int) (bs : List UInt8) (w : World) (hc : Cur w g A n c bs) (hn : n ≤ 1048576) (hr : Rd w B (vI l)) (hl : l.length = m) (hm : 1 ≤ m) (hm2 : m ≤ 256) (hB : ∀ b, ob B = some b → b ≠ g) :
    Calls Tryz.prog 68 #[.pointer (some ⟨g, 0, none⟩), .slice B m d] w (RetPick w g A n c bs l) := by
  have HC := Lib.hid hc
  have HR := Lib.hid hr
  have HL := Lib.hid hl
  clear hc hr hl
  go_enter Tryz.func68, Tryz.ntmps68
  go_wp2_with fail
  refine (l1Below_s A n c g m bs w HC.out hn hm hm2).mono ?_
  rintro e w2 ⟨q, rfl, hq, hc2, hg2⟩
  have hr2 := HR.out.grown hg2 (fun b e r => hB b e (Option.some.inj r))
  obtain ⟨g1, o1, rfl, hg1, hx⟩ := RdI.at_ hr2 (show q < l.length by rw [HL.out]; exact hq)
  have HM := Lib.hid (List.getElem_mem (show q < l.length by rw [HL.out]; exact hq))
  obtain ⟨v, hv⟩ : ∃ v, l[q]'(by rw [HL.out]; exact hq) = v := ⟨_, rfl⟩
  rw [hv] at hx HM
  have hq0 : (0 : Int) ≤ (q : Int) := by omega
  have hq1 : (q : Int) < (m : Int) := by omega
  have HC2 := Lib.hid hc2
  have HG2 := Lib.hid hg2
  clear hc2 hg2 hr2 hv hq
  go_wp2_with fail
  go_ret
  exact ⟨v, rfl, HM.out, HC2.out, HG2.out⟩
set_option maxRecDepth 100000 in
set_option maxHeartbeats 1600000 in
theorem l2Any_s (A : Option Addr) (n c g : Nat) (bs : List UInt8) (w : World) (hc : Cur w g A n c bs) (hn : n ≤ 1048576) :
    Calls Tryz.prog 50 #[.pointer (some ⟨g, 0, none⟩)] w (RetAny w g A n c bs) := by
  have hgl : g < w.heap.size := by obtain ⟨i, x, hi, hB⟩ := hc.blk; exact hB.lt
  have hAb : 0 < n → ∀ b, ob A = some b → b < w.heap.size := fun h0 b e => by
    obtain ⟨gb, off, hA, hgb, _⟩ := RdB.at_ hc.rd (show 0 < bs.length by rw [hc.len]; exact h0)
    subst hA
    simp only [ob, Option.map_some, Option.some.injEq] at e
    omega
  have HC := Lib.hid hc
  have HAB := Lib.hid hAb
  clear hc hAb
  go_enter Tryz.func50, Tryz.ntmps50
  go_wp2_with fail
  refine (l2Shape_s A n c g bs w HC.out hn).mono ?_
  rintro e w1 ⟨D, k, cD, xs, rfl, hO, hk1, hk7, hc1, hg1⟩
  have HO1 := Lib.hid hO
  have HC1 := Lib.hid hc1
  have HG1 := Lib.hid hg1
  have hxl : xs.length = k := by have := own_len hO; rw [vC_length] at this; omega
  have HXL := Lib.hid hxl
  have hcap := own_capD hO
  clear hO hc1 hg1 hxl
  go_wp2_with fail
  refine (l1Below_s A n c g 12 bs w1 HC1.out hn (by omega) (by omega)).mono ?_
  rintro e w2 ⟨q, rfl, hq, hc2, hg2⟩
  have hDg : ∀ b, ob D = some b → b ≠ g := fun b e => by have := (own_lt HO1.out b e).1; omega
  have HDG := Lib.hid hDg
  have HO2 := Lib.hid (own_keptD HO1.out hg2 (fun b e r => hDg b e (by injection r with r; exact r.symm)))
  have HC2 := Lib.hid hc2
  have HG2 := Lib.hid (grown_trans HG1.out hg2)
  have hsz2 : w.heap.size ≤ w2.heap.size := HG2.out.size
  clear hc2 hg2 HO1 HC1 HG1 hDg
  by_cases h0 : q = 0
  · have e0 : ((q : Int) == 0) = true := by simp [h0]
    clear h0 hq
    go_wp2_with fail
    refine (l1Below_s A n c g 9 bs w2 HC2.out hn (by omega) (by omega)).mono ?_
    rintro e w3 ⟨q1, rfl, hq1, hc3, hg3⟩
    have HC3 := Lib.hid hc3
    have HG3 := Lib.hid (grown_trans HG2.out hg3)
    have HO3 := Lib.hid (own_keptD HO2.out hg3 (fun b e r => HDG.out b e (by injection r with r; exact r.symm)))
    have w1' : IntKind.i64.wrap ((q1 : Int) - 1) = (q1 : Int) - 1 := Go.IntWalk.i64_in _ (by omega)
    clear hc3 hg3
    go_wp2_with fail
    refine (l1Below_s A n c g 9 bs w3 HC3.out hn (by omega) (by omega)).mono ?_
    rintro e w4 ⟨q2, rfl, hq2, hc4, hg4⟩
    have HC4 := Lib.hid hc4
    have HG4 := Lib.hid (grown_trans HG3.out hg4)
    have HO4 := Lib.hid (own_keptD HO3.out hg4 (fun b e r => HDG.out b e (by injection r with r; exact r.symm)))
    have hsz4 : w.heap.size ≤ w4.heap.size := HG4.out.size
    clear hc4 hg4
    go_wp2_with (at_builtin; go_must (refine app_C _ rfl _ _ rfl w.heap.size _ _ _ xs rfl (HO4.out.alloc _) _ _ _ [((q1 : Int) - 1, (q2 : Int))] rfl (rd_newC _ _ _ _) rfl (by omega) (by simp; omega) ?_); intro D6 c6 w8 ho6 hg6 hat6; have HO8 := Lib.hid ho6; have HG8 := Lib.hid hg6; clear ho6 hg6 hat6)
    go_ret
    have hlt : ∀ b, ob D = some b → w.heap.size ≤ b := fun b e => (own_lt HO4.out b e).1
    have hfr : FrG w.heap.size g w w8 := (((FrG.refl _ g w).draw HG4.out (Nat.le_refl _)).below (bel_alloc (Below.refl _ _) _) hsz4).row HG8.out (by simp; omega) hlt
    have hc8 : Cur w8 g A n c bs := (HC4.out.below (bel_alloc (Below.refl _ _) _)).row HG8.out (fun b e => HDG.out b e) (fun h0 b e r => by have h1 := hlt b e; have h2 := HAB.out h0 b r; omega)
    exact ⟨D6, k + 1, c6, _, rfl, Rd.of_own HO8.out, by have := HXL.out; simp; omega, by omega, own_capD HO8.out, hc8, hfr.grown, fun b e => by have := (own_lt HO8.out b e).1; omega⟩
  · have e0 : ((q : Int) == 0) = false := by simp only [beq_eq_false_iff_ne]; omega
    by_cases h1 : q = 1
    · have e1 : ((q : Int) == 1) = true := by simp [h1]
      clear h0 h1 hq
      go_wp2_with fail
      refine (l1Below_s A n c g 8 bs w2 HC2.out hn (by omega) (by omega)).mono ?_
      rintro e w3 ⟨q1, rfl, hq1, hc3, hg3⟩
      have HC3 := Lib.hid hc3
      have HG3 := Lib.hid (grown_trans HG2.out hg3)
      have HO3 := Lib.hid (own_keptD HO2.out hg3 (fun b e r => HDG.out b e (by injection r with r; exact r.symm)))
      clear hc3 hg3
      go_wp2_with fail
      refine (l1Below_s A n c g 8 bs w3 HC3.out hn (by omega) (by omega)).mono ?_
      rintro e w4 ⟨q2, rfl, hq2, hc4, hg4⟩
      have HC4 := Lib.hid hc4
      have HG4 := Lib.hid (grown_trans HG3.out hg4)
      have HO4 := Lib.hid (own_keptD HO3.out hg4 (fun b e r => HDG.out b e (by injection r with r; exact r.symm)))
      have hsz4 : w.heap.size ≤ w4.heap.size := HG4.out.size
      clear hc4 hg4
      go_wp2_with (at_builtin; go_must (refine app_C _ rfl _ _ rfl w.heap.size _ _ _ xs rfl (HO4.out.alloc _) _ _ _ [((q1 : Int), (q2 : Int))] rfl (rd_newC _ _ _ _) rfl (by omega) (by simp; omega) ?_); intro D6 c6 w8 ho6 hg6 hat6; have HO8 := Lib.hid ho6; have HG8 := Lib.hid hg6; clear ho6 hg6 hat6)
      have hlt : ∀ b, ob D = some b → w.heap.size ≤ b := fun b e => (own_lt HO4.out b e).1
      have HFR := Lib.hid ((((FrG.refl _ g w).draw HG4.out (Nat.le_refl _)).below (bel_alloc (Below.refl _ _) _) hsz4).row HG8.out (by simp; omega) hlt)
      have HC8 := Lib.hid (Cur.row (HC4.out.below (bel_alloc (Below.refl _ _) _)) HG8.out (fun b e => HDG.out b e) (fun h0 b e r => by have h1 := hlt b e; have h2 := HAB.out h0 b r; omega))
      have hsz8 : w.heap.size ≤ w8.heap.size := HFR.out.size
      refine (SortCells_s D6 (k + 1) c6 (xs ++ [((q1 : Int), (q2 : Int))]) w8 (Rd.of_own HO8.out) (by have := HXL.out; simp; omega) (by omega)).mono ?_
      rintro e w9 ⟨D9, k9, c9, rfl, ho9, hb9⟩
      have hl9 := own_len ho9
      have hx9 : (sortC (xs ++ [((q1 : Int), (q2 : Int))])).length ≤ k + 1 := by have h1 := sortC_len (xs ++ [((q1 : Int), (q2 : Int))]); have := HXL.out; simp at h1; omega
      rw [vC_length] at hl9
      have HO9 := Lib.hid ho9
      have HB9 := Lib.hid hb9
      have HX9 := Lib.hid hx9
      clear ho9 hb9 hx9
      go_wp2_with fail
      go_ret
      exact ⟨D9, k9, c9, _, rfl, Rd.of_own HO9.out, by omega, by have := HX9.out; omega, own_capD HO9.out, HC8.out.below HB9.out, (HFR.out.below HB9.out hsz8).grown, fun b e => by have := (own_lt HO9.out b e).1; omega⟩
    · have e1 : ((q : Int) == 1) = false := by simp only [beq_eq_false_iff_ne]; omega
      by_cases h2 : q = 2
      · have e2 : ((q : Int) == 2) = true := by simp [h2]
        clear h0 h1 h2 hq
        obtain ⟨gD, hD, hgD, hgl2⟩ := own_someD HO2.out hk1
        subst hD
        go_wp2_with fail
        · have e1 : k = 1 := by omega
          go_ret
          exact ⟨_, k - 1, _, [], rfl, .inl rfl, by rw [e1]; rfl, by omega, by omega, HC2.out, HG2.out, fun b e => by simp only [ob, Option.map_some, Option.some.injEq] at e; omega⟩
        · go_ret
          exact ⟨_, k - 1, cD - 1, xs.drop 1, rfl, rd_tail (Rd.of_own HO2.out) (by rw [HXL.out]; exact hcap) h, by rw [List.length_drop, HXL.out], by omega, by omega, HC2.out, HG2.out, fun b e => by simp only [ob, Option.map_some, Option.some.injEq] at e; omega⟩
      · have e2 : ((q : Int) == 2) = false := by simp only [beq_eq_false_iff_ne]; omega
        by_cases h3 : q = 3
        · have e3 : ((q : Int) == 3) = true := by simp [h3]
          clear h0 h1 h2 h3 hq
          obtain ⟨gD, hD, hgD, hgl2⟩ := own_someD HO2.out hk1
          subst hD
          go_wp2_with fail
          refine (l1PickInt_s A (some ⟨w2.heap.size, 0, none⟩) n c g 3 3 [-1, 8, 9223372036854775807] bs _ (HC2.out.below (bel_alloc (Below.refl _ _) _)) hn (rd_new w2 3 _) rfl (by omega) (by omega) (fun b e => by simp only [ob, Option.map_some, Option.some.injEq] at e; omega)).mono ?_
          rintro e w3 ⟨v, rfl, hv, hc3, hg3⟩
          have HC3 := Lib.hid hc3
          have HFR3 := Lib.hid (((FrG.refl w.heap.size g w).draw HG2.out (Nat.le_refl _)).below (bel_alloc (Below.refl _ _) (.cells #[.int .i64 (-1), .int .i64 8, .int .i64 9223372036854775807] 3)) hsz2)
          have HO3 := Lib.hid (own_keptD (own_keep HO2.out (bel_alloc (Below.refl _ _) (.cells #[.int .i64 (-1), .int .i64 8, .int .i64 9223372036854775807] 3))) hg3 (fun b e r => HDG.out b e (by injection r with r; exact r.symm)))
          have HFR4 := Lib.hid (HFR3.out.draw hg3 (by simp; omega))
          have hbx : w3.frozen? ⟨gD, 0, none⟩ = false := HO3.out.frozenAt 0
          obtain ⟨u, hbc⟩ : ∃ u, w3.cell? ⟨gD, 0, none⟩ = some u := by
            obtain ⟨g1, o1, e1, _, a1, a2⟩ := RdC.at_ (Rd.of_own HO3.out) (show 0 < xs.length by rw [HXL.out]; omega)
            simp only [Option.some.injEq, Addr.mk.injEq, and_true] at e1
            obtain ⟨rfl, rfl⟩ := e1
            exact ⟨_, a1⟩
          clear hc3 hg3
          go_wp2_with fail
          have hst := (HO3.out.stored 0 (.int .i64 v)).1
          have hk := grown_set (World.grownBy.refl w3 (some gD)) (p := ⟨gD, 0, none⟩) rfl (.int .i64 v)
          have hsz3 : w.heap.size ≤ w3.heap.size := HFR4.out.size
          have hc4 : Cur (w3.setCell ⟨gD, 0, none⟩ (.int .i64 v)) g A n c bs := HC3.out.row hk (fun b e => by have := HDG.out gD rfl; injection e with e; omega) (fun h0 b e r => by have h2 := HAB.out h0 b r; injection e with e; omega)
          have hf4 := (HFR4.out.row hk hsz3 (fun b e => by injection e with e; omega)).grown
          obtain ⟨x, ys, rfl⟩ : ∃ x ys, xs = x :: ys := by
            cases xs with
            | nil => have := HXL.out; simp at this; omega
            | cons x ys => exact ⟨x, ys, rfl⟩
          go_ret
          exact ⟨_, k, cD, (v, x.2) :: ys, rfl, Rd.of_own hst, by rw [← HXL.out]; rfl, by omega, hcap, hc4, hf4, fun b e => by simp only [ob, Option.map_some, Option.some.injEq] at e; omega⟩
        · have e3 : ((q : Int) == 3) = false := by simp only [beq_eq_false_iff_ne]; omega
          clear h0 h1 h2 h3 hq
          go_wp2_with fail
          go_ret
          exact ⟨D, k, cD, _, rfl, Rd.of_own HO2.out, HXL.out, by omega, hcap, HC2.out, HG2.out, HDG.out⟩
end Go.Proofs.YtfnphchcgaebkaaGreat

/- The draws of the law on growth. -/
namespace Go.Proofs.YtfnphchcgaebkaaGreat
open Go.RowKit
set_option linter.unusedVariables false
attribute [local go_sem ↓] Go.wp_at_zero Go.wp_at_succ
/-- A number below a bound, less one; nothing that was there is written. -/
def RetNd (w : World) (m : Nat) (e : Ending) (w' : World) : Prop := ∃ q : Nat, e = .returned (.int .i64 ((q : Int) - 1)) ∧ q < m ∧ Below w.heap.size w w'
/-- A short list of cells; nothing that was there is written. -/
def RetCl (w : World) (e : Ending) (w' : World) : Prop := ∃ D k cD xs, e = .returned (.slice D k cD) ∧ Rd w' D (vC xs) ∧ xs.length = k ∧ k ≤ 1048576 ∧ k ≤ cD ∧ Below w.heap.size w w'
theorem grown_newD {w w1 w2 : World} {g : Nat} (h : Below w.heap.size w w1) (hg : w.heap.size ≤ g) (k : w1.grownBy w2 (some g)) : Below w.heap.size w w2 := h.grown k h.size (fun g' e => by injection e with e; omega)
theorem l1Once_s (A : Option Addr) (n c g k : Nat) (bs : List UInt8) (w : World) (hc : Cur w g A n c bs) (hn : n ≤ 1048576) (hk1 : 1 ≤ k) (hk : k ≤ 256) :
    Calls Tryz.prog 49 #[.pointer (some ⟨g, 0, none⟩), .int .i64 (k : Int)] w (fun e w' => ∃ b : Bool, e = .returned (.bool b) ∧ Cur w' g A n c bs ∧ w.grownBy w' (some g)) := by
  go_enter Tryz.func49, Tryz.ntmps49
  go_wp2_with fail
  refine (l1Below_s A n c g k bs w hc hn hk1 hk).mono ?_
  rintro e w2 ⟨q, rfl, hq, hc2, hg2⟩
  have HC2 := Lib.hid hc2
  have HG2 := Lib.hid hg2
  clear hc2 hg2 hc
  go_wp2_with fail
  go_ret
  exact ⟨_, rfl, HC2.out, HG2.out⟩
end Go.Proofs.YtfnphchcgaebkaaGreat

/- The law on snakes: what it draws. -/
namespace Go.Proofs.YtfnphchcgaebkaaGreat
open Go.RowKit
set_option linter.unusedVariables false
attribute [local go_sem ↓] Go.wp_at_zero Go.wp_at_succ
def vT (l : List ByteArray) : List Value := l.map fun t => .string t
theorem RdT.at_ {w : World} {A : Option Addr} {xs : List ByteArray} {k : Nat} (h : Rd w A (vT xs)) (hk : k < xs.length) :
    ∃ g off, A = some ⟨g, off, none⟩ ∧ g < w.heap.size ∧ w.cell? ⟨g, off + k, none⟩ = some (.string xs[k]) := by
  rcases h with h | ⟨g, off, e, h⟩
  · have h2 := congrArg List.length h
    simp [vT] at h2
    subst h2
    simp at hk
  · have h2 := h k (.string xs[k]) (by simp [vT, List.getElem?_eq_getElem hk])
    exact ⟨g, off, e, World.block_lt_of_cell? w _ h2, h2⟩
/-- One of a list's strings was drawn. -/
def RetPickT (w : World) (g : Nat) (A : Option Addr) (n c : Nat) (bs : List UInt8) (l : List ByteArray) (e : Ending) (w' : World) : Prop :=
  ∃ v, e = .returned (.string v) ∧ v ∈ l ∧ Cur w' g A n c bs ∧ w.grownBy w' (some g)
theorem l1Pick_s (A B : Option Addr) (n c g m d : Nat) (l : List ByteArray) (bs : List UInt8) (w : World) (hc : Cur w g A n c bs) (hn : n ≤ 1048576) (hr : Rd w B (vT l)) (hl : l.length = m) (hm : 1 ≤ m) (hm2 : m ≤ 256) (hB : ∀ b, ob B = some b → b ≠ g) :
    Calls Tryz.prog 61 #[.pointer (some ⟨g, 0, none⟩), .slice B m d] w (RetPickT w g A n c bs l) := by
  have HC := Lib.hid hc
  have HR := Lib.hid hr
  have HL := Lib.hid hl
  clear hc hr hl
  go_enter Tryz.func61, Tryz.ntmps61
  go_wp2_with fail
  refine (l1Below_s A n c g m bs w HC.out hn hm hm2).mono ?_
  rintro e w2 ⟨q, rfl, hq, hc2, hg2⟩
  have hr2 := HR.out.grown hg2 (fun b e r => hB b e (Option.some.inj r))
  obtain ⟨g1, o1, rfl, hg1, hx⟩ := RdT.at_ hr2 (show q < l.length by rw [HL.out]; exact hq)
  have HM := Lib.hid (List.getElem_mem (show q < l.length by rw [HL.out]; exact hq))
  obtain ⟨v, hv⟩ : ∃ v, l[q]'(by rw [HL.out]; exact hq) = v := ⟨_, rfl⟩
  rw [hv] at hx HM
  have hq0 : (0 : Int) ≤ (q : Int) := by omega
  have hq1 : (q : Int) < (m : Int) := by omega
  have HC2 := Lib.hid hc2
  have HG2 := Lib.hid hg2
  clear hc2 hg2 hr2 hv hq
  go_wp2_with fail
  go_ret
  exact ⟨v, rfl, HM.out, HC2.out, HG2.out⟩
/-- A word of few letters was drawn. -/
def RetWord (w : World) (g : Nat) (A : Option Addr) (n c : Nat) (bs : List UInt8) (e : Ending) (w' : World) : Prop :=
  ∃ t : ByteArray, e = .returned (.string t) ∧ t.size ≤ 8 ∧ Cur w' g A n c bs ∧ w.grownBy w' (some g)
def ltrs6 : List ByteArray := [⟨#[114]⟩, ⟨#[100]⟩, ⟨#[114]⟩, ⟨#[100]⟩, ⟨#[108]⟩, ⟨#[117]⟩]
theorem ltrs6_len : ∀ t ∈ ltrs6, t.size = 1 := by decide
set_option maxRecDepth 100000 in
set_option maxHeartbeats 1600000 in
theorem l26Word_s (A : Option Addr) (n c g : Nat) (bs : List UInt8) (w : World) (hc : Cur w g A n c bs) (hn : n ≤ 1048576) :
    Calls Tryz.prog 38 #[.pointer (some ⟨g, 0, none⟩)] w (RetWord w g A n c bs) := by
  have hgl : g < w.heap.size := by obtain ⟨i, x, hi, hB⟩ := hc.blk; exact hB.lt
  go_enter Tryz.func38, Tryz.ntmps38
  go_wp2_with fail
  refine (l1Below_s A n c g 8 bs w hc hn (by omega) (by omega)).mono ?_
  rintro e w1 ⟨q, rfl, hq, hc1, hg1⟩
  have HC1 := Lib.hid hc1
  have HF1 := Lib.hid ((FrG.refl w.heap.size g w).draw hg1 (Nat.le_refl _))
  clear hc hc1 hg1
  go_wp2_with fail
  go_loopw [3, 4] (fun e2 e3 wr => ∃ (k : Nat) (t : ByteArray), k ≤ 7 ∧ t.size + k ≤ 7 ∧ e2 = .string t ∧ e3 = .int .i64 k ∧ Cur wr g A n c bs ∧ FrG w.heap.size g w wr) (fun _ e3 _ => (intOf e3).toNat)
  case atStart => exact ⟨q, _, by omega, by show 0 + q ≤ 7; omega, rfl, rfl, HC1.out, HF1.out⟩
  case round =>
    obtain ⟨k, t, hk, ht, rfl, rfl, hc2, hf2⟩ := hrel
    have HC2 := Lib.hid hc2
    have HF2 := Lib.hid hf2
    have hsz := hf2.size
    clear hc2 hf2
    by_cases hk0 : 0 < k
    · have hi0 : (0 : Int) < (k : Int) := by omega
      go_wp2_with fail
      refine (l1Pick_s A (some ⟨wr.heap.size, 0, none⟩) n c g 6 6 ltrs6 bs _ (HC2.out.below (bel_alloc (Below.refl _ _) _)) hn (rd_new wr 9 _) rfl (by omega) (by omega) (fun b e => by simp only [ob, Option.map_some, Option.some.injEq] at e; omega)).mono ?_
      rintro e w3 ⟨v, rfl, hv, hc3, hg3⟩
      have hv1 := ltrs6_len v hv
      have HC3 := Lib.hid hc3
      have HF3 := Lib.hid ((HF2.out.below (bel_alloc (Below.refl _ _) (.cells (vT ltrs6).toArray 9)) hsz).draw hg3 (by simp; omega))
      have hts : (t.size : Int) + 1 ≤ 7 := by omega
      have hts2 : t.size + v.size ≤ 1000 := by omega
      have hkk : IntKind.i64.wrap ((k : Int) - 1) = (k : Int) - 1 := Go.IntWalk.i64_in _ (by omega)
      clear hc3 hg3 hv
      go_wp2_with fail
      exact ⟨⟨k - 1, _, by omega, by show (t ++ v).size + _ ≤ _; rw [ByteArray.size_append]; omega, rfl, by rw [show ((k - 1 : Nat) : Int) = (k : Int) - 1 by omega], HC3.out, HF3.out⟩, by simp [intOf]; omega⟩
    · obtain rfl : k = 0 := by omega
      have hts : t.size ≤ 7 := by omega
      go_wp2_with fail
      refine (l1Once_s A n c g 14 bs _ HC2.out hn (by omega) (by omega)).mono ?_
      rintro e w3 ⟨b, rfl, hc3, hg3⟩
      have HC3 := Lib.hid hc3
      have HF3 := Lib.hid (HF2.out.draw hg3 hsz)
      clear hc3 hg3
      cases b with
      | true =>
        go_wp2_with fail
        go_ret
        exact ⟨_, rfl, by show (t ++ _).size ≤ _; rw [ByteArray.size_append]; show t.size + 1 ≤ _; omega, HC3.out, HF3.out.grown⟩
      | false =>
        go_wp2_with fail
        go_ret
        exact ⟨t, rfl, by omega, HC3.out, HF3.out.grown⟩
def RetWd (w : World) (e : Ending) (w' : World) : Prop := ∃ t : ByteArray, e = .returned (.string t) ∧ t.size ≤ 8 ∧ Below w.heap.size w w'
theorem DrawShapeOfWord_s (A : Option Addr) (n c : Nat) (bs : List UInt8) (w : World) (hr : Rd w A (vB bs)) (hl : bs.length = n) (hn : n ≤ 1048576) :
    Calls Tryz.prog 15 #[.slice A n c] w (RetWd w) := by
  go_enter Tryz.func15, Tryz.ntmps15
  go_wp2_with fail
  refine (l1New_s A n c bs w hr hl hn).mono ?_
  rintro e w1 ⟨g, rfl, hc, hg, hb⟩
  have HC := Lib.hid hc
  have HB := Lib.hid hb
  clear hc hb hr hl
  go_wp2_with fail
  refine (l26Word_s A n c g bs w1 HC.out hn).mono ?_
  rintro e w2 ⟨t, rfl, ht, hc2, hg2⟩
  have HG2 := Lib.hid (grown_newD HB.out hg hg2)
  clear hc2 hg2
  go_wp2_with fail
  go_ret
  exact ⟨t, rfl, ht, HG2.out⟩
theorem DrawReverseWord_s (A : Option Addr) (n c : Nat) (bs : List UInt8) (w : World) (hr : Rd w A (vB bs)) (hl : bs.length = n) (hn : n ≤ 1048576) :
    Calls Tryz.prog 17 #[.slice A n c] w (RetWd w) := by
  go_enter Tryz.func17, Tryz.ntmps17
  go_wp2_with fail
  refine (l1New_s A n c bs w hr hl hn).mono ?_
  rintro e w1 ⟨g, rfl, hc, hg, hb⟩
  have HC := Lib.hid hc
  have HB := Lib.hid hb
  clear hc hb hr hl
  go_wp2_with fail
  refine (l26Word_s A n c g bs w1 HC.out hn).mono ?_
  rintro e w2 ⟨t, rfl, ht, hc2, hg2⟩
  have HG2 := Lib.hid (grown_newD HB.out hg hg2)
  clear hc2 hg2
  go_wp2_with fail
  go_ret
  exact ⟨t, rfl, ht, HG2.out⟩
theorem DrawCountSnakes_s (A : Option Addr) (n c : Nat) (bs : List UInt8) (w : World) (hr : Rd w A (vB bs)) (hl : bs.length = n) (hn : n ≤ 1048576) :
    Calls Tryz.prog 22 #[.slice A n c] w (RetNd w 7) := by
  go_enter Tryz.func22, Tryz.ntmps22
  go_wp2_with fail
  refine (l1New_s A n c bs w hr hl hn).mono ?_
  rintro e w1 ⟨g, rfl, hc, hg, hb⟩
  have HC := Lib.hid hc
  have HB := Lib.hid hb
  clear hc hb hr hl
  go_wp2_with fail
  refine (l1Below_s A n c g 7 bs w1 HC.out hn (by omega) (by omega)).mono ?_
  rintro e w2 ⟨q, rfl, hq, hc2, hg2⟩
  have HG2 := Lib.hid hg2
  have eq1 : IntKind.i64.wrap ((q : Int) - 1) = (q : Int) - 1 := Go.IntWalk.i64_in _ (by omega)
  clear hc2 hg2
  go_wp2_with fail
  go_ret
  exact ⟨q, rfl, hq, grown_newD HB.out hg HG2.out⟩
set_option maxRecDepth 100000 in
set_option maxHeartbeats 1600000 in
theorem l26Shape_s (A : Option Addr) (n c : Nat) (bs : List UInt8) (w : World) (hr : Rd w A (vB bs)) (hl : bs.length = n) (hn : n ≤ 1048576) :
    Calls Tryz.prog 26 #[.slice A n c] w (RetCl w) := by
  go_enter Tryz.func26, Tryz.ntmps26
  go_wp2_with fail
  refine (l1New_s A n c bs w hr hl hn).mono ?_
  rintro e w1 ⟨g, rfl, hc, hg, hb⟩
  have HC := Lib.hid hc
  have HB := Lib.hid hb
  clear hc hb hr hl
  go_wp2_with fail
  refine (l26Word_s A n c g bs w1 HC.out hn).mono ?_
  rintro e w2 ⟨t, rfl, ht, hc2, hg2⟩
  have HC2 := Lib.hid hc2
  have HG2 := Lib.hid (grown_newD HB.out hg hg2)
  clear hc2 hg2
  go_wp2_with fail
  refine (ShapeOfWord_s t w2 (by omega)).mono ?_
  obtain ⟨xs, hxs⟩ : ∃ xs, (sowV t.data.toList).1 = xs := ⟨_, rfl⟩
  obtain ⟨b, hb⟩ : ∃ b, (sowV t.data.toList).2 = b := ⟨_, rfl⟩
  rw [hxs, hb]
  rintro e w3 ⟨D, k, cD, rfl, hO, hb3⟩
  have hkl : xs.length = k := by have h1 := own_len hO; rw [vC_length] at h1; omega
  have hxl : xs.length ≤ 9 := by
    rw [← hxs]
    unfold sowV
    split
    · simp
    · next l hl =>
      have h1 := wayW_len hl
      rw [data_len] at h1
      split
      · have := cornI_len l; simp only; omega
      · simp
  have HO := Lib.hid (Rd.of_own hO)
  have hcap := own_capD hO
  have hk9 : k ≤ 9 := by omega
  have HKL := Lib.hid hkl
  have hgl : g < w2.heap.size := by obtain ⟨i, x, hi, hB⟩ := HC2.out.blk; exact hB.lt
  have hDg : ∀ b, ob D = some b → b ≠ g := fun b e => by have := (own_lt hO b e).1; omega
  have HC3 := Lib.hid (HC2.out.below hb3)
  have HG3 := Lib.hid (bel_trans HG2.out hb3)
  have HDG := Lib.hid hDg
  clear hxs hb hO hkl hb3 hDg
  cases b with
  | false =>
    go_wp2_with fail
    refine (l2Any_s A n c g bs w3 HC3.out hn).mono ?_
    rintro e w4 ⟨D2, k2, cD2, ys, rfl, hr3, hl3, hk8, hkc, hc4, hg4, hdg⟩
    have HG4 := Lib.hid (grown_newD HG3.out hg hg4)
    have HR3 := Lib.hid hr3
    have HL3 := Lib.hid hl3
    clear hc4 hg4 hr3 hl3
    go_wp2_with fail
    go_ret
    exact ⟨D2, k2, cD2, ys, rfl, HR3.out, HL3.out, by omega, hkc, HG4.out⟩
  | true =>
    go_wp2_with fail
    refine (l1Once_s A n c g 3 bs w3 HC3.out hn (by omega) (by omega)).mono ?_
    rintro e w4 ⟨o, rfl, hc4, hg4⟩
    have HC4 := Lib.hid hc4
    have HG4 := Lib.hid (grown_newD HG3.out hg hg4)
    have HO4 := Lib.hid (HO.out.grown hg4 (fun b e r => HDG.out b e (Option.some.inj r)))
    clear hc4 hg4
    cases o with
    | false =>
      go_wp2_with fail
      go_ret
      exact ⟨D, k, cD, xs, rfl, HO4.out, HKL.out, by omega, hcap, HG4.out⟩
    | true =>
      go_wp2_with fail
      refine (l2Any_s A n c g bs w4 HC4.out hn).mono ?_
      rintro e w5 ⟨D2, k2, cD2, ys, rfl, hr3, hl3, hk8, hkc, hc5, hg5, hdg⟩
      have HG5 := Lib.hid (grown_newD HG4.out hg hg5)
      have HR3 := Lib.hid hr3
      have HL3 := Lib.hid hl3
      clear hc5 hg5 hr3 hl3
      go_wp2_with fail
      go_ret
      exact ⟨D2, k2, cD2, ys, rfl, HR3.out, HL3.out, by omega, hkc, HG5.out⟩
theorem DrawSnakeWord_s (A : Option Addr) (n c : Nat) (bs : List UInt8) (w : World) (hr : Rd w A (vB bs)) (hl : bs.length = n) (hn : n ≤ 1048576) :
    Calls Tryz.prog 5 #[.slice A n c] w (RetCl w) := by
  go_enter Tryz.func5, Tryz.ntmps5
  go_wp2_with fail
  refine (l26Shape_s A n c bs w hr hl hn).mono ?_
  rintro e w1 ⟨D, k, cD, xs, rfl, hr3, hl3, hk8, hkc, hb⟩
  have HB := Lib.hid hb
  have HR3 := Lib.hid hr3
  have HL3 := Lib.hid hl3
  clear hb hr3 hl3
  go_wp2_with fail
  go_ret
  exact ⟨D, k, cD, xs, rfl, HR3.out, HL3.out, hk8, hkc, HB.out⟩
theorem DrawEndsOf_s (A : Option Addr) (n c : Nat) (bs : List UInt8) (w : World) (hr : Rd w A (vB bs)) (hl : bs.length = n) (hn : n ≤ 1048576) :
    Calls Tryz.prog 19 #[.slice A n c] w (RetCl w) := by
  go_enter Tryz.func19, Tryz.ntmps19
  go_wp2_with fail
  refine (l26Shape_s A n c bs w hr hl hn).mono ?_
  rintro e w1 ⟨D, k, cD, xs, rfl, hr3, hl3, hk8, hkc, hb⟩
  have HB := Lib.hid hb
  have HR3 := Lib.hid hr3
  have HL3 := Lib.hid hl3
  clear hb hr3 hl3
  go_wp2_with fail
  go_ret
  exact ⟨D, k, cD, xs, rfl, HR3.out, HL3.out, hk8, hkc, HB.out⟩
theorem DrawSnakeOrder_s (A : Option Addr) (n c : Nat) (bs : List UInt8) (w : World) (hr : Rd w A (vB bs)) (hl : bs.length = n) (hn : n ≤ 1048576) :
    Calls Tryz.prog 20 #[.slice A n c] w (RetCl w) := by
  go_enter Tryz.func20, Tryz.ntmps20
  go_wp2_with fail
  refine (l26Shape_s A n c bs w hr hl hn).mono ?_
  rintro e w1 ⟨D, k, cD, xs, rfl, hr3, hl3, hk8, hkc, hb⟩
  have HB := Lib.hid hb
  have HR3 := Lib.hid hr3
  have HL3 := Lib.hid hl3
  clear hb hr3 hl3
  go_wp2_with fail
  go_ret
  exact ⟨D, k, cD, xs, rfl, HR3.out, HL3.out, hk8, hkc, HB.out⟩
end Go.Proofs.YtfnphchcgaebkaaGreat

/- What the program's and the reference's functions on the way back do: walks. -/
namespace Go.Proofs.YtfnphchcgaebkaaGreat
open Go.RowKit
set_option linter.unusedVariables false
attribute [local go_sem ↓] Go.wp_at_zero Go.wp_at_succ



theorem stepOf_iE (a b c d : Int) (w : World) : Calls Tryz.prog 27 #[.agg #[.int .i64 a, .int .i64 b], .agg #[.int .i64 c, .int .i64 d]] w (Ret w (.int .u8 (stepV (a, b) (c, d)).toNat)) := by
  by_cases h1 : a < c
  · have HV := Lib.hid (show stepV (a, b) (c, d) = 114 by unfold stepV; simp only [gt_iff_lt, h1, if_true])
    go_enter Tryz.func27, Tryz.ntmps27
    go_wp2
    go_ret
    exact ⟨by rw [HV.out]; rfl, (by (repeat (first | with_reducible exact Below.refl _ _ | with_reducible assumption | with_reducible apply bel_alloc | with_reducible apply bel_drew | with_reducible apply bel_drewN | ((with_reducible refine bel_set ?_ ?_); rotate_left; (simp <;> omega)) | (with_reducible refine bel_trans ?_ (by with_reducible assumption)))))⟩
  by_cases h2 : c < a
  · have HV := Lib.hid (show stepV (a, b) (c, d) = 108 by unfold stepV; simp only [gt_iff_lt, h1, h2, if_true, if_false])
    go_enter Tryz.func27, Tryz.ntmps27
    go_wp2
    go_ret
    exact ⟨by rw [HV.out]; rfl, (by (repeat (first | with_reducible exact Below.refl _ _ | with_reducible assumption | with_reducible apply bel_alloc | with_reducible apply bel_drew | with_reducible apply bel_drewN | ((with_reducible refine bel_set ?_ ?_); rotate_left; (simp <;> omega)) | (with_reducible refine bel_trans ?_ (by with_reducible assumption)))))⟩
  by_cases h3 : b < d
  · have HV := Lib.hid (show stepV (a, b) (c, d) = 100 by unfold stepV; simp only [gt_iff_lt, h1, h2, h3, if_true, if_false])
    go_enter Tryz.func27, Tryz.ntmps27
    go_wp2
    go_ret
    exact ⟨by rw [HV.out]; rfl, (by (repeat (first | with_reducible exact Below.refl _ _ | with_reducible assumption | with_reducible apply bel_alloc | with_reducible apply bel_drew | with_reducible apply bel_drewN | ((with_reducible refine bel_set ?_ ?_); rotate_left; (simp <;> omega)) | (with_reducible refine bel_trans ?_ (by with_reducible assumption)))))⟩
  · have HV := Lib.hid (show stepV (a, b) (c, d) = 117 by unfold stepV; simp only [gt_iff_lt, h1, h2, h3, if_false])
    go_enter Tryz.func27, Tryz.ntmps27
    go_wp2
    go_ret
    exact ⟨by rw [HV.out]; rfl, (by (repeat (first | with_reducible exact Below.refl _ _ | with_reducible assumption | with_reducible apply bel_alloc | with_reducible apply bel_drew | with_reducible apply bel_drewN | ((with_reducible refine bel_set ?_ ?_); rotate_left; (simp <;> omega)) | (with_reducible refine bel_trans ?_ (by with_reducible assumption)))))⟩

set_option maxRecDepth 100000 in
set_option maxHeartbeats 800000 in
theorem ReverseWord_i (s : ByteArray) (w : World) (hm : s.size ≤ maxLen) : Calls Tryz.prog 10 #[.string s] w (Ret w (revV s)) := by
  by_cases h20 : s.size ≤ 20
  · cases hw : wayW (0, 0) s.data.toList with
    | none =>
      have hall := wayW_all (c := (0, 0)) (w := s.data.toList)
      rw [hw] at hall
      have HV : Hid (revV s = .tuple #[.string (bs []), .bool false]) := if_neg (by rw [← hall]; simp)
      have HW := Lib.hid hw
      clear hw hall
      go_enter Tryz.func10, Tryz.ntmps10
      go_wp2_with (go_at_call 30; refine (wayOf_i _ _ _ (by omega) (by omega)).mono ?_; rw [HW.out]; rintro e w' ⟨rfl, hb1⟩)
      go_ret2
      exact ⟨by rw [HV.out]; rfl, (by (repeat (first | with_reducible exact Below.refl _ _ | with_reducible assumption | with_reducible apply bel_alloc | with_reducible apply bel_drew | with_reducible apply bel_drewN | ((with_reducible refine bel_set ?_ ?_); rotate_left; (simp <;> omega)) | (with_reducible refine bel_trans ?_ (by with_reducible assumption)))))⟩
    | some l =>
      have hall := wayW_all (c := (0, 0)) (w := s.data.toList)
      rw [hw] at hall
      have HV : Hid (revV s = .tuple #[.string (bs (revW s.data.toList)), .bool true]) := if_pos ⟨h20, by rw [← hall]; rfl⟩
      have hlen := wayW_len hw
      rw [data_len] at hlen
      have HW := Lib.hid hw
      have HN := Lib.hid hlen
      clear hw hall hlen
      go_enter Tryz.func10, Tryz.ntmps10
      go_wp2_with (go_at_call 30; refine (wayOf_i _ _ _ (by omega) (by omega)).mono ?_; rw [HW.out]; rintro e w1 ⟨A, n, c, rfl, hown, hb1⟩)
      have hn : n = s.size + 1 := by have := own_len hown; rw [vC_length, HN.out] at this; omega
      have hrd := Rd.of_own hown
      have hn2 : n ≤ 21 := by omega
      have hs1 : (n : Int) - 1 = (s.size : Int) := by omega
      have HM := Lib.hid hn
      have HS1 := Lib.hid hs1
      clear hn hs1
      go_loopw [6, 7] (fun o i wr => ∃ (k m cap : Nat) (A' : Option Addr), k ≤ s.size ∧ i = .int .i64 k ∧ o = .slice A' m cap ∧ m = s.size - k ∧
        wr.ownsRow w1.heap.size 5 1 (.slice A' m cap) m (vB (revW (s.data.toList.drop k))) ∧ Below w1.heap.size w1 wr) (fun _ i _ => (intOf i).toNat)
      case atStart =>
        have hn := HM.out
        refine ⟨s.size, 0, 0, none, Nat.le_refl _, ?_, rfl, by omega, ?_, Below.refl _ _⟩
        · rw [HS1.out, IntWalk.wrap64_in _ (by omega)]
        · rw [List.drop_of_length_le (by rw [data_len]; exact Nat.le_refl _)]; exact own_nil _ _ _ _
      case round =>
        obtain ⟨k, m, cap, A', hk, rfl, rfl, hmk, hown2, hb⟩ := hrel
        by_cases hk0 : 0 < k
        · obtain ⟨j, hjk⟩ : ∃ j, k = j + 1 := ⟨k - 1, by omega⟩
          have hjs : j < s.size := by omega
          have hl1 : j < l.length := by rw [HN.out]; omega
          have hl2 : k < l.length := by rw [HN.out]; omega
          obtain ⟨g, off, rfl, hgw, c1, c2⟩ := RdC.at_ (hrd.below hb) hl1
          obtain ⟨g', off', hgg, _, d1, d2⟩ := RdC.at_ (hrd.below hb) hl2
          obtain ⟨rfl, rfl⟩ : g = g' ∧ off = off' := by injection hgg with h; injection h with h1 h2; exact ⟨h1, h2⟩
          have he1 := way_at HW.out j (by rw [data_len]; omega)
          have he2 := way_at HW.out k (by rw [data_len]; omega)
          rw [List.getD_eq_getElem?_getD, List.getElem?_eq_getElem hl1] at he1
          rw [List.getD_eq_getElem?_getD, List.getElem?_eq_getElem hl2] at he2
          have hst := end_step s j hjs (0, 0) _ he1
          rw [← hjk, he2] at hst
          obtain ⟨x, y, hxy⟩ : ∃ x y, l[j] = (x, y) := ⟨_, _, rfl⟩
          obtain ⟨x', y', hxy'⟩ : ∃ x y, l[k] = (x, y) := ⟨_, _, rfl⟩
          rw [hxy] at c1 c2
          rw [hxy'] at d1 d2
          simp only [Option.getD_some, hxy, hxy'] at hst he1
          have hbd := endW_bound he1 0 (by rw [List.length_take, data_len]; omega) (by simp)
          rw [List.length_take, data_len] at hbd
          have hop := stepV_back hst.symm (by simp only at hbd; omega) (by simp only at hbd; omega)
          have hrv := revW_drop s j hjs
          rw [← hop, ← hjk] at hrv
          have HR := Lib.hid hrv
          have HMK := Lib.hid hmk
          have HJ := Lib.hid hjk
          have n1 := World.new_ne wr _ c1
          have hgw1 : g < w1.heap.size := (own_lt hown g rfl).2
          have hm20 : m ≤ 20 := by omega
          have hi0 : (0 : Int) ≤ (k : Int) := by omega
          have hi1 : (k : Int) < (n : Int) := by have := HM.out; omega
          have hi2 : (k : Int) - 1 < (n : Int) := by omega
          have hi3 : ((k : Int) - 1).toNat = j := by omega
          have hi4 : (0 : Int) ≤ (k : Int) - 1 := by omega
          have hi6 : (1 : Int) ≤ (k : Int) := by omega
          have hi7 : 1 ≤ k := by omega
          have hi8 : (k : Int) < (n : Int) + 1 := by omega
          have hi5 : IntKind.i64.wrap ((k : Int) - 1) = (k : Int) - 1 := IntWalk.i64_in _ (by omega)
          clear hbd he1 he2 hst hxy hxy' hop hrv hmk hgg hjk
          go_wp2_with fail
          go_region_held3 (fun w' => w'.cell? ⟨g, off + j * 2, none⟩ = some (.int .i64 x) ∧ w'.cell? ⟨g, off + j * 2 + 1, none⟩ = some (.int .i64 y) ∧ w'.cell? ⟨g, off + k * 2, none⟩ = some (.int .i64 x') ∧ w'.cell? ⟨g, off + k * 2 + 1, none⟩ = some (.int .i64 y'))
            ((go_split_ands; (try dsimp only); (repeat' (with_reducible apply And.intro)) <;> (repeat (first | with_reducible assumption | with_reducible apply keep_alloc | with_reducible apply keep_drew | with_reducible refine keep_below hb2 ?_ | ((with_reducible refine keep_grown hg2 ?_ ?_); rotate_left; (intro h; have hq := (own_lt hown2 _ h.symm).1; simp at hq; omega)) | ((with_reducible refine keep_set ?_ ?_); rotate_left; (simp <;> omega))))))
            (first | (go_at_call 27; refine (stepOf_iE _ _ _ _ _).mono ?_; rintro e w' ⟨rfl, hb2⟩) | ((refine step_B _ (by rfl) _ _ (by rfl) w1.heap.size _ _ _ (revW (s.data.toList.drop k)) (by rfl) (by exact ((own_keep (hown2.drew) hb2).alloc _)) _ 1 _ [stepV (x', y') (x, y)] (by rfl) (by exact rd_newB _ _ _) rfl (by omega) (by have h1 := hb.size; have h2 := hb2.size; simp at h2 ⊢; omega) ?_; intro A2 c2 w2 hown3 hg2 hat2)))
          go_wp2
          have hj := HJ.out
          exact ⟨⟨j, m + 1, c2, A2, by omega, by rw [show (k : Int) - 1 = (j : Int) from by omega], rfl, by have := HMK.out; omega, by rw [HR.out]; exact hown3, bel_app (bel_alloc (bel_trans (bel_drew hb) hb2) _) hg2 (fun g' hg' => ((own_lt hown2) g' hg').1)⟩, by simp [intOf]; omega⟩
        · have hk1 : k = 0 := by omega
          subst hk1
          have hcv := conv_B wr (n := m) (c := cap) (Rd.of_own hown2) (by have := own_len hown2; rw [vB_length] at this; exact this.trans (Nat.mul_one _))
          rw [List.drop_zero] at hcv
          have HMK := Lib.hid hmk
          clear hmk
          go_wp2
          go_ret2
          exact ⟨by rw [HV.out]; rfl, (by (repeat (first | with_reducible exact Below.refl _ _ | with_reducible assumption | with_reducible apply bel_alloc | with_reducible apply bel_drew | with_reducible apply bel_drewN | ((with_reducible refine bel_set ?_ ?_); rotate_left; (simp <;> omega)) | (with_reducible refine bel_trans ?_ (by with_reducible assumption)))))⟩
  · have HV : Hid (revV s = .tuple #[.string (bs []), .bool false]) := if_neg (fun h => h20 h.1)
    go_enter Tryz.func10, Tryz.ntmps10
    go_wp2_with (go_at_call 30; refine (wayOf_far _ _ _ (by omega) hm).mono ?_; rintro e w' ⟨rfl, hb1⟩)
    go_ret2
    exact ⟨by rw [HV.out]; rfl, (by (repeat (first | with_reducible exact Below.refl _ _ | with_reducible assumption | with_reducible apply bel_alloc | with_reducible apply bel_drew | with_reducible apply bel_drewN | ((with_reducible refine bel_set ?_ ?_); rotate_left; (simp <;> omega)) | (with_reducible refine bel_trans ?_ (by with_reducible assumption)))))⟩

theorem data_app (a b : ByteArray) : (a ++ b).data.toList = a.data.toList ++ b.data.toList := by simp [ByteArray.data_append]
theorem revV_far (s : ByteArray) (h : ¬ s.size ≤ 20) : revV s = .tuple #[.string (bs []), .bool false] := if_neg (fun e => h e.1)
theorem revV_bad (s : ByteArray) (h : s.data.toList.all isS = false) : revV s = .tuple #[.string (bs []), .bool false] := if_neg (fun e => by rw [h] at e; exact absurd e.2 (by simp))
theorem revV_good (s : ByteArray) (h : s.size ≤ 20) (h2 : s.data.toList.all isS = true) : revV s = .tuple #[.string (bs (revW s.data.toList)), .bool true] := if_pos ⟨h, h2⟩
theorem all_bad (s : ByteArray) (k : Nat) (h : k < s.size) (hb : isS s[k] = false) : s.data.toList.all isS = false := by
  have h1 := all_drop s k h
  rw [hb, Bool.false_and] at h1
  rw [← List.take_append_drop k s.data.toList, List.all_append, h1, Bool.and_false]

set_option maxRecDepth 100000 in
set_option maxHeartbeats 800000 in
theorem ReverseWord_s (s : ByteArray) (w : World) (hm : s.size ≤ maxLen) : Calls Tryz.prog 18 #[.string s] w (Ret w (revV s)) := by
  have hm' := hm
  unfold maxLen at hm'
  by_cases h20 : s.size ≤ 20
  · have hd : decide ((s.size : Int) ≤ 20) = true := by simp; omega
    go_enter Tryz.func18, Tryz.ntmps18
    go_wp2
    go_loopw [4, 5] (fun o i wr => ∃ (k : Nat) (q : ByteArray), k ≤ s.size ∧ i = .int .i64 ((k : Int) - 1) ∧ o = .string q ∧ q.data.toList = revW (s.data.toList.drop k) ∧ (s.data.toList.drop k).all isS = true ∧ Below w.heap.size w wr) (fun _ i _ => (intOf i + 1).toNat)
    case atStart => exact ⟨s.size, ⟨#[]⟩, Nat.le_refl _, rfl, rfl, by rw [List.drop_of_length_le (by rw [data_len]; exact Nat.le_refl _)]; rfl, by rw [List.drop_of_length_le (by rw [data_len]; exact Nat.le_refl _)]; rfl, Below.refl _ _⟩
    case round =>
      obtain ⟨k, q, hk, rfl, rfl, hq, hall, hb⟩ := hrel
      have hqs : q.size ≤ 20 := by
        have := congrArg List.length hq
        rw [data_len] at this
        rw [this]
        simp [revW]
        omega
      by_cases hk0 : 0 < k
      · obtain ⟨j, hjk⟩ : ∃ j, k = j + 1 := ⟨k - 1, by omega⟩
        have hjs : j < s.size := by omega
        have hrv := revW_drop s j hjs
        have hal := all_drop s j hjs
        rw [← hjk, ← hq] at hrv
        rw [← hjk, hall, Bool.and_true] at hal
        have hbad := all_bad s j hjs
        have HR := Lib.hid hrv
        have HA := Lib.hid hal
        have HB := Lib.hid hbad
        have HJ := Lib.hid hjk
        have hi3 : ((k : Int) - 1).toNat = j := by omega
        have hi4 : (0 : Int) ≤ (k : Int) - 1 := by omega
        have hi5 : (1 : Int) ≤ (k : Int) := by omega
        have hi6 : (k : Int) ≤ (s.size : Int) := by omega
        have hi7 : (k : Int) - 1 < (s.size : Int) := by omega
        clear hrv hal hbad hjk hq hall
        by_cases e1 : s[j] = 114
        · have hs : isS s[j] = true := by rw [e1]; rfl
          have ho : oppS s[j] = 108 := by rw [e1]; rfl
          have e2 : ((s[j].toNat : Int) == 114) = true := by rw [e1]; rfl
          have HS := Lib.hid hs
          have HO := Lib.hid ho
          clear e1 hs ho
          go_wp2
          have hj := HJ.out
          exact ⟨⟨j, _, by omega, by rw [show (k : Int) - 1 - 1 = (j : Int) - 1 from by omega], rfl, by rw [data_app, HR.out, HO.out], by rw [HA.out, HS.out], hb⟩, by simp [intOf]; omega⟩
        by_cases e2 : s[j] = 100
        · have hs : isS s[j] = true := by rw [e2]; rfl
          have ho : oppS s[j] = 117 := by rw [e2]; rfl
          have e3 : ((s[j].toNat : Int) == 114) = false := by rw [e2]; rfl
          have e4 : ((s[j].toNat : Int) == 100) = true := by rw [e2]; rfl
          have HS := Lib.hid hs
          have HO := Lib.hid ho
          clear e1 e2 hs ho
          go_wp2
          have hj := HJ.out
          exact ⟨⟨j, _, by omega, by rw [show (k : Int) - 1 - 1 = (j : Int) - 1 from by omega], rfl, by rw [data_app, HR.out, HO.out], by rw [HA.out, HS.out], hb⟩, by simp [intOf]; omega⟩
        by_cases e3 : s[j] = 108
        · have hs : isS s[j] = true := by rw [e3]; rfl
          have ho : oppS s[j] = 114 := by rw [e3]; rfl
          have e4 : ((s[j].toNat : Int) == 114) = false := by rw [e3]; rfl
          have e5 : ((s[j].toNat : Int) == 100) = false := by rw [e3]; rfl
          have e6 : ((s[j].toNat : Int) == 108) = true := by rw [e3]; rfl
          have HS := Lib.hid hs
          have HO := Lib.hid ho
          clear e1 e2 e3 hs ho
          go_wp2
          have hj := HJ.out
          exact ⟨⟨j, _, by omega, by rw [show (k : Int) - 1 - 1 = (j : Int) - 1 from by omega], rfl, by rw [data_app, HR.out, HO.out], by rw [HA.out, HS.out], hb⟩, by simp [intOf]; omega⟩
        by_cases e4 : s[j] = 117
        · have hs : isS s[j] = true := by rw [e4]; rfl
          have ho : oppS s[j] = 100 := by rw [e4]; rfl
          have e5 : ((s[j].toNat : Int) == 114) = false := by rw [e4]; rfl
          have e6 : ((s[j].toNat : Int) == 100) = false := by rw [e4]; rfl
          have e7 : ((s[j].toNat : Int) == 108) = false := by rw [e4]; rfl
          have e8 : ((s[j].toNat : Int) == 117) = true := by rw [e4]; rfl
          have HS := Lib.hid hs
          have HO := Lib.hid ho
          clear e1 e2 e3 e4 hs ho
          go_wp2
          have hj := HJ.out
          exact ⟨⟨j, _, by omega, by rw [show (k : Int) - 1 - 1 = (j : Int) - 1 from by omega], rfl, by rw [data_app, HR.out, HO.out], by rw [HA.out, HS.out], hb⟩, by simp [intOf]; omega⟩
        · have hs : isS s[j] = false := by simp [isS, e1, e2, e3, e4]
          have e5 : ((s[j].toNat : Int) == 114) = false := (u8_is _ 114).trans (by simpa using e1)
          have e6 : ((s[j].toNat : Int) == 100) = false := (u8_is _ 100).trans (by simpa using e2)
          have e7 : ((s[j].toNat : Int) == 108) = false := (u8_is _ 108).trans (by simpa using e3)
          have e8 : ((s[j].toNat : Int) == 117) = false := (u8_is _ 117).trans (by simpa using e4)
          have HV := Lib.hid (revV_bad s (HB.out hs))
          clear e1 e2 e3 e4 hs
          go_wp2
          go_ret2
          exact ⟨by rw [HV.out]; rfl, (by (repeat (first | with_reducible exact Below.refl _ _ | with_reducible assumption | with_reducible apply bel_alloc | with_reducible apply bel_drew | with_reducible apply bel_drewN | ((with_reducible refine bel_set ?_ ?_); rotate_left; (simp <;> omega)) | (with_reducible refine bel_trans ?_ (by with_reducible assumption)))))⟩
      · have hk1 : k = 0 := by omega
        subst hk1
        rw [List.drop_zero] at hq hall
        have HV := Lib.hid (revV_good s h20 hall)
        have HQ := Lib.hid (bs_of hq)
        have hi3 : ((0 : Nat) : Int) - 1 = -1 := by omega
        clear hq hall
        go_wp2
        go_ret2
        exact ⟨by rw [HV.out, ← HQ.out]; rfl, (by (repeat (first | with_reducible exact Below.refl _ _ | with_reducible assumption | with_reducible apply bel_alloc | with_reducible apply bel_drew | with_reducible apply bel_drewN | ((with_reducible refine bel_set ?_ ?_); rotate_left; (simp <;> omega)) | (with_reducible refine bel_trans ?_ (by with_reducible assumption)))))⟩
  · have HV := Lib.hid (revV_far s h20)
    have hd : decide ((s.size : Int) ≤ 20) = false := by simp; omega
    go_enter Tryz.func18, Tryz.ntmps18
    go_wp2
    go_loopw [4, 5] (fun o i wr => i = .int .i64 ((s.size : Int) - 1) ∧ o = .string ⟨#[]⟩ ∧ Below w.heap.size w wr) (fun _ i _ => 0)
    case atStart => exact ⟨rfl, rfl, Below.refl _ _⟩
    case round =>
      obtain ⟨rfl, rfl, hb⟩ := hrel
      have hi1 : (20 : Int) < (s.size : Int) := by omega
      have hi2 : (0 : Int) ≤ (s.size : Int) - 1 := by omega
      have hi3 : (1 : Int) ≤ (s.size : Int) := by omega
      go_wp2
      go_ret2
      exact ⟨by rw [HV.out]; rfl, (by (repeat (first | with_reducible exact Below.refl _ _ | with_reducible assumption | with_reducible apply bel_alloc | with_reducible apply bel_drew | with_reducible apply bel_drewN | ((with_reducible refine bel_set ?_ ?_); rotate_left; (simp <;> omega)) | (with_reducible refine bel_trans ?_ (by with_reducible assumption)))))⟩

theorem revV_form (s : ByteArray) : ∃ q b, revV s = .tuple #[.string q, .bool b] := by
  unfold revV
  split
  · exact ⟨_, _, rfl⟩
  · exact ⟨_, _, rfl⟩
end Go.Proofs.YtfnphchcgaebkaaGreat

/- Shapes compared: both sides. -/
namespace Go.Proofs.YtfnphchcgaebkaaGreat
open Go.RowKit
set_option linter.unusedVariables false
attribute [local go_sem ↓] Go.wp_at_zero Go.wp_at_succ
set_option maxHeartbeats 1600000 in
theorem CompareShapes_i (A B : Option Addr) (n c m d : Nat) (xs ys : List C) (w : World) (hr : Rd w A (vC xs)) (hr2 : Rd w B (vC ys)) (hl : xs.length = n) (hl2 : ys.length = m) (hn : n ≤ 1099511627776) (hm : m ≤ 1099511627776) :
    Calls Tryz.prog 86 #[.slice A n c, .slice B m d] w (Ret w (.int .i64 (cmpS xs ys))) := by
  rcases Nat.lt_trichotomy n m with hlt | heq | hgt
  · have HV : Hid (cmpS xs ys = -1) := cmpS_len (by omega)
    have h1 : (n : Int) < (m : Int) := by omega
    have h2 : ((n : Int) != (m : Int)) = true := by rw [bne_iff_ne]; omega
    clear hl hl2
    go_enter Tryz.func86, Tryz.ntmps86
    go_wp2
    go_ret
    exact ⟨by rw [HV.out]; rfl, (by (repeat (first | with_reducible exact Below.refl _ _ | with_reducible assumption | with_reducible apply bel_alloc | with_reducible apply bel_drew | with_reducible apply bel_drewN | ((with_reducible refine bel_set ?_ ?_); rotate_left; (simp <;> omega)) | (with_reducible refine bel_trans ?_ (by with_reducible assumption)))))⟩
  · subst heq
    have HLL : Hid (xs.length = ys.length) := hl.trans hl2.symm
    have HL := Lib.hid hl
    have HL2 := Lib.hid hl2
    have h1 : decide ((n : Int) < (n : Int)) = false := by simp
    clear hl hl2
    go_enter Tryz.func86, Tryz.ntmps86
    go_wp2
    go_loopw [20] (fun e5 wr => ∃ k : Nat, k ≤ n ∧ e5 = .int .i64 k ∧ xs.take k = ys.take k ∧ Below w.heap.size w wr) (fun e5 _ => n - (intOf e5).toNat)
    case atStart => exact ⟨0, Nat.zero_le _, rfl, rfl, Below.refl _ _⟩
    case round =>
      obtain ⟨k, hk, rfl, htk, hb⟩ := hrel
      have HT := Lib.hid htk
      clear htk
      by_cases hkn : k < n
      · have hk1 : k < xs.length := by rw [HL.out]; exact hkn
        have hk2 : k < ys.length := by rw [HL2.out]; exact hkn
        have hk0 : (0 : Int) ≤ (k : Int) := by omega
        have hkI : (k : Int) < (n : Int) := by omega
        obtain ⟨g1, o1, rfl, hg1, a1, a2⟩ := RdC.at_ (hr.below hb) hk1
        obtain ⟨g2, o2, rfl, hg2, b1, b2⟩ := RdC.at_ (hr2.below hb) hk2
        obtain ⟨x, hx⟩ : ∃ x, xs[k].1 = x := ⟨_, rfl⟩
        obtain ⟨y, hy⟩ : ∃ y, xs[k].2 = y := ⟨_, rfl⟩
        obtain ⟨p, hp⟩ : ∃ p, ys[k].1 = p := ⟨_, rfl⟩
        obtain ⟨q, hq⟩ : ∃ q, ys[k].2 = q := ⟨_, rfl⟩
        have hxy : xs[k] = (x, y) := Prod.ext hx hy
        have hpq : ys[k] = (p, q) := Prod.ext hp hq
        rw [hx] at a1
        rw [hy] at a2
        rw [hp] at b1
        rw [hq] at b2
        have HAT := Lib.hid (cmpS_at HLL.out hk1 HT.out (x, y) (p, q) hxy hpq)
        have HST : Hid ((x, y) = (p, q) → xs.take (k + 1) = ys.take (k + 1)) := fun e => take_eq_step hk1 hk2 HT.out (by rw [hxy, hpq, e])
        clear hx hy hp hq hxy hpq
        cases h3 : befC (x, y) (p, q) with
        | true =>
          have HV := Lib.hid (HAT.out.1 h3)
          have H3 := Lib.hid h3
          clear h3
          go_wp2_with fail
          (refine wp_region_below (by kernel_rfl) (by kernel_rfl) ?_; (repeat (first | go_big_quiet_skip | (refine quietV (v := ?_) (by rfl) rfl (fun w' hbw => ?_) ?_; rotate_left; ((try dsimp only at hbw); have hbc := (bcell hbw).1; have hbf := (bcell hbw).2; go_simp; first | done | with_reducible rfl | exact callsBB (before_i x y p q _) H3.out hbw); simp only [List.setIfInBounds_toArray, List.set_cons_zero, List.set_cons_succ]))); refine wpQuiet_nil ?_; intro wq hbq)
          go_wp2_with fail
          go_ret
          exact ⟨by rw [HV.out]; rfl, (by (repeat (first | with_reducible exact Below.refl _ _ | with_reducible assumption | with_reducible apply bel_alloc | with_reducible apply bel_drew | with_reducible apply bel_drewN | ((with_reducible refine bel_set ?_ ?_); rotate_left; (simp <;> omega)) | (with_reducible refine bel_trans ?_ (by with_reducible assumption)))))⟩
        | false =>
          have H3 := Lib.hid h3
          cases h4 : befC (p, q) (x, y) with
          | true =>
            have HV := Lib.hid (HAT.out.2 h4)
            have H4 := Lib.hid h4
            clear h3 h4
            go_wp2_with fail
            (refine wp_region_below (by kernel_rfl) (by kernel_rfl) ?_; (repeat (first | go_big_quiet_skip | (refine quietV (v := ?_) (by rfl) rfl (fun w' hbw => ?_) ?_; rotate_left; ((try dsimp only at hbw); have hbc := (bcell hbw).1; have hbf := (bcell hbw).2; go_simp; first | done | with_reducible rfl | exact callsBB (before_i x y p q _) H3.out hbw); simp only [List.setIfInBounds_toArray, List.set_cons_zero, List.set_cons_succ]))); refine wpQuiet_nil ?_; intro wq hbq)
            have c1 := (hbq.cell hg1).trans a1
            have c2 := (hbq.cell hg1).trans a2
            have c3 := (hbq.cell hg2).trans b1
            have c4 := (hbq.cell hg2).trans b2
            have hg3 : g1 < wq.heap.size := Nat.lt_of_lt_of_le hg1 hbq.size
            have hg4 : g2 < wq.heap.size := Nat.lt_of_lt_of_le hg2 hbq.size
            clear a1 a2 b1 b2 hg1 hg2
            go_wp2_with fail
            (refine wp_region_below (by kernel_rfl) (by kernel_rfl) ?_; (repeat (first | go_big_quiet_skip | (refine quietV (v := ?_) (by rfl) rfl (fun w' hbw => ?_) ?_; rotate_left; ((try dsimp only at hbw); have hbc := (bcell hbw).1; have hbf := (bcell hbw).2; go_simp; first | done | with_reducible rfl | exact callsBB (before_i p q x y _) H4.out hbw); simp only [List.setIfInBounds_toArray, List.set_cons_zero, List.set_cons_succ]))); refine wpQuiet_nil ?_; intro wz hbz)
            go_wp2_with fail
            go_ret
            exact ⟨by rw [HV.out]; rfl, bel_trans (bel_trans hb hbq) hbz⟩
          | false =>
            have HE := Lib.hid (befC_sto.tot h3 h4)
            have H4 := Lib.hid h4
            clear h3 h4
            go_wp2_with fail
            (refine wp_region_below (by kernel_rfl) (by kernel_rfl) ?_; (repeat (first | go_big_quiet_skip | (refine quietV (v := ?_) (by rfl) rfl (fun w' hbw => ?_) ?_; rotate_left; ((try dsimp only at hbw); have hbc := (bcell hbw).1; have hbf := (bcell hbw).2; go_simp; first | done | with_reducible rfl | exact callsBB (before_i x y p q _) H3.out hbw); simp only [List.setIfInBounds_toArray, List.set_cons_zero, List.set_cons_succ]))); refine wpQuiet_nil ?_; intro wq hbq)
            have c1 := (hbq.cell hg1).trans a1
            have c2 := (hbq.cell hg1).trans a2
            have c3 := (hbq.cell hg2).trans b1
            have c4 := (hbq.cell hg2).trans b2
            have hg3 : g1 < wq.heap.size := Nat.lt_of_lt_of_le hg1 hbq.size
            have hg4 : g2 < wq.heap.size := Nat.lt_of_lt_of_le hg2 hbq.size
            clear a1 a2 b1 b2 hg1 hg2
            go_wp2_with fail
            (refine wp_region_below (by kernel_rfl) (by kernel_rfl) ?_; (repeat (first | go_big_quiet_skip | (refine quietV (v := ?_) (by rfl) rfl (fun w' hbw => ?_) ?_; rotate_left; ((try dsimp only at hbw); have hbc := (bcell hbw).1; have hbf := (bcell hbw).2; go_simp; first | done | with_reducible rfl | exact callsBB (before_i p q x y _) H4.out hbw); simp only [List.setIfInBounds_toArray, List.set_cons_zero, List.set_cons_succ]))); refine wpQuiet_nil ?_; intro wz hbz)
            go_wp2_with fail
            exact ⟨⟨k + 1, by omega, by go_num, HST.out HE.out, bel_trans (bel_trans hb hbq) hbz⟩, by simp [intOf]; omega⟩
      · have hkn2 : k = n := by omega
        have HV : Hid (cmpS xs ys = 0) := by
          show cmpS xs ys = 0
          rw [take_eq_all HLL.out (by rw [HL.out]; omega) HT.out]
          exact cmpS_eq _
        subst hkn2
        have hk1 : ¬ (k : Int) < (k : Int) := by omega
        go_wp2
        go_ret
        exact ⟨by rw [HV.out]; rfl, hb⟩
  · have HV : Hid (cmpS xs ys = 1) := cmpS_len2 (by omega)
    have h1 : decide ((n : Int) < (m : Int)) = false := by simp; omega
    have h2 : ((n : Int) != (m : Int)) = true := by rw [bne_iff_ne]; omega
    have h3 : (n : Int) > (m : Int) := by omega
    clear hl hl2
    go_enter Tryz.func86, Tryz.ntmps86
    go_wp2
    go_ret
    exact ⟨by rw [HV.out]; rfl, (by (repeat (first | with_reducible exact Below.refl _ _ | with_reducible assumption | with_reducible apply bel_alloc | with_reducible apply bel_drew | with_reducible apply bel_drewN | ((with_reducible refine bel_set ?_ ?_); rotate_left; (simp <;> omega)) | (with_reducible refine bel_trans ?_ (by with_reducible assumption)))))⟩
set_option maxHeartbeats 1600000 in
theorem CompareShapes_s (A B : Option Addr) (n c m d : Nat) (xs ys : List C) (w : World) (hr : Rd w A (vC xs)) (hr2 : Rd w B (vC ys)) (hl : xs.length = n) (hl2 : ys.length = m) (hn : n ≤ 1099511627776) (hm : m ≤ 1099511627776) :
    Calls Tryz.prog 76 #[.slice A n c, .slice B m d] w (Ret w (.int .i64 (cmpS xs ys))) := by
  rcases Nat.lt_trichotomy n m with hlt | heq | hgt
  · have HV : Hid (cmpS xs ys = -1) := cmpS_len (by omega)
    have h1 : (n : Int) < (m : Int) := by omega
    have h2 : ((n : Int) != (m : Int)) = true := by rw [bne_iff_ne]; omega
    clear hl hl2
    go_enter Tryz.func76, Tryz.ntmps76
    go_wp2
    go_ret
    exact ⟨by rw [HV.out]; rfl, (by (repeat (first | with_reducible exact Below.refl _ _ | with_reducible assumption | with_reducible apply bel_alloc | with_reducible apply bel_drew | with_reducible apply bel_drewN | ((with_reducible refine bel_set ?_ ?_); rotate_left; (simp <;> omega)) | (with_reducible refine bel_trans ?_ (by with_reducible assumption)))))⟩
  · subst heq
    have HLL : Hid (xs.length = ys.length) := hl.trans hl2.symm
    have HL := Lib.hid hl
    have HL2 := Lib.hid hl2
    have h1 : decide ((n : Int) < (n : Int)) = false := by simp
    clear hl hl2
    go_enter Tryz.func76, Tryz.ntmps76
    go_wp2
    go_loopw [5] (fun e5 wr => ∃ k : Nat, k ≤ n ∧ e5 = .int .i64 k ∧ xs.take k = ys.take k ∧ Below w.heap.size w wr) (fun e5 _ => n - (intOf e5).toNat)
    case atStart => exact ⟨0, Nat.zero_le _, rfl, rfl, Below.refl _ _⟩
    case round =>
      obtain ⟨k, hk, rfl, htk, hb⟩ := hrel
      have HT := Lib.hid htk
      clear htk
      by_cases hkn : k < n
      · have hk1 : k < xs.length := by rw [HL.out]; exact hkn
        have hk2 : k < ys.length := by rw [HL2.out]; exact hkn
        have hk0 : (0 : Int) ≤ (k : Int) := by omega
        have hkI : (k : Int) < (n : Int) := by omega
        obtain ⟨g1, o1, rfl, hg1, a1, a2⟩ := RdC.at_ (hr.below hb) hk1
        obtain ⟨g2, o2, rfl, hg2, b1, b2⟩ := RdC.at_ (hr2.below hb) hk2
        obtain ⟨x, hx⟩ : ∃ x, xs[k].1 = x := ⟨_, rfl⟩
        obtain ⟨y, hy⟩ : ∃ y, xs[k].2 = y := ⟨_, rfl⟩
        obtain ⟨p, hp⟩ : ∃ p, ys[k].1 = p := ⟨_, rfl⟩
        obtain ⟨q, hq⟩ : ∃ q, ys[k].2 = q := ⟨_, rfl⟩
        have hxy : xs[k] = (x, y) := Prod.ext hx hy
        have hpq : ys[k] = (p, q) := Prod.ext hp hq
        rw [hx] at a1
        rw [hy] at a2
        rw [hp] at b1
        rw [hq] at b2
        have HAT := Lib.hid (cmpS_at HLL.out hk1 HT.out (x, y) (p, q) hxy hpq)
        have HST : Hid ((x, y) = (p, q) → xs.take (k + 1) = ys.take (k + 1)) := fun e => take_eq_step hk1 hk2 HT.out (by rw [hxy, hpq, e])
        clear hx hy hp hq hxy hpq
        by_cases hsame : x = p ∧ y = q
        · obtain ⟨rfl, rfl⟩ := hsame
          go_wp2_with fail
          (refine wp_region_below (by kernel_rfl) (by kernel_rfl) ?_; (repeat (first | go_big_quiet_skip | (refine quietV (v := ?_) (by rfl) rfl (fun w' hbw => ?_) ?_; rotate_left; ((try dsimp only at hbw); have hbc := (bcell hbw).1; have hbf := (bcell hbw).2; go_simp; first | done | with_reducible rfl | fail); simp only [List.setIfInBounds_toArray, List.set_cons_zero, List.set_cons_succ]))); refine wpQuiet_nil ?_; intro wq hbq)
          go_wp2_with fail
          exact ⟨⟨k + 1, by omega, by go_num, HST.out (by simp), bel_trans hb hbq⟩, by simp [intOf]; omega⟩
        · have hne : (x == p && y == q) = false := by
            rw [Bool.and_eq_false_iff, beq_eq_false_iff_ne, beq_eq_false_iff_ne]
            by_cases h1 : x = p
            · exact .inr fun h2 => hsame ⟨h1, h2⟩
            · exact .inl h1
          cases h3 : befC (x, y) (p, q) with
          | true =>
            have HV := Lib.hid (HAT.out.1 h3)
            have H3 := Lib.hid h3
            clear h3 hsame
            go_wp2_with fail
            (refine wp_region_below (by kernel_rfl) (by kernel_rfl) ?_; (repeat (first | go_big_quiet_skip | (refine quietV (v := ?_) (by rfl) rfl (fun w' hbw => ?_) ?_; rotate_left; ((try dsimp only at hbw); have hbc := (bcell hbw).1; have hbf := (bcell hbw).2; go_simp; first | done | with_reducible rfl | fail); simp only [List.setIfInBounds_toArray, List.set_cons_zero, List.set_cons_succ]))); refine wpQuiet_nil ?_; intro wq hbq)
            have c1 := (hbq.cell hg1).trans a1
            have c2 := (hbq.cell hg1).trans a2
            have c3 := (hbq.cell hg2).trans b1
            have c4 := (hbq.cell hg2).trans b2
            have hg3 : g1 < wq.heap.size := Nat.lt_of_lt_of_le hg1 hbq.size
            have hg4 : g2 < wq.heap.size := Nat.lt_of_lt_of_le hg2 hbq.size
            clear a1 a2 b1 b2 hg1 hg2
            go_wp2_with fail
            (refine wp_region_below (by kernel_rfl) (by kernel_rfl) ?_; (repeat (first | go_big_quiet_skip | (refine quietV (v := ?_) (by rfl) rfl (fun w' hbw => ?_) ?_; rotate_left; ((try dsimp only at hbw); have hbc := (bcell hbw).1; have hbf := (bcell hbw).2; go_simp; first | done | with_reducible rfl | exact callsBB (l2Before_s x y p q _) H3.out hbw); simp only [List.setIfInBounds_toArray, List.set_cons_zero, List.set_cons_succ]))); refine wpQuiet_nil ?_; intro wz hbz)
            go_wp2_with fail
            go_ret
            exact ⟨by rw [HV.out]; rfl, bel_trans (bel_trans hb hbq) hbz⟩
          | false =>
            have HV : Hid (cmpS xs ys = 1) := HAT.out.2 (by
              cases h4 : befC (p, q) (x, y) with
              | true => rfl
              | false => exact absurd (befC_sto.tot h3 h4) (fun e => hsame (by injection e with e1 e2; exact ⟨e1, e2⟩)))
            have H3 := Lib.hid h3
            clear h3 hsame
            go_wp2_with fail
            (refine wp_region_below (by kernel_rfl) (by kernel_rfl) ?_; (repeat (first | go_big_quiet_skip | (refine quietV (v := ?_) (by rfl) rfl (fun w' hbw => ?_) ?_; rotate_left; ((try dsimp only at hbw); have hbc := (bcell hbw).1; have hbf := (bcell hbw).2; go_simp; first | done | with_reducible rfl | fail); simp only [List.setIfInBounds_toArray, List.set_cons_zero, List.set_cons_succ]))); refine wpQuiet_nil ?_; intro wq hbq)
            have c1 := (hbq.cell hg1).trans a1
            have c2 := (hbq.cell hg1).trans a2
            have c3 := (hbq.cell hg2).trans b1
            have c4 := (hbq.cell hg2).trans b2
            have hg3 : g1 < wq.heap.size := Nat.lt_of_lt_of_le hg1 hbq.size
            have hg4 : g2 < wq.heap.size := Nat.lt_of_lt_of_le hg2 hbq.size
            clear a1 a2 b1 b2 hg1 hg2
            go_wp2_with fail
            (refine wp_region_below (by kernel_rfl) (by kernel_rfl) ?_; (repeat (first | go_big_quiet_skip | (refine quietV (v := ?_) (by rfl) rfl (fun w' hbw => ?_) ?_; rotate_left; ((try dsimp only at hbw); have hbc := (bcell hbw).1; have hbf := (bcell hbw).2; go_simp; first | done | with_reducible rfl | exact callsBB (l2Before_s x y p q _) H3.out hbw); simp only [List.setIfInBounds_toArray, List.set_cons_zero, List.set_cons_succ]))); refine wpQuiet_nil ?_; intro wz hbz)
            go_wp2_with fail
            go_ret
            exact ⟨by rw [HV.out]; rfl, bel_trans (bel_trans hb hbq) hbz⟩
      · have hkn2 : k = n := by omega
        have HV : Hid (cmpS xs ys = 0) := by
          show cmpS xs ys = 0
          rw [take_eq_all HLL.out (by rw [HL.out]; omega) HT.out]
          exact cmpS_eq _
        subst hkn2
        have hk1 : ¬ (k : Int) < (k : Int) := by omega
        go_wp2
        go_ret
        exact ⟨by rw [HV.out]; rfl, hb⟩
  · have HV : Hid (cmpS xs ys = 1) := cmpS_len2 (by omega)
    have h1 : decide ((n : Int) < (m : Int)) = false := by simp; omega
    have h2 : ((n : Int) != (m : Int)) = true := by rw [bne_iff_ne]; omega
    have h3 : (n : Int) > (m : Int) := by omega
    clear hl hl2
    go_enter Tryz.func76, Tryz.ntmps76
    go_wp2
    go_ret
    exact ⟨by rw [HV.out]; rfl, (by (repeat (first | with_reducible exact Below.refl _ _ | with_reducible assumption | with_reducible apply bel_alloc | with_reducible apply bel_drew | with_reducible apply bel_drewN | ((with_reducible refine bel_set ?_ ?_); rotate_left; (simp <;> omega)) | (with_reducible refine bel_trans ?_ (by with_reducible assumption)))))⟩
set_option maxHeartbeats 800000 in
theorem EqualShapes_i (A B : Option Addr) (n c m d : Nat) (xs ys : List C) (w : World) (hr : Rd w A (vC xs)) (hr2 : Rd w B (vC ys)) (hl : xs.length = n) (hl2 : ys.length = m) (hn : n ≤ 1099511627776) (hm : m ≤ 1099511627776) :
    Calls Tryz.prog 87 #[.slice A n c, .slice B m d] w (Ret w (.bool (decide (xs = ys)))) := by
  by_cases heq : n = m
  · subst heq
    have HLL : Hid (xs.length = ys.length) := hl.trans hl2.symm
    have HL := Lib.hid hl
    have HL2 := Lib.hid hl2
    have h1 : ((n : Int) != (n : Int)) = false := by simp
    clear hl hl2
    go_enter Tryz.func87, Tryz.ntmps87
    go_wp2
    go_loopw [13] (fun e5 wr => ∃ k : Nat, k ≤ n ∧ e5 = .int .i64 k ∧ xs.take k = ys.take k ∧ Below w.heap.size w wr) (fun e5 _ => n - (intOf e5).toNat)
    case atStart => exact ⟨0, Nat.zero_le _, rfl, rfl, Below.refl _ _⟩
    case round =>
      obtain ⟨k, hk, rfl, htk, hb⟩ := hrel
      have HT := Lib.hid htk
      clear htk
      by_cases hkn : k < n
      · have hk1 : k < xs.length := by rw [HL.out]; exact hkn
        have hk2 : k < ys.length := by rw [HL2.out]; exact hkn
        have hk0 : (0 : Int) ≤ (k : Int) := by omega
        have hkI : (k : Int) < (n : Int) := by omega
        obtain ⟨g1, o1, rfl, hg1, a1, a2⟩ := RdC.at_ (hr.below hb) hk1
        obtain ⟨g2, o2, rfl, hg2, b1, b2⟩ := RdC.at_ (hr2.below hb) hk2
        obtain ⟨x, hx⟩ : ∃ x, xs[k].1 = x := ⟨_, rfl⟩
        obtain ⟨y, hy⟩ : ∃ y, xs[k].2 = y := ⟨_, rfl⟩
        obtain ⟨p, hp⟩ : ∃ p, ys[k].1 = p := ⟨_, rfl⟩
        obtain ⟨q, hq⟩ : ∃ q, ys[k].2 = q := ⟨_, rfl⟩
        have hxy : xs[k] = (x, y) := Prod.ext hx hy
        have hpq : ys[k] = (p, q) := Prod.ext hp hq
        rw [hx] at a1
        rw [hy] at a2
        rw [hp] at b1
        rw [hq] at b2
        have HST : Hid ((x, y) = (p, q) → xs.take (k + 1) = ys.take (k + 1)) := fun e => take_eq_step hk1 hk2 HT.out (by rw [hxy, hpq, e])
        have HNE : Hid ((x, y) ≠ (p, q) → xs ≠ ys) := fun e h => e (by subst h; rw [← hxy, ← hpq])
        clear hx hy hp hq hxy hpq
        by_cases hsame : x = p ∧ y = q
        · obtain ⟨rfl, rfl⟩ := hsame
          go_wp2_with fail
          (refine wp_region_below (by kernel_rfl) (by kernel_rfl) ?_; (repeat (first | go_big_quiet_skip | (refine quietV (v := ?_) (by rfl) rfl (fun w' hbw => ?_) ?_; rotate_left; ((try dsimp only at hbw); have hbc := (bcell hbw).1; have hbf := (bcell hbw).2; go_simp; first | done | with_reducible rfl | fail); simp only [List.setIfInBounds_toArray, List.set_cons_zero, List.set_cons_succ]))); refine wpQuiet_nil ?_; intro wq hbq)
          go_wp2_with fail
          exact ⟨⟨k + 1, by omega, by go_num, HST.out (by simp), bel_trans hb hbq⟩, by simp [intOf]; omega⟩
        · have hne : (x == p && y == q) = false := by
            rw [Bool.and_eq_false_iff, beq_eq_false_iff_ne, beq_eq_false_iff_ne]
            by_cases h1 : x = p
            · exact .inr fun h2 => hsame ⟨h1, h2⟩
            · exact .inl h1
          have HV : Hid (decide (xs = ys) = false) := decide_eq_false (HNE.out (fun e => hsame (by injection e with e1 e2; exact ⟨e1, e2⟩)))
          clear hsame
          go_wp2_with fail
          (refine wp_region_below (by kernel_rfl) (by kernel_rfl) ?_; (repeat (first | go_big_quiet_skip | (refine quietV (v := ?_) (by rfl) rfl (fun w' hbw => ?_) ?_; rotate_left; ((try dsimp only at hbw); have hbc := (bcell hbw).1; have hbf := (bcell hbw).2; go_simp; first | done | with_reducible rfl | fail); simp only [List.setIfInBounds_toArray, List.set_cons_zero, List.set_cons_succ]))); refine wpQuiet_nil ?_; intro wq hbq)
          go_wp2_with fail
          go_ret
          exact ⟨by rw [HV.out]; rfl, bel_trans hb hbq⟩
      · have hkn2 : k = n := by omega
        have HV : Hid (decide (xs = ys) = true) := decide_eq_true (take_eq_all HLL.out (by rw [HL.out]; omega) HT.out)
        subst hkn2
        have hk1 : ¬ (k : Int) < (k : Int) := by omega
        go_wp2
        go_ret
        exact ⟨by rw [HV.out]; rfl, hb⟩
  · have HV : Hid (decide (xs = ys) = false) := decide_eq_false (fun e => heq (by rw [← hl, ← hl2, e]))
    have h2 : ((n : Int) != (m : Int)) = true := by rw [bne_iff_ne]; omega
    clear hl hl2
    go_enter Tryz.func87, Tryz.ntmps87
    go_wp2
    go_ret
    exact ⟨by rw [HV.out]; rfl, (by (repeat (first | with_reducible exact Below.refl _ _ | with_reducible assumption | with_reducible apply bel_alloc | with_reducible apply bel_drew | with_reducible apply bel_drewN | ((with_reducible refine bel_set ?_ ?_); rotate_left; (simp <;> omega)) | (with_reducible refine bel_trans ?_ (by with_reducible assumption)))))⟩
set_option maxHeartbeats 800000 in
theorem EqualShapes_s (A B : Option Addr) (n c m d : Nat) (xs ys : List C) (w : World) (hr : Rd w A (vC xs)) (hr2 : Rd w B (vC ys)) (hl : xs.length = n) (hl2 : ys.length = m) (hn : n ≤ 1099511627776) (hm : m ≤ 1099511627776) :
    Calls Tryz.prog 12 #[.slice A n c, .slice B m d] w (Ret w (.bool (decide (xs = ys)))) := by
  by_cases heq : n = m
  · subst heq
    have HLL : Hid (xs.length = ys.length) := hl.trans hl2.symm
    have HL := Lib.hid hl
    have HL2 := Lib.hid hl2
    have h1 : ((n : Int) != (n : Int)) = false := by simp
    clear hl hl2
    go_enter Tryz.func12, Tryz.ntmps12
    go_wp2
    go_loopw [5] (fun e5 wr => ∃ k : Nat, k ≤ n ∧ e5 = .int .i64 k ∧ xs.take k = ys.take k ∧ Below w.heap.size w wr) (fun e5 _ => n - (intOf e5).toNat)
    case atStart => exact ⟨0, Nat.zero_le _, rfl, rfl, Below.refl _ _⟩
    case round =>
      obtain ⟨k, hk, rfl, htk, hb⟩ := hrel
      have HT := Lib.hid htk
      clear htk
      by_cases hkn : k < n
      · have hk1 : k < xs.length := by rw [HL.out]; exact hkn
        have hk2 : k < ys.length := by rw [HL2.out]; exact hkn
        have hk0 : (0 : Int) ≤ (k : Int) := by omega
        have hkI : (k : Int) < (n : Int) := by omega
        obtain ⟨g1, o1, rfl, hg1, a1, a2⟩ := RdC.at_ (hr.below hb) hk1
        obtain ⟨g2, o2, rfl, hg2, b1, b2⟩ := RdC.at_ (hr2.below hb) hk2
        obtain ⟨x, hx⟩ : ∃ x, xs[k].1 = x := ⟨_, rfl⟩
        obtain ⟨y, hy⟩ : ∃ y, xs[k].2 = y := ⟨_, rfl⟩
        obtain ⟨p, hp⟩ : ∃ p, ys[k].1 = p := ⟨_, rfl⟩
        obtain ⟨q, hq⟩ : ∃ q, ys[k].2 = q := ⟨_, rfl⟩
        have hxy : xs[k] = (x, y) := Prod.ext hx hy
        have hpq : ys[k] = (p, q) := Prod.ext hp hq
        rw [hx] at a1
        rw [hy] at a2
        rw [hp] at b1
        rw [hq] at b2
        have HST : Hid ((x, y) = (p, q) → xs.take (k + 1) = ys.take (k + 1)) := fun e => take_eq_step hk1 hk2 HT.out (by rw [hxy, hpq, e])
        have HNE : Hid ((x, y) ≠ (p, q) → xs ≠ ys) := fun e h => e (by subst h; rw [← hxy, ← hpq])
        clear hx hy hp hq hxy hpq
        by_cases hsame : x = p ∧ y = q
        · obtain ⟨rfl, rfl⟩ := hsame
          go_wp2_with fail
          (refine wp_region_below (by kernel_rfl) (by kernel_rfl) ?_; (repeat (first | go_big_quiet_skip | (refine quietV (v := ?_) (by rfl) rfl (fun w' hbw => ?_) ?_; rotate_left; ((try dsimp only at hbw); have hbc := (bcell hbw).1; have hbf := (bcell hbw).2; go_simp; first | done | with_reducible rfl | fail); simp only [List.setIfInBounds_toArray, List.set_cons_zero, List.set_cons_succ]))); refine wpQuiet_nil ?_; intro wq hbq)
          go_wp2_with fail
          exact ⟨⟨k + 1, by omega, by go_num, HST.out (by simp), bel_trans hb hbq⟩, by simp [intOf]; omega⟩
        · have hne : (x == p && y == q) = false := by
            rw [Bool.and_eq_false_iff, beq_eq_false_iff_ne, beq_eq_false_iff_ne]
            by_cases h1 : x = p
            · exact .inr fun h2 => hsame ⟨h1, h2⟩
            · exact .inl h1
          have HV : Hid (decide (xs = ys) = false) := decide_eq_false (HNE.out (fun e => hsame (by injection e with e1 e2; exact ⟨e1, e2⟩)))
          clear hsame
          go_wp2_with fail
          (refine wp_region_below (by kernel_rfl) (by kernel_rfl) ?_; (repeat (first | go_big_quiet_skip | (refine quietV (v := ?_) (by rfl) rfl (fun w' hbw => ?_) ?_; rotate_left; ((try dsimp only at hbw); have hbc := (bcell hbw).1; have hbf := (bcell hbw).2; go_simp; first | done | with_reducible rfl | fail); simp only [List.setIfInBounds_toArray, List.set_cons_zero, List.set_cons_succ]))); refine wpQuiet_nil ?_; intro wq hbq)
          go_wp2_with fail
          go_ret
          exact ⟨by rw [HV.out]; rfl, bel_trans hb hbq⟩
      · have hkn2 : k = n := by omega
        have HV : Hid (decide (xs = ys) = true) := decide_eq_true (take_eq_all HLL.out (by rw [HL.out]; omega) HT.out)
        subst hkn2
        have hk1 : ¬ (k : Int) < (k : Int) := by omega
        go_wp2
        go_ret
        exact ⟨by rw [HV.out]; rfl, hb⟩
  · have HV : Hid (decide (xs = ys) = false) := decide_eq_false (fun e => heq (by rw [← hl, ← hl2, e]))
    have h2 : ((n : Int) != (m : Int)) = true := by rw [bne_iff_ne]; omega
    clear hl hl2
    go_enter Tryz.func12, Tryz.ntmps12
    go_wp2
    go_ret
    exact ⟨by rw [HV.out]; rfl, (by (repeat (first | with_reducible exact Below.refl _ _ | with_reducible assumption | with_reducible apply bel_alloc | with_reducible apply bel_drew | with_reducible apply bel_drewN | ((with_reducible refine bel_set ?_ ?_); rotate_left; (simp <;> omega)) | (with_reducible refine bel_trans ?_ (by with_reducible assumption)))))⟩
end Go.Proofs.YtfnphchcgaebkaaGreat
