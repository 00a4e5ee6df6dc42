/- 'append(append(append([]T{}, a...), x), b...)' in a region that draws its order: the two literals may be made in either order. -/
import Derived.Test.YteelmhmdnljjnaaGreatQtail
namespace Go.Proofs.YteelmhmdnljjnaaGreat
open Go.RowKit
set_option linter.unusedVariables false
section
variable {P : Program} {ops : Array Oper} {md : Region.Mode} {C : World → Prop} {Q : Exit → Act → World → Prop}
theorem rg_one {f i : Nat} {o : Oper} {listed : Array Bool} {a : Act} {w : World} (hr : Region.ready md ops listed = [i]) (hi : ops[i]? = some o) (hg : o.guard = none)
    (h : ∀ w', C w' → Ext w w' → o.wp P a w' (fun a' w'' => C w'' ∧ wpRg P md ops C Q f (listed.setIfInBounds i true) a' w'') Q) : wpRg P md ops C Q (f + 1) listed a w := by
  refine ⟨fun e => by rw [hr] at e; simp at e, fun j hj w' hc he => ?_⟩
  rw [hr] at hj
  obtain rfl : j = i := by simpa using hj
  unfold wpOp
  simp only [hi]
  rw [if_pos (by simp [Region.wanted, hg])]
  exact .inl (h w' hc he)
theorem rg_two {f i k : Nat} {o o2 : Oper} {listed : Array Bool} {a : Act} {w : World} (hr : Region.ready md ops listed = [i, k]) (hi : ops[i]? = some o) (hg : o.guard = none) (hk : ops[k]? = some o2) (hg2 : o2.guard = none)
    (h : ∀ w', C w' → Ext w w' → o.wp P a w' (fun a' w'' => C w'' ∧ wpRg P md ops C Q f (listed.setIfInBounds i true) a' w'') Q)
    (h2 : ∀ w', C w' → Ext w w' → o2.wp P a w' (fun a' w'' => C w'' ∧ wpRg P md ops C Q f (listed.setIfInBounds k true) a' w'') Q) : wpRg P md ops C Q (f + 1) listed a w := by
  refine ⟨fun e => by rw [hr] at e; simp at e, fun j hj w' hc he => ?_⟩
  rw [hr] at hj
  unfold wpOp
  rcases (by simpa using hj : j = i ∨ j = k) with rfl | rfl
  · simp only [hi]
    rw [if_pos (by simp [Region.wanted, hg])]
    exact .inl (h w' hc he)
  · simp only [hk]
    rw [if_pos (by simp [Region.wanted, hg2])]
    exact .inl (h2 w' hc he)
end
section
variable {P : Program} {ops : Array Oper} {C : World → Prop} {Q : Exit → Act → World → Prop} {w0 : World}
theorem wp_region_rg {id : Nat} {a : Act} {w : World} {l : List Oper} (n : Nat) (hl : l.length = n) (hm : P.follows .mixedOrders = true) (h : wpRg P .any l.toArray (ExC w) (NoPanic Q) n (Array.replicate n false) a w) : (Code.region id l.toArray true).wp P Q a w := by
  subst hl
  exact wp_region_noPanic (wp_region_any hm (wpAny_of_wpRg _ _ _ _ (ExC.drawn w) (wpRg_ext h (ExC.drawn w))))
/-- An operation that only reads is taken first. -/
theorem rgT {i d : Nat} {oi : Oper} {v : Value} {f : Nat} {listed : Array Bool} {ts : Array Value} {ds : List Deferred} {w : World} (hi : ops[i]? = some oi) (hd : oi.dst = some d)
    (hs : Region.noSelect ops = true) (hf : Region.free .any ops listed i = true) (hr : (Region.ready .any ops listed).contains i = true) (hw : Region.wanted oi (yielded ops ts) = true)
    (hy : ∀ w', ExC w0 w' → oi.quietAt P { tmps := ts, defers := ds } (Ext w') w' v)
    (h : wpRg P .any ops (ExC w0) (NoPanic Q) f (listed.setIfInBounds i true) { tmps := ts.setIfInBounds d v, defers := ds } w) : wpRg P .any ops (ExC w0) (NoPanic Q) (f + 1) listed { tmps := ts, defers := ds } w :=
  wpRg_first (fun _ _ h k => h.ext k) hi (Region.noSelect_spec hs) (fun _ _ _ h => h) f listed _ w (Region.free_spec hi hf) (by simpa using hr) (.inl ⟨hw, hy⟩) (by rw [hd]; exact h)
end
/-- a is a0 but for some slots. -/
structure Fr (S : List Nat) (a0 a : Act) : Prop where
  size : a.tmps.size = a0.tmps.size
  defers : a.defers = a0.defers
  same : ∀ t, t ∉ S → a.tmps[t]? = a0.tmps[t]?
theorem Fr.refl (S : List Nat) (a : Act) : Fr S a a := ⟨rfl, rfl, fun _ _ => rfl⟩
theorem Fr.put {S : List Nat} {a0 a : Act} (h : Fr S a0 a) {d : Nat} (hd : d ∈ S) (v : Value) : Fr S a0 (a.put (some d) v) := by
  refine ⟨by simp [Act.put, h.size], h.defers, fun t ht => ?_⟩
  have hne : d ≠ t := by rintro rfl; exact ht hd
  simp only [Act.put, Array.getElem?_setIfInBounds_ne hne]
  exact h.same t ht
theorem Fr.eval {S : List Nat} {a0 a : Act} (h : Fr S a0 a) {t : Nat} (ht : t ∉ S) : a.eval (.tmp t) = a0.eval (.tmp t) := by
  simp only [Act.eval, Array.getD_eq_getD_getElem?, h.same t ht]
theorem put_eval {a : Act} {d : Nat} (v : Value) (hd : d < a.tmps.size) : (a.put (some d) v).eval (.tmp d) = v := by simp [Act.eval, Act.put, hd]
theorem put_eval_ne {a : Act} {d t : Nat} (v : Value) (hne : d ≠ t) : (a.put (some d) v).eval (.tmp t) = a.eval (.tmp t) := by
  simp [Act.eval, Act.put, Array.getElem?_setIfInBounds_ne hne]
section
variable {P : Program} {o : Oper} {a : Act} {w : World} {K : Act → World → Prop} {Q : Exit → Act → World → Prop}
theorem wp_val {v : Value} {w' : World} (h : (execOp a.eval o).run P w = .ok (.value v) w') (hk : K (a.put o.dst v) w') : o.wp P a w K Q := by
  unfold Oper.wp
  rw [h]
  exact hk
end
theorem agree_set {S : List Nat} {s : Nat} {ts X : Array Value} (hz : ts.size = X.size) (h : ∀ t, t ∉ s :: S → ts[t]? = X[t]?) : ∀ t, t ∉ S → ts[t]? = (X.setIfInBounds s (ts.getD s undef))[t]? := by
  intro t ht
  by_cases e : s = t
  · subst e
    rcases Nat.lt_or_ge s ts.size with hl | hl
    · rw [Array.getElem?_setIfInBounds_self_of_lt (by omega), Array.getD_eq_getD_getElem?, Array.getElem?_eq_getElem hl]; rfl
    · rw [Array.getElem?_eq_none hl, Array.getElem?_eq_none (by simp; omega)]
  · rw [Array.getElem?_setIfInBounds_ne e]
    exact h t (by simp [Ne.symm e, ht])
theorem Fr.form {s0 sA sN sB sD dE : Nat} {a0 a : Act} (h : Fr [s0, sA, sN, sB, sD, dE] a0 a) {v : Value} (hv : a.eval (.tmp dE) = v) :
    ∃ v0 vA vN vB vD, a = { tmps := (((((a0.tmps.setIfInBounds s0 v0).setIfInBounds sA vA).setIfInBounds sN vN).setIfInBounds sB vB).setIfInBounds sD vD).setIfInBounds dE v, defers := a0.defers } := by
  refine ⟨a.tmps.getD s0 undef, a.tmps.getD sA undef, a.tmps.getD sN undef, a.tmps.getD sB undef, a.tmps.getD sD undef, ?_⟩
  have h1 := agree_set h.size h.same
  have h2 := agree_set (by simp [h.size]) h1
  have h3 := agree_set (by simp [h.size]) h2
  have h4 := agree_set (by simp [h.size]) h3
  have h5 := agree_set (by simp [h.size]) h4
  have h6 := agree_set (by simp [h.size]) h5
  have e : a.tmps = _ := Array.ext_getElem? fun t => h6 t (by simp)
  have hv' : a.tmps.getD dE undef = v := hv
  rw [hv'] at e
  obtain ⟨ts, ds⟩ := a
  have hd := h.defers
  simp only at hd e
  subst hd
  rw [← e]
/-- What is known of the region's six operations. -/
structure InsOps (P : Program) (ops : Array Oper) (T e : TypeId) (i0 iA iN iB iD iE s0 sA sN sB sD dE t1 t2 : Nat) (vn : Value) (news : List Value) (xn : Operand) : Prop where
  p0 : ∃ o : Oper, ops[i0]? = some o ∧ o.guard = none ∧ o.dst = some s0 ∧ ∀ a w, (execOp (Act.eval a) o).run P w = .ok (.value (.slice (some ⟨w.heap.size, 0, none⟩) 0 0)) (w.alloc (.cells #[] e))
  pA : ∃ o : Oper, ops[iA]? = some o ∧ o.guard = none ∧ o.dst = some sA ∧ o.op = .call { callee := .builtin .append, args := #[.tmp s0, .tmp t1], argTypes := #[T, T] }
  pN : ∃ o : Oper, ops[iN]? = some o ∧ o.guard = none ∧ o.dst = some sN ∧ ∀ a w, a.eval xn = vn → (execOp (Act.eval a) o).run P w = .ok (.value (.slice (some ⟨w.heap.size, 0, none⟩) 1 1)) (w.alloc (.cells news.toArray e))
  pB : ∃ o : Oper, ops[iB]? = some o ∧ o.guard = none ∧ o.dst = some sB ∧ o.op = .call { callee := .builtin .append, args := #[.tmp sA, .tmp sN], argTypes := #[T, T] }
  pD : ∃ o : Oper, ops[iD]? = some o ∧ o.guard = none ∧ o.dst = some sD ∧ o.op = .call { callee := .builtin .append, args := #[.tmp sB, .tmp t2], argTypes := #[T, T] }
  pE : ∃ o : Oper, ops[iE]? = some o ∧ o.guard = none ∧ o.dst = some dE ∧ o.op = .assign (.tmp sD)
/-- The slots differ. -/
structure InsSlots (s0 sA sN sB sD dE t1 t2 : Nat) (a0 : Act) : Prop where
  lt : s0 < a0.tmps.size ∧ sA < a0.tmps.size ∧ sN < a0.tmps.size ∧ sB < a0.tmps.size ∧ sD < a0.tmps.size ∧ dE < a0.tmps.size
  ne : s0 ≠ sN ∧ sA ≠ sN
  t1n : t1 ∉ [s0, sA, sN, sB, sD, dE]
  t2n : t2 ∉ [s0, sA, sN, sB, sD, dE]
section
variable {P : Program} {ops : Array Oper} {md : Region.Mode} {Q : Exit → Act → World → Prop}
variable {T e : TypeId} {i : TypeInfo} {z : Value} {size bytes : Nat} {i0 iA iN iB iD iE s0 sA sN sB sD dE t1 t2 : Nat} {vn : Value} {vs1 news vs2 : List Value} {xn : Operand} {A1 A2 : Option Addr} {m1 c1 m2 c2 : Nat} {a0 : Act} {w0 : World}
/-- The last two: the second append, the assignment. -/
theorem ins_3 (L : Array Bool) (ht : P.underlying T = some (.slice e)) (hi : P.info? e = some i) (hz : i.zero = some z) (hsize : i.size = size) (hby : i.bytes = bytes) (hzs : z.cells.size = size) (hsz : 0 < size)
    (ho : InsOps P ops T e i0 iA iN iB iD iE s0 sA sN sB sD dE t1 t2 vn news xn) (hs : InsSlots s0 sA sN sB sD dE t1 t2 a0)
    (hrD : Region.ready md ops L = [iD]) (hrE : Region.ready md ops (L.setIfInBounds iD true) = [iE]) (hrF : Region.ready md ops ((L.setIfInBounds iD true).setIfInBounds iE true) = [])
    (e2 : a0.eval (.tmp t2) = .slice A2 m2 c2) (r2 : Rd w0 A2 vs2) (l2 : vs2.length = m2 * size) (h2 : ∀ u ∈ vs2, u.oneCell' = true) (hm : m1 + 1 + m2 ≤ 1099511627776) (hbs : bytes ≤ 64)
    (hQ : ∀ a' w' A' c', Fr [s0, sA, sN, sB, sD, dE] a0 a' → a'.eval (.tmp dE) = .slice A' (m1 + 1 + m2) c' → w'.ownsRow w0.heap.size e size (.slice A' (m1 + 1 + m2) c') (m1 + 1 + m2) (vs1 ++ news ++ vs2) → Ext w0 w' → Q .normal a' w')
    (a : Act) (w : World) (hf : Fr [s0, sA, sN, sB, sD, dE] a0 a) (hx : Ext w0 w) {B : Option Addr} {cB : Nat} (eB : a.eval (.tmp sB) = .slice B (m1 + 1) cB) (oB : w.ownsRow w0.heap.size e size (.slice B (m1 + 1) cB) (m1 + 1) (vs1 ++ news)) :
    wpRg P md ops (ExC w0) Q 2 L a w := by
  obtain ⟨oD, d1, d2, d3, d4⟩ := ho.pD
  obtain ⟨oE, f1, f2, f3, f4⟩ := ho.pE
  refine rg_one hrD d1 d2 fun w1 hc1 he1 => ?_
  have hz1 := hc1.size
  refine wp_app w1 _ _ T d4 w0.heap.size e i z size bytes ht hi hz hsize hby hzs hsz B (m1 + 1) cB _ eB (own_keep oB he1) A2 m2 c2 vs2 (by rw [hf.eval hs.t2n]; exact e2) (r2.below hc1) l2 h2 (by unfold maxLen; omega)
    (Nat.le_trans (Nat.mul_le_mul hm hbs) (by omega)) hz1 ?_
  intro A' c' w2 o2 g2 at2
  have hx2 : Ext w0 w2 := bel_app hc1 g2 (fun g h => (own_lt oB g h).1)
  refine ⟨hx2, ?_⟩
  rw [d3]
  refine rg_one hrE f1 f2 fun w3 hc3 he3 => ?_
  have hlt := hs.lt
  have hf2 : Fr [s0, sA, sN, sB, sD, dE] a0 (a.put (some sD) (.slice A' (m1 + 1 + m2) c')) := hf.put (by simp) _
  have eD : (a.put (some sD) (.slice A' (m1 + 1 + m2) c')).eval (.tmp sD) = .slice A' (m1 + 1 + m2) c' := put_eval _ (by rw [hf.size]; exact hlt.2.2.2.2.1)
  refine wp_val (BigFrame.run_assign (.tmp sD) f4 _) ⟨hc3, ?_⟩
  rw [eD, f3]
  refine ⟨hrF, fun w4 hc4 he4 => ?_⟩
  exact hQ _ _ A' c' (hf2.put (by simp) _) (put_eval _ (by rw [hf2.size]; exact hlt.2.2.2.2.2)) (own_keep (own_keep o2 he3) he4) hc4
/-- The first append's slice and the new element are there. -/
theorem ins_2 (L : Array Bool) (ht : P.underlying T = some (.slice e)) (hi : P.info? e = some i) (hz : i.zero = some z) (hsize : i.size = size) (hby : i.bytes = bytes) (hzs : z.cells.size = size) (hsz : 0 < size)
    (ho : InsOps P ops T e i0 iA iN iB iD iE s0 sA sN sB sD dE t1 t2 vn news xn) (hs : InsSlots s0 sA sN sB sD dE t1 t2 a0)
    (hrB : Region.ready md ops L = [iB]) (hm : m1 + 1 + m2 ≤ 1099511627776) (hbs : bytes ≤ 64) (ln : news.length = size) (hn : ∀ u ∈ news, u.oneCell' = true)
    (h3 : ∀ a w B cB, Fr [s0, sA, sN, sB, sD, dE] a0 a → Ext w0 w → a.eval (.tmp sB) = .slice B (m1 + 1) cB → w.ownsRow w0.heap.size e size (.slice B (m1 + 1) cB) (m1 + 1) (vs1 ++ news) → wpRg P md ops (ExC w0) Q 2 (L.setIfInBounds iB true) a w)
    (a : Act) (w : World) (hf : Fr [s0, sA, sN, sB, sD, dE] a0 a) (hx : Ext w0 w) {B : Option Addr} {cB : Nat} (eA : a.eval (.tmp sA) = .slice B m1 cB) (oA : w.ownsRow w0.heap.size e size (.slice B m1 cB) m1 vs1)
    {N : Option Addr} {cN : Nat} (eN : a.eval (.tmp sN) = .slice N 1 cN) (rN : Rd w N news) : wpRg P md ops (ExC w0) Q 3 L a w := by
  obtain ⟨oB, d1, d2, d3, d4⟩ := ho.pB
  refine rg_one hrB d1 d2 fun w1 hc1 he1 => ?_
  have hz1 := hc1.size
  refine wp_app w1 _ _ T d4 w0.heap.size e i z size bytes ht hi hz hsize hby hzs hsz B m1 cB _ eA (own_keep oA he1) N 1 cN news eN (rN.below he1) (by rw [ln]; omega) hn (by unfold maxLen; omega)
    (Nat.le_trans (Nat.mul_le_mul (show m1 + 1 ≤ 1099511627776 by omega) hbs) (by omega)) hz1 ?_
  intro A' c' w2 o2 g2 at2
  have hx2 : Ext w0 w2 := bel_app hc1 g2 (fun g h => (own_lt oA g h).1)
  refine ⟨hx2, ?_⟩
  rw [d3]
  exact h3 _ _ A' c' (hf.put (by simp) _) hx2 (put_eval _ (by rw [hf.size]; exact hs.lt.2.2.2.1)) o2
/-- The whole tail. -/
theorem ins_tail (L : Array Bool) (ht : P.underlying T = some (.slice e)) (hi : P.info? e = some i) (hz : i.zero = some z) (hsize : i.size = size) (hby : i.bytes = bytes) (hzs : z.cells.size = size) (hsz : 0 < size)
    (ho : InsOps P ops T e i0 iA iN iB iD iE s0 sA sN sB sD dE t1 t2 vn news xn) (hs : InsSlots s0 sA sN sB sD dE t1 t2 a0) (hxn : ∀ a, Fr [s0, sA, sN, sB, sD, dE] a0 a → a.eval xn = vn)
    (r_ : Region.ready md ops L = [i0, iN]) (r0 : Region.ready md ops (L.setIfInBounds i0 true) = [iA, iN]) (rN : Region.ready md ops (L.setIfInBounds iN true) = [i0])
    (r0A : Region.ready md ops ((L.setIfInBounds i0 true).setIfInBounds iA true) = [iN]) (r0N : Region.ready md ops ((L.setIfInBounds i0 true).setIfInBounds iN true) = [iA])
    (i0N : i0 ≠ iN) (iAN : iA ≠ iN)
    (rB : Region.ready md ops (((L.setIfInBounds i0 true).setIfInBounds iA true).setIfInBounds iN true) = [iB])
    (rD : Region.ready md ops ((((L.setIfInBounds i0 true).setIfInBounds iA true).setIfInBounds iN true).setIfInBounds iB true) = [iD])
    (rE : Region.ready md ops (((((L.setIfInBounds i0 true).setIfInBounds iA true).setIfInBounds iN true).setIfInBounds iB true).setIfInBounds iD true) = [iE])
    (rF : Region.ready md ops ((((((L.setIfInBounds i0 true).setIfInBounds iA true).setIfInBounds iN true).setIfInBounds iB true).setIfInBounds iD true).setIfInBounds iE true) = [])
    (e1 : a0.eval (.tmp t1) = .slice A1 m1 c1) (q1 : Rd w0 A1 vs1) (l1 : vs1.length = m1 * size) (h1 : ∀ u ∈ vs1, u.oneCell' = true)
    (e2 : a0.eval (.tmp t2) = .slice A2 m2 c2) (q2 : Rd w0 A2 vs2) (l2 : vs2.length = m2 * size) (h2 : ∀ u ∈ vs2, u.oneCell' = true)
    (ln : news.length = size) (hn : ∀ u ∈ news, u.oneCell' = true) (hm : m1 + 1 + m2 ≤ 1099511627776) (hbs : bytes ≤ 64)
    (hQ : ∀ a' w' A' c', Fr [s0, sA, sN, sB, sD, dE] a0 a' → a'.eval (.tmp dE) = .slice A' (m1 + 1 + m2) c' → w'.ownsRow w0.heap.size e size (.slice A' (m1 + 1 + m2) c') (m1 + 1 + m2) (vs1 ++ news ++ vs2) → Ext w0 w' → Q .normal a' w') :
    wpRg P md ops (ExC w0) Q 6 L a0 w0 := by
  obtain ⟨o0, a1, a2, a3, a4⟩ := ho.p0
  obtain ⟨oA, b1, b2, b3, b4⟩ := ho.pA
  obtain ⟨oN, n1, n2, n3, n4⟩ := ho.pN
  have hlt := hs.lt
  have hsz0 : ∀ w : World, (w.alloc (.cells (#[] : Array Value) e)).ownsRow w.heap.size e size (.slice (some ⟨w.heap.size, 0, none⟩) 0 0) 0 [] := fun w => own_new w e size 0 #[] (by simp) (by simp [maxLen]) (Nat.le_refl _)
  -- behind the first append and the element
  have S2 : ∀ (a : Act) (w : World), Fr [s0, sA, sN, sB, sD, dE] a0 a → Ext w0 w → ∀ (B : Option Addr) (cB : Nat), a.eval (.tmp sA) = .slice B m1 cB → w.ownsRow w0.heap.size e size (.slice B m1 cB) m1 vs1 → ∀ (N : Option Addr) (cN : Nat), a.eval (.tmp sN) = .slice N 1 cN → Rd w N news →
      wpRg P md ops (ExC w0) Q 3 (((L.setIfInBounds i0 true).setIfInBounds iA true).setIfInBounds iN true) a w := fun a w hf hx B cB eA oA' N cN eN rN' =>
    ins_2 (m2 := m2) _ ht hi hz hsize hby hzs hsz ho hs rB hm hbs ln hn (fun a w B cB hf hx eB oB' => ins_3 _ ht hi hz hsize hby hzs hsz ho hs rD rE rF e2 q2 l2 h2 hm hbs hQ a w hf hx eB oB') a w hf hx eA oA' eN rN'
  -- the first append
  have SA : ∀ (a : Act) (w : World) (f : Nat) (L' : Array Bool), Fr [s0, sA, sN, sB, sD, dE] a0 a → Ext w0 w → ∀ (B : Option Addr) (cB : Nat), a.eval (.tmp s0) = .slice B 0 cB → w.ownsRow w0.heap.size e size (.slice B 0 cB) 0 [] →
      ∀ K : Act → World → Prop, (∀ A' c' w', Fr [s0, sA, sN, sB, sD, dE] a0 (a.put (some sA) (.slice A' m1 c')) → Ext w0 w' → w'.ownsRow w0.heap.size e size (.slice A' m1 c') m1 vs1 → w.grownBy w' (ob B) → (∀ g, ob B = some g → w0.heap.size ≤ g) → K (a.put (some sA) (.slice A' m1 c')) w') → oA.wp P a w K Q := by
    intro a w f L' hf hx B cB e0 o0' K hK
    refine wp_app w _ _ T b4 w0.heap.size e i z size bytes ht hi hz hsize hby hzs hsz B 0 cB [] e0 o0' A1 m1 c1 vs1 (by rw [hf.eval hs.t1n]; exact e1) (q1.below hx) l1 h1 (by unfold maxLen; omega)
      (by rw [Nat.zero_add]; exact Nat.le_trans (Nat.mul_le_mul (show m1 ≤ 1099511627776 by omega) hbs) (by omega)) hx.size ?_
    intro A' c' w2 o2 g2 at2
    simp only [Nat.zero_add, List.nil_append] at o2 ⊢
    rw [b3]
    exact hK A' c' w2 (hf.put (by simp) _) (bel_app hx g2 (fun g h => (own_lt o0' g h).1)) o2 g2 (fun g h => (own_lt o0' g h).1)
  refine rg_two r_ a1 a2 n1 n2 (fun w1 hc1 he1 => ?_) (fun w1 hc1 he1 => ?_)
  · -- the empty literal first
    refine wp_val (a4 a0 w1) ⟨bel_alloc hc1 _, ?_⟩
    rw [a3]
    have f0 : Fr [s0, sA, sN, sB, sD, dE] a0 (a0.put (some s0) (.slice (some ⟨w1.heap.size, 0, none⟩) 0 0)) := (Fr.refl _ _).put (by simp) _
    have ev0 : (a0.put (some s0) (.slice (some ⟨w1.heap.size, 0, none⟩) 0 0)).eval (.tmp s0) = .slice (some ⟨w1.heap.size, 0, none⟩) 0 0 := put_eval _ hlt.1
    have ow0 := own_base (hsz0 w1) hc1.size
    refine rg_two r0 b1 b2 n1 n2 (fun w2 hc2 he2 => ?_) (fun w2 hc2 he2 => ?_)
    · refine SA _ w2 0 L f0 hc2 _ _ ev0 (own_keep ow0 he2) _ fun A' c' w3 hf3 hx3 o3 _ _ => ⟨hx3, ?_⟩
      refine rg_one r0A n1 n2 fun w4 hc4 he4 => ?_
      refine wp_val (n4 _ w4 (hxn _ hf3)) ⟨bel_alloc hc4 _, ?_⟩
      rw [n3]
      refine S2 _ _ (hf3.put (by simp) _) (bel_alloc hc4 _) A' c' ?_ (own_keep (own_keep o3 he4) (bel_alloc (Below.refl _ _) _)) (some ⟨w4.heap.size, 0, none⟩) 1 (put_eval _ (by rw [hf3.size]; exact hlt.2.2.1)) (by simpa using rd_new w4 e news.toArray)
      rw [put_eval_ne _ hs.ne.2.symm]
      exact put_eval _ (by rw [f0.size]; exact hlt.2.1)
    · refine wp_val (n4 _ w2 (hxn _ f0)) ⟨bel_alloc hc2 _, ?_⟩
      rw [n3]
      refine rg_one r0N b1 b2 fun w3 hc3 he3 => ?_
      have f1 := f0.put (d := sN) (by simp) (.slice (some ⟨w2.heap.size, 0, none⟩) 1 1)
      have ev1 : ((a0.put (some s0) (.slice (some ⟨w1.heap.size, 0, none⟩) 0 0)).put (some sN) (.slice (some ⟨w2.heap.size, 0, none⟩) 1 1)).eval (.tmp s0) = .slice (some ⟨w1.heap.size, 0, none⟩) 0 0 := by
        rw [put_eval_ne _ hs.ne.1.symm]; exact ev0
      have evN : ((a0.put (some s0) (.slice (some ⟨w1.heap.size, 0, none⟩) 0 0)).put (some sN) (.slice (some ⟨w2.heap.size, 0, none⟩) 1 1)).eval (.tmp sN) = .slice (some ⟨w2.heap.size, 0, none⟩) 1 1 := put_eval _ (by rw [f0.size]; exact hlt.2.2.1)
      have rdN : Rd w3 (some ⟨w2.heap.size, 0, none⟩) news := Rd.below (by simpa using rd_new w2 e news.toArray) he3
      refine SA _ w3 0 L f1 hc3 _ _ ev1 (own_keep (own_keep (own_keep ow0 he2) (bel_alloc (Below.refl _ _) _)) he3) _ fun A' c' w4 hf4 hx4 o4 g4 _ => ⟨hx4, ?_⟩
      rw [Array.setIfInBounds_comm _ _ (Ne.symm iAN)]
      have hz := he2.size
      refine S2 _ _ hf4 hx4 A' c' (put_eval _ (by rw [f1.size]; exact hlt.2.1)) o4 (some ⟨w2.heap.size, 0, none⟩) 1 ?_ (rdN.grown g4 (fun g h e => by
        simp only [ob, Option.map_some, Option.some.injEq] at h e
        simp at hz
        omega))
      rw [put_eval_ne _ hs.ne.2]
      exact evN
  · -- the element first
    refine wp_val (n4 a0 w1 (hxn _ (Fr.refl _ _))) ⟨bel_alloc hc1 _, ?_⟩
    rw [n3]
    have f0 : Fr [s0, sA, sN, sB, sD, dE] a0 (a0.put (some sN) (.slice (some ⟨w1.heap.size, 0, none⟩) 1 1)) := (Fr.refl _ _).put (by simp) _
    have evN : (a0.put (some sN) (.slice (some ⟨w1.heap.size, 0, none⟩) 1 1)).eval (.tmp sN) = .slice (some ⟨w1.heap.size, 0, none⟩) 1 1 := put_eval _ hlt.2.2.1
    have rdN0 : Rd (w1.alloc (.cells news.toArray e)) (some ⟨w1.heap.size, 0, none⟩) news := by simpa using rd_new w1 e news.toArray
    refine rg_one rN a1 a2 fun w2 hc2 he2 => ?_
    refine wp_val (a4 _ w2) ⟨bel_alloc hc2 _, ?_⟩
    rw [a3]
    rw [Array.setIfInBounds_comm _ _ (Ne.symm i0N)]
    refine rg_one r0N b1 b2 fun w3 hc3 he3 => ?_
    have f1 := f0.put (d := s0) (by simp) (.slice (some ⟨w2.heap.size, 0, none⟩) 0 0)
    have ev0 : ((a0.put (some sN) (.slice (some ⟨w1.heap.size, 0, none⟩) 1 1)).put (some s0) (.slice (some ⟨w2.heap.size, 0, none⟩) 0 0)).eval (.tmp s0) = .slice (some ⟨w2.heap.size, 0, none⟩) 0 0 := put_eval _ (by rw [f0.size]; exact hlt.1)
    have evN1 : ((a0.put (some sN) (.slice (some ⟨w1.heap.size, 0, none⟩) 1 1)).put (some s0) (.slice (some ⟨w2.heap.size, 0, none⟩) 0 0)).eval (.tmp sN) = .slice (some ⟨w1.heap.size, 0, none⟩) 1 1 := by
      rw [put_eval_ne _ hs.ne.1]; exact evN
    have rdN : Rd w3 (some ⟨w1.heap.size, 0, none⟩) news := ((rdN0.below he2).alloc _).below he3
    have ow0 := own_base (hsz0 w2) hc2.size
    refine SA _ w3 0 L f1 hc3 _ _ ev0 (own_keep ow0 he3) _ fun A' c' w4 hf4 hx4 o4 g4 _ => ⟨hx4, ?_⟩
    rw [Array.setIfInBounds_comm _ _ (Ne.symm iAN)]
    have hz := he2.size
    refine S2 _ _ hf4 hx4 A' c' (put_eval _ (by rw [f1.size]; exact hlt.2.1)) o4 (some ⟨w1.heap.size, 0, none⟩) 1 ?_ (rdN.grown g4 (fun g h e => by
      simp only [ob, Option.map_some, Option.some.injEq] at h e
      simp at hz
      omega))
    rw [put_eval_ne _ hs.ne.2]
    exact evN1
end
end Go.Proofs.YteelmhmdnljjnaaGreat
