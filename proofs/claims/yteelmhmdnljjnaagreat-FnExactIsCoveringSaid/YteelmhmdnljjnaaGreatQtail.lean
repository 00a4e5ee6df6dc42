/- A region that draws its order: operations that read and quiet calls, and a chain of operations that make or write memory. The quiet ones may be taken first. -/
import Derived.Test.YteelmhmdnljjnaaGreatQreg
import Derived.StillTail
import Derived.OrdersHeld
import Derived.Laws.AppendOwn
import Derived.Deep.RegionHeld3
namespace Go.Proofs.YteelmhmdnljjnaaGreat
open Go.RowKit
/-- w' is w with more memory. -/
abbrev Ext (w w' : World) : Prop := Below w.heap.size w w'
section
variable {P : Program} {ops : Array Oper} {md : Region.Mode} {C : World → Prop} {Q : Exit → Act → World → Prop}
/-- In every world of the class o yields v and leaves that world, with more memory at most. -/
def Qt (P : Program) (ops : Array Oper) (C : World → Prop) (o : Oper) (v : Value) (a : Act) : Prop :=
  (Region.wanted o (yielded ops a.tmps) = true ∧ ∀ w, C w → o.quietAt P a (Ext w) w v) ∨ (Region.wanted o (yielded ops a.tmps) = false ∧ v = undef)
theorem Qt.same {o : Oper} {v : Value} {a a' : Act} (hy : Qt P ops C o v a) (he : execOp a'.eval o = execOp a.eval o)
    (hw : Region.wanted o (yielded ops a'.tmps) = Region.wanted o (yielded ops a.tmps)) : Qt P ops C o v a' := by
  unfold Qt Oper.quietAt at *
  rw [he, hw]
  exact hy
theorem Qt.wpOp {i : Nat} {o : Oper} {v : Value} {a : Act} {w : World} (hi : ops[i]? = some o) (hC : C w) (hy : Qt P ops C o v a) {K : Act → World → Prop} (h : ∀ w', Ext w w' → K (a.put o.dst v) w') : wpOp P ops Q i K a w := by
  unfold Go.wpOp
  simp only [hi]
  rcases hy with ⟨hw, hv⟩ | ⟨hw, rfl⟩
  · rw [if_pos hw]
    refine .inl ?_
    have h3 := hv w hC
    unfold Oper.quietAt at h3
    unfold Oper.wp
    generalize (execOp a.eval o).run P w = r at *
    cases r with
    | ok n w' =>
      cases n <;> simp only [Oper.quietUpon] at h3 <;> simp only [Oper.upon]
      case value u => rw [h3.1, h3.2]; exact h _ (Below.refl _ _)
      case skip => rw [h3.1, ← h3.2]; exact h _ (Below.refl _ _)
      case enter f args =>
        rw [h3.1]
        exact h3.2.mono fun e w'' he => by obtain ⟨he, hw''⟩ := he; subst he; exact h _ hw''
    | halt x w' => simp only [Oper.quietUpon] at h3
  · rw [if_neg (by rw [hw]; simp)]
    exact h _ (Below.refl _ _)
theorem wpOp_putQt {j : Nat} {oi oj : Oper} {v : Value} (hj : ops[j]? = some oj) (hap : oi.apart ops oj = true)
    (hsi : ∀ cs b, oi.op ≠ .select cs b) (hsj : ∀ cs b, oj.op ≠ .select cs b) (hQ : ∀ c a w, Q (.panic c) (a.put oi.dst v) w → Q (.panic c) a w) {K : Act → World → Prop} {a : Act} {w : World}
    (hy : Qt P ops C oi v a) (h : wpOp P ops Q j K (a.put oi.dst v) w) : wpOp P ops Q j (fun a' w' => Qt P ops C oi v a' ∧ K (a'.put oi.dst v) w') a w := by
  obtain ⟨h1, h2, h3⟩ := Oper.apart_spec hap
  have keep : ∀ (b : Act), Qt P ops C oi v b → ∀ u, Qt P ops C oi v (b.put oj.dst u) := fun b hb u => hb.same (execOp_put oi hsi b oj.dst u h3) (wanted_put oi b oj.dst u h3)
  have swap : ∀ (b : Act) u, Qt P ops C oi v b → K ((b.put oi.dst v).put oj.dst u) = K ((b.put oj.dst u).put oi.dst v) := fun b u _ => by rw [Act.put_comm b v u h2]
  unfold wpOp at *
  simp only [hj] at *
  rw [wanted_put oj a oi.dst v h1] at h
  by_cases hw : Region.wanted oj (yielded ops a.tmps) = true
  · rw [if_pos hw] at h ⊢
    rcases h with h | ⟨hasks, hlets⟩
    · refine .inl ?_
      unfold Oper.wp at *
      rw [execOp_put oj hsj a oi.dst v h1] at h
      generalize (execOp a.eval oj).run P w = r at *
      cases r with
      | ok n w' =>
        cases n <;> simp only [Oper.upon] at h ⊢
        case value u => exact ⟨keep a hy u, by rw [← swap a u hy]; exact h⟩
        case skip => exact ⟨keep a hy _, by rw [← swap a _ hy]; exact h⟩
        case defer d =>
          have hyd : Qt P ops C oi v { a with defers := d :: a.defers } := hy.same rfl rfl
          refine ⟨keep _ hyd _, ?_⟩
          rw [← swap _ _ hyd, ← Act.put_defers]
          exact h
        case enter f args =>
          refine Calls.mono h fun e w'' he => ?_
          cases e with
          | returned u => exact ⟨keep a hy u, by rw [← swap a u hy]; exact he⟩
          | panicked c => exact hQ _ _ _ he
          | outgrown => exact he
        case row row args => exact Rows.mono h fun u w'' he => ⟨keep a hy u, by rw [← swap a u hy]; exact he⟩
      | halt x w' =>
        cases x <;> simp only [Oper.upon] at h ⊢
        case panic u => exact hQ _ _ _ h
    · exact .inr ⟨by unfold Oper.asks at *; rw [execOp_put oj hsj a oi.dst v h1] at hasks; exact hasks, hlets⟩
  · rw [if_neg hw] at h ⊢
    exact ⟨keep a hy _, by rw [← swap a _ hy]; exact h⟩

/-- Whatever order is picked; more memory may come at any time; the class holds throughout. -/
def wpRg (P : Program) (md : Region.Mode) (ops : Array Oper) (C : World → Prop) (Q : Exit → Act → World → Prop) (f : Nat) (listed : Array Bool) (a : Act) (w : World) : Prop :=
  match f with
  | 0 => Region.ready md ops listed = [] ∧ ∀ w', C w' → Ext w w' → Q .normal a w'
  | f + 1 => (Region.ready md ops listed = [] → ∀ w', C w' → Ext w w' → Q .normal a w') ∧
    ∀ i ∈ Region.ready md ops listed, ∀ w', C w' → Ext w w' → wpOp P ops Q i (fun a' w'' => C w'' ∧ wpRg P md ops C Q f (listed.setIfInBounds i true) a' w'') a w'
theorem wpRg_ext {f : Nat} {listed : Array Bool} {a : Act} {w w1 : World} (h : wpRg P md ops C Q f listed a w) (he : Ext w w1) : wpRg P md ops C Q f listed a w1 := by
  cases f with
  | zero => exact ⟨h.1, fun w' hc h1 => h.2 w' hc (bel_trans he h1)⟩
  | succ f => exact ⟨fun hr w' hc h1 => h.1 hr w' hc (bel_trans he h1), fun i hi w' hc h1 => h.2 i hi w' hc (bel_trans he h1)⟩
theorem wpAny_of_wpRg (f : Nat) : ∀ (listed : Array Bool) (a : Act) (w : World), C w → wpRg P md ops C Q f listed a w → wpAny P md ops Q f listed a w := by
  induction f with
  | zero => intro listed a w hc h; exact ⟨h.1, h.2 w hc (Below.refl _ _)⟩
  | succ f ih =>
    intro listed a w hc h
    exact ⟨fun hr => h.1 hr w hc (Below.refl _ _), fun i hi => wpOp_mono (fun a' w' h' => ih _ a' w' h'.1 h'.2) (h.2 i hi w hc (Below.refl _ _))⟩
theorem wpRg_first {i : Nat} {oi : Oper} {v : Value} (hCE : ∀ w w', C w → Ext w w' → C w') (hi : ops[i]? = some oi) (hsel : ∀ (j : Nat) (o : Oper) cs b, ops[j]? = some o → o.op ≠ .select cs b)
    (hQ : ∀ c a w, Q (.panic c) (a.put oi.dst v) w → Q (.panic c) a w) (f : Nat) :
    ∀ (listed : Array Bool) (a : Act) (w : World),
      (∀ j oj, ops[j]? = some oj → j ≠ i → listed.getD j true = false → (∀ e ∈ oj.after, Region.binds md e = true → e.on ≠ i) → oi.apart ops oj = true) →
      i ∈ Region.ready md ops listed → Qt P ops C oi v a →
      wpRg P md ops C Q f (listed.setIfInBounds i true) (a.put oi.dst v) w → wpRg P md ops C Q (f + 1) listed a w := by
  induction f with
  | zero =>
    intro listed a w _ hr hy H
    refine ⟨fun e => absurd e (List.ne_nil_of_mem hr), fun j hj w' hc he => ?_⟩
    rcases Decidable.em (j = i) with e | e
    · subst e
      exact hy.wpOp hi hc fun w'' h2 => ⟨hCE _ _ hc h2, wpRg_ext H (bel_trans he h2)⟩
    · have := ready_mono hj e
      rw [H.1] at this
      cases this
  | succ f ih =>
    intro listed a w hfree hr hy H
    refine ⟨fun e => absurd e (List.ne_nil_of_mem hr), fun j hj w' hc he => ?_⟩
    rcases Decidable.em (j = i) with e | e
    · subst e
      exact hy.wpOp hi hc fun w'' h2 => ⟨hCE _ _ hc h2, wpRg_ext H (bel_trans he h2)⟩
    · obtain ⟨hjun, oj, hoj, hall⟩ := mem_ready.1 hj
      have hnot : ∀ e ∈ oj.after, Region.binds md e = true → e.on ≠ i := by
        intro e he hb heq
        have h1 := hall e he hb
        rw [heq, getD_both (mem_ready.1 hr).1] at h1
        cases h1
      have h2 := wpOp_putQt hoj (hfree j oj hoj e hjun hnot) (fun cs b => hsel i oi cs b hi) (fun cs b => hsel j oj cs b hoj) hQ hy (H.2 j (ready_mono hj e) w' hc he)
      refine wpOp_mono (fun a' w'' h3 => ⟨h3.2.1, ?_⟩) h2
      refine ih (listed.setIfInBounds j true) a' w'' (fun k ok hk hki hun' hno => ?_) (ready_mono hr (Ne.symm e)) h3.1 ?_
      · refine hfree k ok hk hki ?_ hno
        rcases Decidable.em (j = k) with ejk | ejk
        · rw [← ejk]; exact hjun
        · rwa [getD_set_ne true ejk] at hun'
      · rw [Array.setIfInBounds_comm _ _ e]
        exact h3.2.2

/-- The walk: quiet operations. -/
def wpHead (P : Program) (ops : Array Oper) (C : World → Prop) (L : Act → Prop) : List Oper → Act → Prop
  | [], a => L a
  | o :: rest, a => ∃ v, Qt P ops C o v a ∧ wpHead P ops C L rest (a.put o.dst v)
/-- The walk: the others, one behind the other; more memory may come before each. -/
def wpTail (P : Program) (ops : Array Oper) (C : World → Prop) (Q : Exit → Act → World → Prop) : List Oper → Act → World → Prop
  | [], a, w => ∀ w', C w' → Ext w w' → Q .normal a w'
  | o :: rest, a, w => ∀ w', C w' → Ext w w' → Region.wanted o (yielded ops a.tmps) = true ∧ o.wp P a w' (fun a' w'' => C w'' ∧ wpTail P ops C Q rest a' w'') Q
theorem wpTail_drawn {l : List Oper} {a : Act} {w : World} (h : wpTail P ops C Q l a w) : wpTail P ops C Q l a { w with drawn := w.drawn + 1 } := by
  cases l with
  | nil => exact fun w' hc he => h w' hc ⟨he.os, he.tape, he.output, he.size, he.block⟩
  | cons o r => exact fun w' hc he => h w' hc ⟨he.os, he.tape, he.output, he.size, he.block⟩
theorem wpRg_of_tail (l : List Oper) : ∀ (k : Nat) (listed : Array Bool) (a : Act) (w : World), (∀ j, l[j]? = ops[k + j]?) → Region.seqB md ops l.length k listed = true → wpTail P ops C Q l a w → wpRg P md ops C Q l.length listed a w := by
  induction l with
  | nil => intro k listed a w _ hB h; exact ⟨by simpa [Region.seqB] using hB, h⟩
  | cons o l ih =>
    intro k listed a w hl hB h
    have h0 : ops[k]? = some o := by simpa using (hl 0).symm
    simp only [List.length_cons, Region.seqB, Bool.and_eq_true, decide_eq_true_eq] at hB
    refine ⟨fun e => (by rw [hB.1] at e; cases e), fun i hi w' hc he => ?_⟩
    obtain rfl : i = k := by rw [hB.1] at hi; simpa using hi
    obtain ⟨hw, h1⟩ := h w' hc he
    unfold wpOp
    simp only [h0]
    rw [if_pos hw]
    exact .inl (Oper.wp_mono (fun a' w'' h2 => ⟨h2.1, ih (i + 1) _ a' w'' (fun j => by have := hl (j + 1); simpa [Nat.add_assoc, Nat.add_comm 1 j] using this) hB.2 h2.2⟩) h1)
theorem wpRg_of_head {g n : Nat} {L : Act → Prop} {w : World} (hCE : ∀ w w', C w → Ext w w' → C w') (hsel : Region.noSelect ops = true) (hQ : ∀ (d : Option Tmp) v c a w, Q (.panic c) (a.put d v) w → Q (.panic c) a w)
    (hL : ∀ listed a, Region.seqB md ops g n listed = true → L a → wpRg P md ops C Q g listed a w) (l : List Oper) :
    ∀ (k : Nat) (listed : Array Bool) (a : Act), (∀ j, j < l.length → l[j]? = ops[k + j]?) → k + l.length = n → Region.lexHead md ops g l.length k listed = true → wpHead P ops C L l a → wpRg P md ops C Q (l.length + g) listed a w := by
  induction l with
  | nil =>
    intro k listed a _ hk hB h
    have e : k = n := by simpa using hk
    rw [e] at hB
    rw [List.length_nil, Nat.zero_add]
    exact hL _ _ (by simpa [Region.lexHead] using hB) h
  | cons o l ih =>
    intro k listed a hl hk hB h
    have h0 : ops[k]? = some o := by simpa using (hl 0 (by simp)).symm
    simp only [List.length_cons, Region.lexHead, Bool.and_eq_true] at hB hk
    have hr : k ∈ Region.ready md ops listed := by simpa using hB.1.1
    obtain ⟨v, hy, hK⟩ := h
    rw [List.length_cons, Nat.add_right_comm]
    refine wpRg_first hCE h0 (Region.noSelect_spec hsel) (hQ _ _) _ listed a w (Region.free_spec h0 hB.1.2) hr hy ?_
    refine ih (k + 1) _ _ (fun j hj => ?_) (by omega) hB.2 hK
    have := hl (j + 1) (by simp; omega)
    simpa [Nat.add_assoc, Nat.add_comm 1 j] using this
end
section
variable {P : Program} {C : World → Prop} {ops : Array Oper}
theorem wp_region_tail {id : Nat} {Q : Exit → Act → World → Prop} {a : Act} {w : World} {l : List Oper} (n : Nat) (hm : P.follows .mixedOrders = true) (hB : (Region.noSelect l.toArray && decide (n < l.length) && Region.lexHead .any l.toArray (l.length - n) n 0 (Array.replicate l.length false)) = true)
    (hQ : ∀ (d : Option Tmp) v c a w, Q (.panic c) (a.put d v) w → Q (.panic c) a w) (hC : C { w with drawn := w.drawn + 1 }) (hCE : ∀ w w', C w → Ext w w' → C w')
    (h : wpHead P l.toArray C (fun a' => wpTail P l.toArray C Q (l.drop n) a' w) (l.take n) a) : (Code.region id l.toArray true).wp P Q a w := by
  simp only [Bool.and_eq_true, decide_eq_true_eq] at hB
  obtain ⟨⟨hsel, hn⟩, hlex⟩ := hB
  have htl : (l.take n).length = n := by simp; omega
  have hdl : (l.drop n).length = l.length - n := by simp
  refine wp_region_any hm (wpAny_of_wpRg _ _ _ _ hC ?_)
  have H := wpRg_of_head (md := .any) (g := l.length - n) (n := n) (w := { w with drawn := w.drawn + 1 }) hCE hsel hQ (fun listed a' hs hL => by
    have h4 : wpTail P l.toArray C Q (l.drop n) a' { w with drawn := w.drawn + 1 } := wpTail_drawn hL
    have h3 := wpRg_of_tail (ops := l.toArray) (md := .any) (l.drop n) n listed a' { w with drawn := w.drawn + 1 } (fun j => by simp [List.getElem?_drop]) (by rw [hdl]; exact hs) h4
    rwa [hdl] at h3) (l.take n) 0 (Array.replicate l.length false) a (fun j hj => by rw [htl] at hj; simp [hj]) (by simpa using htl) (by rw [htl]; exact hlex) h
  rw [htl, show n + (l.length - n) = l.length by omega] at H
  simpa using H
theorem headV {L : Act → Prop} {o : Oper} {rest : List Oper} {ts : Array Value} {ds : List Deferred} {v : Value} {d : Nat} (hw : Region.wanted o (yielded ops ts) = true) (hd : o.dst = some d) (h1 : ∀ w', C w' → o.quietAt P { tmps := ts, defers := ds } (Ext w') w' v)
    (h2 : wpHead P ops C L rest { tmps := ts.setIfInBounds d v, defers := ds }) : wpHead P ops C L (o :: rest) { tmps := ts, defers := ds } :=
  ⟨v, .inl ⟨hw, h1⟩, by rw [hd]; exact h2⟩
theorem headSkip {L : Act → Prop} {o : Oper} {rest : List Oper} {ts : Array Value} {ds : List Deferred} {d : Nat} (hw : Region.wanted o (yielded ops ts) = false) (hd : o.dst = some d)
    (h2 : wpHead P ops C L rest { tmps := ts.setIfInBounds d undef, defers := ds }) : wpHead P ops C L (o :: rest) { tmps := ts, defers := ds } :=
  ⟨undef, .inr ⟨hw, rfl⟩, by rw [hd]; exact h2⟩
theorem tailV {Q : Exit → Act → World → Prop} {o : Oper} {rest : List Oper} {a : Act} {w : World} (hw : Region.wanted o (yielded ops a.tmps) = true) (h : ∀ w', C w' → Ext w w' → o.wp P a w' (fun a' w'' => C w'' ∧ wpTail P ops C Q rest a' w'') Q) : wpTail P ops C Q (o :: rest) a w :=
  fun w' hc he => ⟨hw, h w' hc he⟩
theorem tailK {Q : Exit → Act → World → Prop} {o : Oper} {rest : List Oper} {a : Act} {w : World} (hw : Region.wanted o (yielded ops a.tmps) = true)
    (h : ∀ w', C w' → Ext w w' → ∀ K : Act → World → Prop, (∀ a' w'', C w'' → wpTail P ops C Q rest a' w'' → K a' w'') → o.wp P a w' K Q) : wpTail P ops C Q (o :: rest) a w :=
  fun w' hc he => ⟨hw, h w' hc he _ fun _ _ h1 h2 => ⟨h1, h2⟩⟩
theorem wp_region_tailN {id : Nat} {Q : Exit → Act → World → Prop} {a : Act} {w : World} {l : List Oper} (n : Nat) (hm : P.follows .mixedOrders = true) (hB : (Region.noSelect l.toArray && decide (n < l.length) && Region.lexHead .any l.toArray (l.length - n) n 0 (Array.replicate l.length false)) = true)
    (hC : C { w with drawn := w.drawn + 1 }) (hCE : ∀ w w', C w → Ext w w' → C w')
    (h : wpHead P l.toArray C (fun a' => wpTail P l.toArray C (NoPanic Q) (l.drop n) a' w) (l.take n) a) : (Code.region id l.toArray true).wp P Q a w :=
  wp_region_noPanic (wp_region_tail n hm hB (fun _ _ _ _ _ h => h) hC hCE h)
/-- A call's contract in a quiet place. -/
theorem callsX {f : FuncId} {args : Array Value} {w' : World} {v : Value} (h : Calls P f args w' (Ret w' v)) : Calls P f args w' (fun e w'' => e = .returned v ∧ Ext w' w'') := h.mono fun _ _ h2 => ⟨h2.1, h2.2⟩
/-- The class for an append onto a row of the call's own: all else is as it was. -/
def Gr (w : World) (A : Option Addr) (w' : World) : Prop := w.grownBy w' (ob A)
theorem Gr.drawn (w : World) (A : Option Addr) : Gr w A { w with drawn := w.drawn + 1 } := ⟨rfl, rfl, rfl, Nat.le_refl _, fun _ _ _ => rfl⟩
theorem Gr.ext {w : World} {A : Option Addr} {w1 w2 : World} (h : Gr w A w1) (he : Ext w1 w2) : Gr w A w2 :=
  ⟨he.os.trans h.os, he.tape.trans h.tape, he.output.trans h.output, Nat.le_trans h.size he.size, fun k hk hne => (he.block k (Nat.lt_of_lt_of_le hk h.size)).trans (h.block k hk hne)⟩
theorem Gr.trans {w : World} {A : Option Addr} {w1 w2 : World} (h : Gr w A w1) (k : w1.grownBy w2 (ob A)) : Gr w A w2 :=
  ⟨k.os.trans h.os, k.tape.trans h.tape, k.output.trans h.output, Nat.le_trans h.size k.size, fun b hb hne => (k.block b (Nat.lt_of_lt_of_le hb h.size) hne).trans (h.block b hb hne)⟩
theorem Gr.cells {w w' : World} {A : Option Addr} (h : Gr w A w') : ∀ b o, b < w.heap.size → some b ≠ ob A → w'.cell? ⟨b, o, none⟩ = w.cell? ⟨b, o, none⟩ := fun b o hb hne => World.cell?_of_block (h.block b hb hne)
/-- The class where nothing that was there is written. -/
def ExC (w w' : World) : Prop := Below w.heap.size w w'
theorem ExC.drawn (w : World) : ExC w { w with drawn := w.drawn + 1 } := ⟨rfl, rfl, rfl, Nat.le_refl _, fun _ _ => rfl⟩
theorem ExC.ext {w w1 w2 : World} (h : ExC w w1) (he : Ext w1 w2) : ExC w w2 := bel_trans h he
theorem ExC.cells {w w' : World} (h : ExC w w') : ∀ b o, b < w.heap.size → w'.cell? ⟨b, o, none⟩ = w.cell? ⟨b, o, none⟩ := (bcell h).1
theorem Gr.cell {w w' : World} {A : Option Addr} {b : Nat} (h : Gr w A w') (hb : b < w.heap.size) (hne : some b ≠ ob A) (o : Nat) : w'.cell? ⟨b, o, none⟩ = w.cell? ⟨b, o, none⟩ :=
  World.cell?_of_block (h.block b hb hne)
end
end Go.Proofs.YteelmhmdnljjnaaGreat
