/- Small predicates and lemmas on memory that the walks of this family share: a slice that reads as a list, frames, results. No program is in sight. -/
import Derived.WalkKit
import Derived.Below
import Derived.Laws.OwnMore
import Derived.Maps.AppendAt
import Derived.Deep.Draws
import Derived.Lib.Hide
namespace Go.Proofs.YteelmhmdnljjnaaGreat
open Go.RowKit
set_option linter.unusedVariables false

abbrev C := Int × Int

/-- The cells of a list of integers, of a list of pairs. -/
def vI (xs : List Int) : List Value := xs.map (.int .i64)
def vC : List C → List Value
  | [] => []
  | p :: t => .int .i64 p.1 :: .int .i64 p.2 :: vC t
def vB (xs : List UInt8) : List Value := xs.map fun b => .int .u8 b.toNat
theorem vB_length (xs : List UInt8) : (vB xs).length = xs.length := by simp [vB]
theorem vB_append (a b : List UInt8) : vB (a ++ b) = vB a ++ vB b := by simp [vB]
theorem vB_one (xs : List UInt8) : ∀ u ∈ vB xs, u.oneCell' = true := by simp [vB, Value.oneCell']
/-- A slice's header: address, length, capacity. -/
abbrev H := Option Addr × Nat × Nat
def hd (h : H) : Value := .slice h.1 h.2.1 h.2.2
def vS (hs : List H) : List Value := hs.map hd

theorem vI_length (xs : List Int) : (vI xs).length = xs.length := by simp [vI]
theorem vS_length (xs : List H) : (vS xs).length = xs.length := by simp [vS]
theorem vC_length (xs : List C) : (vC xs).length = xs.length * 2 := by induction xs with
  | nil => rfl
  | cons p t ih => simp only [vC, List.length_cons, ih]; omega
theorem vI_append (a b : List Int) : vI (a ++ b) = vI a ++ vI b := by simp [vI]
theorem vS_append (a b : List H) : vS (a ++ b) = vS a ++ vS b := by simp [vS]
theorem vC_append (a b : List C) : vC (a ++ b) = vC a ++ vC b := by
  induction a with
  | nil => rfl
  | cons p t ih => simp [vC, ih]
theorem vC_get1 (xs : List C) (k : Nat) (h : k < xs.length) : (vC xs)[k * 2]? = some (.int .i64 xs[k].1) := by
  induction xs generalizing k with
  | nil => simp at h
  | cons p t ih =>
    cases k with
    | zero => simp [vC]
    | succ k =>
      have := ih k (by simpa using h)
      rw [show (k + 1) * 2 = k * 2 + 1 + 1 from by omega]
      simpa [vC] using this
theorem vC_get2 (xs : List C) (k : Nat) (h : k < xs.length) : (vC xs)[k * 2 + 1]? = some (.int .i64 xs[k].2) := by
  induction xs generalizing k with
  | nil => simp at h
  | cons p t ih =>
    cases k with
    | zero => simp [vC]
    | succ k =>
      have := ih k (by simpa using h)
      rw [show (k + 1) * 2 + 1 = k * 2 + 1 + 1 + 1 from by omega]
      simpa [vC] using this
theorem vC_drop (xs : List C) (k : Nat) : vC (xs.drop k) = (vC xs).drop (k * 2) := by
  induction xs generalizing k with
  | nil => simp [vC]
  | cons p t ih =>
    cases k with
    | zero => simp
    | succ k => rw [show (k + 1) * 2 = k * 2 + 1 + 1 from by omega]; simp [vC, ih]
theorem vC_take (xs : List C) (k : Nat) : vC (xs.take k) = (vC xs).take (k * 2) := by
  induction xs generalizing k with
  | nil => simp [vC]
  | cons p t ih =>
    cases k with
    | zero => simp [vC]
    | succ k => rw [show (k + 1) * 2 = k * 2 + 1 + 1 from by omega]; simp [vC, ih]
theorem vI_drop (xs : List Int) (k : Nat) : vI (xs.drop k) = (vI xs).drop k := by simp [vI]
theorem vI_take (xs : List Int) (k : Nat) : vI (xs.take k) = (vI xs).take k := by simp [vI]
theorem vI_one (xs : List Int) : ∀ u ∈ vI xs, u.oneCell' = true := by simp [vI, Value.oneCell']
theorem vS_one (xs : List H) : ∀ u ∈ vS xs, u.oneCell' = true := by intro u h; simp only [vS, List.mem_map] at h; obtain ⟨x, _, rfl⟩ := h; rfl
theorem vC_one (xs : List C) : ∀ u ∈ vC xs, u.oneCell' = true := by
  induction xs with
  | nil => intro u h; cases h
  | cons p t ih =>
    intro u h
    simp only [vC, List.mem_cons] at h
    rcases h with rfl | rfl | h
    · rfl
    · rfl
    · exact ih u h

/-- The slice at address A reads, in world w, as the cells vs. -/
def Rd (w : World) (A : Option Addr) (vs : List Value) : Prop :=
  vs = [] ∨ ∃ g off, A = some ⟨g, off, none⟩ ∧ ∀ j u, vs[j]? = some u → w.cell? ⟨g, off + j, none⟩ = some u

section
variable {w w' : World} {A : Option Addr} {vs : List Value}
theorem Rd.none_ : Rd w A [] := .inl rfl
theorem Rd.keep (h : Rd w A vs) (hk : ∀ p : Addr, p.block < w.heap.size → w'.cell? p = w.cell? p) : Rd w' A vs := by
  rcases h with h | ⟨g, off, e, h⟩
  · exact .inl h
  · exact .inr ⟨g, off, e, fun j u hu => (hk _ (World.block_lt_of_cell? w _ (h j u hu))).trans (h j u hu)⟩
theorem Rd.below (h : Rd w A vs) (hb : Below w.heap.size w w') : Rd w' A vs := h.keep fun _ hp => hb.cell hp
theorem Rd.drew (h : Rd w A vs) : Rd w.drew A vs := h
theorem Rd.drewN (h : Rd w A vs) (k : Nat) : Rd (w.drewN k) A vs := h
theorem Rd.alloc (h : Rd w A vs) (o : Obj) : Rd (w.alloc o) A vs := h.keep fun p hp => World.cell?_alloc_lt w o p hp
theorem Rd.drop (h : Rd w A vs) (k cap : Nat) (hc : vs.length ≤ cap) : Rd w (if cap = k then A else A.map (·.add k)) (vs.drop k) := by
  rcases h with rfl | ⟨g, off, rfl, h⟩
  · simp [Rd]
  · by_cases hk : vs.length ≤ k
    · exact .inl (by simp [hk])
    · refine .inr ⟨g, off + k, ?_, fun j u hu => ?_⟩
      · rw [if_neg (by omega)]
        simp only [Option.map_some, Addr.add]
        split
        · subst_vars; rfl
        · rfl
      · rw [Nat.add_assoc]; exact h _ u (by rw [← hu, List.getElem?_drop])
theorem Rd.take (h : Rd w A vs) (k : Nat) : Rd w A (vs.take k) := by
  rcases h with rfl | ⟨g, off, rfl, h⟩
  · simp [Rd]
  · refine .inr ⟨g, off, rfl, fun j u hu => h j u ?_⟩
    rw [List.getElem?_take] at hu
    split at hu
    · exact hu
    · cases hu
theorem Rd.of_own {base e n c size : Nat} (h : w.ownsRow base e size (.slice A n c) n vs) : Rd w A vs := by
  rcases h.2 with ⟨hv, hn⟩ | ⟨g, cap, cur, hv, _, hg, _⟩
  · left
    have := h.1
    rw [hn] at this
    exact List.eq_nil_of_length_eq_zero (by omega)
  · right
    injection hv with hA
    subst hA
    refine ⟨g, 0, rfl, fun j u hu => ?_⟩
    have := h.cells (g := g) rfl j u hu
    have e : (⟨g, 0, none⟩ : Addr).add j = ⟨g, j, none⟩ := by unfold Addr.add; split <;> simp_all
    rw [e] at this
    simpa using this
end

theorem RdI.at_ {w : World} {A : Option Addr} {xs : List Int} {k : Nat} (h : Rd w A (vI xs)) (hk : k < xs.length) :
    ∃ g off, A = some ⟨g, off, none⟩ ∧ g < w.heap.size ∧ w.cell? ⟨g, off + k, none⟩ = some (.int .i64 xs[k]) := by
  rcases h with h | ⟨g, off, e, h⟩
  · have := congrArg List.length h
    rw [vI_length] at this
    simp at this
    subst this
    simp at hk
  · have := h k (.int .i64 xs[k]) (by simp [vI, hk])
    exact ⟨g, off, e, World.block_lt_of_cell? w _ this, this⟩
theorem RdS.at_ {w : World} {A : Option Addr} {xs : List H} {k : Nat} (h : Rd w A (vS xs)) (hk : k < xs.length) :
    ∃ g off, A = some ⟨g, off, none⟩ ∧ g < w.heap.size ∧ w.cell? ⟨g, off + k, none⟩ = some (.slice xs[k].1 xs[k].2.1 xs[k].2.2) := by
  rcases h with h | ⟨g, off, e, h⟩
  · have := congrArg List.length h
    rw [vS_length] at this
    simp at this
    subst this
    simp at hk
  · have := h k (hd xs[k]) (by simp [vS, hk])
    exact ⟨g, off, e, World.block_lt_of_cell? w _ this, this⟩
theorem RdC.at_ {w : World} {A : Option Addr} {xs : List C} {k : Nat} (h : Rd w A (vC xs)) (hk : k < xs.length) :
    ∃ g off, A = some ⟨g, off, none⟩ ∧ g < w.heap.size ∧ w.cell? ⟨g, off + k * 2, none⟩ = some (.int .i64 xs[k].1) ∧ w.cell? ⟨g, off + k * 2 + 1, none⟩ = some (.int .i64 xs[k].2) := by
  rcases h with h | ⟨g, off, e, h⟩
  · have := congrArg List.length h
    rw [vC_length] at this
    simp only [List.length_nil] at this
    omega
  · have h1 := h _ _ (vC_get1 xs k hk)
    have h2 := h _ _ (vC_get2 xs k hk)
    exact ⟨g, off, e, World.block_lt_of_cell? w _ h1, h1, by rw [Nat.add_assoc]; exact h2⟩

/-- A block that is known whole. -/
def Blk (w : World) (g : Nat) (t : TypeId) (cs : Array Value) : Prop := w.heap[g]? = some (.cells cs t (0, 0))
section
variable {w w' : World} {g : Nat} {t : TypeId} {cs : Array Value}
theorem Blk.lt (h : Blk w g t cs) : g < w.heap.size := by
  rcases Nat.lt_or_ge g w.heap.size with hlt | hge
  · exact hlt
  · unfold Blk at h; rw [Array.getElem?_eq_none hge] at h; cases h
theorem Blk.cell (h : Blk w g t cs) (i : Nat) : w.cell? ⟨g, i, none⟩ = cs[i]? := cell_of_row w g i cs t (0, 0) h
theorem Blk.frozen (h : Blk w g t cs) (i : Nat) : w.frozen? ⟨g, i, none⟩ = false := by
  unfold Blk at h
  simp [World.frozen?, h]
theorem Blk.new (w : World) (t : TypeId) (cs : Array Value) : Blk (w.alloc (.cells cs t)) w.heap.size t cs := heap_alloc_new w _
theorem Blk.drew (h : Blk w g t cs) : Blk w.drew g t cs := h
theorem Blk.drewN (h : Blk w g t cs) (n : Nat) : Blk (w.drewN n) g t cs := h
theorem Blk.alloc (h : Blk w g t cs) (o : Obj) : Blk (w.alloc o) g t cs := (Below.heap_alloc w o g h.lt).trans h
theorem Blk.set_ (h : Blk w g t cs) (i : Nat) (u : Value) : Blk (w.setCell ⟨g, i, none⟩ u) g t (cs.setIfInBounds i u) := by
  unfold Blk at h ⊢
  simp [World.setCell, Array.getElem?_modify, h]
theorem Blk.far (h : Blk w g t cs) {p : Addr} (hp : g ≠ p.block) (u : Value) : Blk (w.setCell p u) g t cs := (Below.heap_setCell w p u g hp).trans h
theorem Blk.below (h : Blk w g t cs) (hb : Below w.heap.size w w') : Blk w' g t cs := (hb.block g h.lt).trans h
theorem Blk.grown {row : Option Nat} (h : Blk w g t cs) (hb : w.grownBy w' row) (hg : some g ≠ row) : Blk w' g t cs := (hb.block g h.lt hg).trans h
end

section
variable {a w w' : World}
theorem bel_alloc (h : Below a.heap.size a w) (o : Obj) : Below a.heap.size a (w.alloc o) := h.alloc h.size o
theorem bel_drew (h : Below a.heap.size a w) : Below a.heap.size a w.drew := h.drew
theorem bel_drewN {n : Nat} (h : Below a.heap.size a w) : Below a.heap.size a (w.drewN n) := ⟨h.os, h.tape, h.output, h.size, h.block⟩
theorem bel_set {p : Addr} {u : Value} (h : Below a.heap.size a w) (hp : a.heap.size ≤ p.block) : Below a.heap.size a (w.setCell p u) := h.setCell hp u
theorem bel_trans (h : Below a.heap.size a w) (k : Below w.heap.size w w') : Below a.heap.size a w' := h.trans (k.mono h.size)
theorem bel_grown {row : Option Nat} (h : Below a.heap.size a w) (hg : w.grownBy w' row) (hr : ∀ k, row = some k → a.heap.size ≤ k) : Below a.heap.size a w' := h.grown hg h.size hr
end

theorem bcell {W w1 : World} (hb : Below W.heap.size W w1) : (∀ b o, b < W.heap.size → w1.cell? ⟨b, o, none⟩ = W.cell? ⟨b, o, none⟩) ∧ (∀ b o, b < W.heap.size → w1.frozen? ⟨b, o, none⟩ = W.frozen? ⟨b, o, none⟩) :=
  ⟨fun b o h => hb.cell (p := ⟨b, o, none⟩) h, fun b o h => hb.frozen (p := ⟨b, o, none⟩) h⟩
theorem keep_alloc {w : World} {o : Obj} {a : Addr} {v : Value} (h : w.cell? a = some v) : (w.alloc o).cell? a = some v := (World.cell?_alloc_lt w o a (World.block_lt_of_cell? w a h)).trans h
theorem keep_drew {w : World} {a : Addr} {v : Value} (h : w.cell? a = some v) : (w.drew).cell? a = some v := h
theorem keep_below {w w' : World} {a : Addr} {v : Value} (hb : Below w.heap.size w w') (h : w.cell? a = some v) : w'.cell? a = some v := (hb.cell (World.block_lt_of_cell? w a h)).trans h
theorem keep_grown {w w' : World} {row : Option Nat} {a : Addr} {v : Value} (hg : w.grownBy w' row) (h : w.cell? a = some v) (hne : some a.block ≠ row) : w'.cell? a = some v := hg.cell h hne
theorem keep_set {w : World} {p a : Addr} {u v : Value} (h : w.cell? a = some v) (hp : p ≠ a) : (w.setCell p u).cell? a = some v := (World.cell?_setCell_other w p a u hp).trans h

/-- append onto a row of the call's own, from a source that reads as a list (nil or not). -/
theorem run_append_of_nil {P : Program} (w : World) (base : Nat) (t ty e : TypeId) (i : TypeInfo) (size : Nat) (ht : P.underlying t = some (.slice e)) (hi : P.info? e = some i)
    (v : Value) (n : Nat) (xs : List Value) (hown : w.ownsRow base e size v n xs) (c : Nat) (A : Option Addr) : (Builtin.append_ #[t, t] ty #[v, .slice A 0 c]).run P w = .ok v w := by
  rcases A with _ | ad
  · rcases hown.2 with ⟨rfl, rfl⟩ | ⟨g, cap, cur, rfl, _, _, hnc, _⟩
    · simp [Builtin.append_, run_underlying ht, sizeOf, typeInfo, hi, Builtin.lenOf, Builtin.firstCells]
    · simp [Builtin.append_, run_underlying ht, sizeOf, typeInfo, hi, Builtin.lenOf, Builtin.firstCells, hnc, storeCells]
  · rcases hown.2 with ⟨rfl, rfl⟩ | ⟨g, cap, cur, rfl, _, _, hnc, _⟩
    · simp [Builtin.append_, run_underlying ht, sizeOf, typeInfo, hi, Builtin.lenOf, Builtin.firstCells, loadCells, loadCellsFrom]
    · simp [Builtin.append_, run_underlying ht, sizeOf, typeInfo, hi, Builtin.lenOf, Builtin.firstCells, hnc, storeCells, loadCells, loadCellsFrom]

/-- The block of a slice's address. -/
def ob (A : Option Addr) : Option Nat := A.map (·.block)
theorem ownBlock_slice (A : Option Addr) (n c : Nat) : (Value.slice A n c).ownBlock = ob A := by cases A <;> rfl

theorem own_form {w : World} {base e size n : Nat} {v : Value} {xs : List Value} (h : w.ownsRow base e size v n xs) : ∃ A c, v = .slice A n c := by
  rcases h.2 with ⟨rfl, rfl⟩ | ⟨g, cap, cur, rfl, _⟩
  · exact ⟨_, _, rfl⟩
  · exact ⟨_, _, rfl⟩
theorem own_lt {w : World} {base e size n c : Nat} {A : Option Addr} {xs : List Value} (h : w.ownsRow base e size (.slice A n c) n xs) : ∀ g, ob A = some g → base ≤ g ∧ g < w.heap.size := by
  intro g hg
  exact h.lt g (by rw [ownBlock_slice]; exact hg)

theorem run_app {P : Program} (w : World) (base : Nat) (t ty e : TypeId) (i : TypeInfo) (z : Value) (size bytes : Nat) (ht : P.underlying t = some (.slice e)) (hi : P.info? e = some i) (hz : i.zero = some z)
    (hsize : i.size = size) (hby : i.bytes = bytes) (hzs : z.cells.size = size) (hsz : 0 < size)
    (A : Option Addr) (n c : Nat) (xs : List Value) (hown : w.ownsRow base e size (.slice A n c) n xs)
    (A2 : Option Addr) (m c2 : Nat) (news : List Value) (hr : Rd w A2 news) (hl : news.length = m * size) (h1 : ∀ u ∈ news, u.oneCell' = true)
    (h63 : n + m ≤ maxLen) (hbytes : (n + m) * bytes ≤ 140737488355328) (hbase : base ≤ w.heap.size) :
    ∃ A' c' w', (Builtin.append_ #[t, t] ty #[.slice A n c, .slice A2 m c2]).run P w = .ok (.slice A' (n + m) c') w' ∧ w'.ownsRow base e size (.slice A' (n + m) c') (n + m) (xs ++ news) ∧ w.grownBy w' (ob A) ∧
      (ob A' = ob A ∨ ob A' = some w.heap.size) := by
  rcases hr with rfl | ⟨g, off, rfl, hc⟩
  · have hm : m = 0 := by
      simp only [List.length_nil] at hl
      rcases Nat.eq_zero_or_pos m with h0 | h0
      · exact h0
      · have := Nat.mul_pos h0 hsz; omega
    subst hm
    exact ⟨A, c, w, run_append_of_nil w base t ty e i size ht hi _ n xs hown c2 A2, by simpa using hown, World.grownBy.refl w _, .inl rfl⟩
  · have hcells : ∀ j u, news[j]? = some u → w.cell? ((⟨g, off, none⟩ : Addr).add j) = some u := by
      intro j u hu
      have e : (⟨g, off, none⟩ : Addr).add j = ⟨g, off + j, none⟩ := by unfold Addr.add; split <;> simp_all
      rw [e]; exact hc j u hu
    obtain ⟨v', w', hrun, h2, h3, _, h5⟩ := run_append_own_at (P := P) w base t ty e i z size bytes ht hi hz hsize hby hzs hsz _ n xs hown ⟨g, off, none⟩ m c2 news hl hcells h1 h63 hbytes hbase
    obtain ⟨A', c', rfl⟩ := own_form h2
    rw [ownBlock_slice] at h3 h5
    rw [ownBlock_slice] at h5
    exact ⟨A', c', w', hrun, h2, h3, h5⟩

theorem wp_app {P : Program} (w : World) {o : Oper} {a : Act} {K : Act → World → Prop} {Q : Exit → Act → World → Prop} (s x : Operand) (t : TypeId)
    (ho : o.op = .call { callee := .builtin .append, args := #[s, x], argTypes := #[t, t] })
    (base : Nat) (e : TypeId) (i : TypeInfo) (z : Value) (size bytes : Nat) (ht : P.underlying t = some (.slice e)) (hi : P.info? e = some i) (hz : i.zero = some z)
    (hsize : i.size = size) (hby : i.bytes = bytes) (hzs : z.cells.size = size) (hsz : 0 < size)
    (A : Option Addr) (n c : Nat) (xs : List Value) (hs : a.eval s = .slice A n c) (hown : w.ownsRow base e size (.slice A n c) n xs)
    (A2 : Option Addr) (m c2 : Nat) (news : List Value) (hx : a.eval x = .slice A2 m c2) (hr : Rd w A2 news) (hl : news.length = m * size) (h1 : ∀ u ∈ news, u.oneCell' = true)
    (h63 : n + m ≤ maxLen) (hbytes : (n + m) * bytes ≤ 140737488355328) (hbase : base ≤ w.heap.size)
    (h : ∀ A' c' w', w'.ownsRow base e size (.slice A' (n + m) c') (n + m) (xs ++ news) → w.grownBy w' (ob A) → (ob A' = ob A ∨ ob A' = some w.heap.size) → K (a.put o.dst (.slice A' (n + m) c')) w') :
    o.wp P a w K Q := by
  obtain ⟨A', c', w', hrun, h2, h3, h4⟩ := run_app (P := P) w base t o.type e i z size bytes ht hi hz hsize hby hzs hsz A n c xs hown A2 m c2 news hr hl h1 h63 hbytes hbase
  unfold Oper.wp execOp
  simp only [ho, resolve, invoke, builtin, Sem.run_bind, Sem.run_pure, Result.andThen_ok, List.map_toArray, List.map_cons, List.map_nil, hs, hx, hrun]
  exact h A' c' w' h2 h3 h4

theorem wpList_app {P : Program} (w : World) {ops : Array Oper} {rest : List Oper} {o : Oper} {a : Act} {Q : Exit → Act → World → Prop} (hgd : o.guard = none) (s x : Operand) (t : TypeId)
    (ho : o.op = .call { callee := .builtin .append, args := #[s, x], argTypes := #[t, t] })
    (base : Nat) (e : TypeId) (i : TypeInfo) (z : Value) (size bytes : Nat) (ht : P.underlying t = some (.slice e)) (hi : P.info? e = some i) (hz : i.zero = some z)
    (hsize : i.size = size) (hby : i.bytes = bytes) (hzs : z.cells.size = size) (hsz : 0 < size)
    (A : Option Addr) (n c : Nat) (xs : List Value) (hs : a.eval s = .slice A n c) (hown : w.ownsRow base e size (.slice A n c) n xs)
    (A2 : Option Addr) (m c2 : Nat) (news : List Value) (hx : a.eval x = .slice A2 m c2) (hr : Rd w A2 news) (hl : news.length = m * size) (h1 : ∀ u ∈ news, u.oneCell' = true)
    (h63 : n + m ≤ maxLen) (hbytes : (n + m) * bytes ≤ 140737488355328) (hbase : base ≤ w.heap.size)
    (h : ∀ A' c' w', w'.ownsRow base e size (.slice A' (n + m) c') (n + m) (xs ++ news) → w.grownBy w' (ob A) → (ob A' = ob A ∨ ob A' = some w.heap.size) → wpList P ops Q rest (a.put o.dst (.slice A' (n + m) c')) w') :
    wpList P ops Q (o :: rest) a w :=
  wpList_plain hgd fun _ hK => wp_app w s x t ho base e i z size bytes ht hi hz hsize hby hzs hsz A n c xs hs hown A2 m c2 news hx hr hl h1 h63 hbytes hbase fun A' c' w' h2 h3 h4 => hK _ _ (h A' c' w' h2 h3 h4)

theorem rd_new (w : World) (t : TypeId) (cs : Array Value) : Rd (w.alloc (.cells cs t)) (some ⟨w.heap.size, 0, none⟩) cs.toList :=
  .inr ⟨_, 0, rfl, fun j u hu => by rw [(Blk.new w t cs).cell]; simpa using hu⟩
theorem rd_newC (w : World) (t : TypeId) (x y : Int) : Rd (w.alloc (.cells #[.int .i64 x, .int .i64 y] t)) (some ⟨w.heap.size, 0, none⟩) (vC [(x, y)]) := rd_new w t _
theorem rd_newI (w : World) (t : TypeId) (x : Int) : Rd (w.alloc (.cells #[.int .i64 x] t)) (some ⟨w.heap.size, 0, none⟩) (vI [x]) := rd_new w t _
theorem rd_newS (w : World) (t : TypeId) (h : H) : Rd (w.alloc (.cells #[hd h] t)) (some ⟨w.heap.size, 0, none⟩) (vS [h]) := rd_new w t _
theorem own_new (w : World) (t : TypeId) (size n : Nat) (cs : Array Value) (hs : cs.size = n * size) (hm : n ≤ maxLen) {base : Nat} (hb : base ≤ w.heap.size) :
    (w.alloc (.cells cs t)).ownsRow base t size (.slice (some ⟨w.heap.size, 0, none⟩) n n) n cs.toList :=
  ⟨by simpa using hs, .inr ⟨_, n, cs, rfl, hb, heap_alloc_new w _, Nat.le_refl _, hm, hs, by rw [← hs, ← Array.length_toList, List.take_length]⟩⟩
theorem own_newC (w : World) (t : TypeId) (x y : Int) {base : Nat} (hb : base ≤ w.heap.size) :
    (w.alloc (.cells #[.int .i64 x, .int .i64 y] t)).ownsRow base t 2 (.slice (some ⟨w.heap.size, 0, none⟩) 1 1) 1 (vC [(x, y)]) := own_new w t 2 1 _ rfl (by simp [maxLen]) hb
/-- What is owned stays so where its block is as it was. -/
theorem own_keep {w w' : World} {base e size n c : Nat} {A : Option Addr} {xs : List Value} (h : w.ownsRow base e size (.slice A n c) n xs) (hb : Below w.heap.size w w') : w'.ownsRow base e size (.slice A n c) n xs := by
  refine ⟨h.1, ?_⟩
  rcases h.2 with hn | ⟨g, cap, cur, hv, hg, hgg, rest⟩
  · exact .inl hn
  · exact .inr ⟨g, cap, cur, hv, hg, by rw [hb.block g (Array.getElem?_eq_some_iff.1 hgg).1]; exact hgg, rest⟩
theorem own_set {w : World} {base e size n c : Nat} {A : Option Addr} {xs : List Value} (h : w.ownsRow base e size (.slice A n c) n xs) {p : Addr} (hp : ∀ g, ob A = some g → g ≠ p.block) (u : Value) : (w.setCell p u).ownsRow base e size (.slice A n c) n xs := by
  refine ⟨h.1, ?_⟩
  rcases h.2 with hn | ⟨g, cap, cur, hv, hg, hgg, rest⟩
  · exact .inl hn
  · refine .inr ⟨g, cap, cur, hv, hg, ?_, rest⟩
    injection hv with hA
    subst hA
    rw [Below.heap_setCell w p u g (hp g rfl)]; exact hgg
theorem own_base {w : World} {base base' e size n c : Nat} {A : Option Addr} {xs : List Value} (h : w.ownsRow base e size (.slice A n c) n xs) (hb : base' ≤ base) : w.ownsRow base' e size (.slice A n c) n xs := by
  refine ⟨h.1, ?_⟩
  rcases h.2 with hn | ⟨g, cap, cur, hv, hg, hgg, rest⟩
  · exact .inl hn
  · exact .inr ⟨g, cap, cur, hv, Nat.le_trans hb hg, hgg, rest⟩
theorem Rd.grown {w w' : World} {A : Option Addr} {vs : List Value} {row : Option Nat} (h : Rd w A vs) (hg : w.grownBy w' row) (hne : ∀ g, ob A = some g → some g ≠ row) : Rd w' A vs := by
  rcases h with h | ⟨g, off, rfl, h⟩
  · exact .inl h
  · exact .inr ⟨g, off, rfl, fun j u hu => (World.cell?_of_block (w := w) (hg.block g (World.block_lt_of_cell? w _ (h j u hu)) (hne g rfl))).trans (h j u hu)⟩
theorem bel_app {a w w' : World} {A : Option Addr} (h : Below a.heap.size a w) (hg : w.grownBy w' (ob A)) (hr : ∀ g, ob A = some g → a.heap.size ≤ g) : Below a.heap.size a w' := bel_grown h hg hr

/-- A pair laid ahead of a call and written behind it. -/
theorem blk_set2 {w w1 : World} {t : TypeId} {x y u v : Value} (hb : Below (w.alloc (.cells #[x, y] t)).drew.heap.size (w.alloc (.cells #[x, y] t)).drew w1) :
    Blk ((w1.setCell ⟨w.heap.size, 0, none⟩ u).setCell ⟨w.heap.size, 1, none⟩ v) w.heap.size t #[u, v] := by
  have h := (((Blk.new w t #[x, y]).drew.below hb).set_ 0 u).set_ 1 v
  simpa using h

/-- A result that is no memory; nothing that was there has turned. -/
def Ret (w : World) (v : Value) (e : Ending) (w' : World) : Prop := e = .returned v ∧ Below w.heap.size w w'
/-- A result that is a slice of the call's own: its cells are vs. -/
def RetS (w : World) (E sz : Nat) (vs : List Value) (e : Ending) (w' : World) : Prop :=
  ∃ A n c, e = .returned (.slice A n c) ∧ w'.ownsRow w.heap.size E sz (.slice A n c) n vs ∧ Below w.heap.size w w'
/-- The same beside a second result. -/
def RetS2 (w : World) (E sz : Nat) (vs : List Value) (v : Value) (e : Ending) (w' : World) : Prop :=
  ∃ A n c, e = .returned (.tuple #[.slice A n c, v]) ∧ w'.ownsRow w.heap.size E sz (.slice A n c) n vs ∧ Below w.heap.size w w'

theorem ret_bool {a b : Bool} (h : a = b) : Ending.returned (.bool a) = .returned (.bool b) := by rw [h]
theorem ret_int {k : IntKind} {a b : Int} (h : a = b) : Ending.returned (.int k a) = .returned (.int k b) := by rw [h]
theorem ret_str {a b : ByteArray} (h : a = b) : Ending.returned (.string a) = .returned (.string b) := by rw [h]

theorem own_len {w : World} {base e size n : Nat} {v : Value} {xs : List Value} (h : w.ownsRow base e size v n xs) : xs.length = n * size := h.1
theorem own_nil (w : World) (base e size : Nat) : w.ownsRow base e size (.slice none 0 0) 0 [] := World.ownsRow_nil w base e size
end Go.Proofs.YteelmhmdnljjnaaGreat
