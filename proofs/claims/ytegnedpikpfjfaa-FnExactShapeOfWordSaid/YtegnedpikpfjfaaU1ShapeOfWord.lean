/- Texts of this claim, one behind the other: part 1. -/
import Derived.WalkKit
import Derived.Below
import Derived.Laws.OwnMore
import Derived.Maps.AppendAt
import Derived.Deep.Draws
import Derived.Lib.Hide
import Derived.Test.YtegnedpikpfjfaaRows
import Derived.ProofKit
import Derived.OpenShut
import Derived.ShutString
import Derived.ChangeSame
import Derived.Carry
import Derived.WideKeyArgs
import Derived.Deep.Slices
import Derived.Deep.Fields
import Derived.ChangeSlices
import Derived.IntWalk
import Derived.Test.YtegnedpikpfjfaaProg
import Derived.WalkLawsBesides
import Derived.WalkSpells
import Derived.Outline
import Derived.BigQuiet
import Derived.Deep.QuietTactic
import Derived.Deep.RegionHeld3
import Derived.Deep.DeepCutAuto
import Derived.Deep.DrawnRows
import Derived.Deep.CutBlock
import Derived.Deep.RegionWith
/- Small predicates and lemmas on memory that the walks of this family share: a slice that reads as a list, frames, results. No program is in sight. -/
namespace Go.Proofs.Ytegnedpikpfjfaa
open Go.RowKit
set_option linter.unusedVariables false

abbrev C := Int × Int

/-- The cells of a list of integers, of a list of pairs. -/
def vI (xs : List Int) : List Value := xs.map (.int .i64)
def vC : List C → List Value
  | [] => []
  | p :: t => .int .i64 p.1 :: .int .i64 p.2 :: vC t
def vB (xs : List UInt8) : List Value := xs.map fun b => .int .u8 b.toNat
theorem vB_length (xs : List UInt8) : (vB xs).length = xs.length := by simp [vB]
theorem vB_append (a b : List UInt8) : vB (a ++ b) = vB a ++ vB b := by simp [vB]
theorem vB_one (xs : List UInt8) : ∀ u ∈ vB xs, u.oneCell' = true := by simp [vB, Value.oneCell']
/-- A slice's header: address, length, capacity. -/
abbrev H := Option Addr × Nat × Nat
def hd (h : H) : Value := .slice h.1 h.2.1 h.2.2
def vS (hs : List H) : List Value := hs.map hd

theorem vI_length (xs : List Int) : (vI xs).length = xs.length := by simp [vI]
theorem vS_length (xs : List H) : (vS xs).length = xs.length := by simp [vS]
theorem vC_length (xs : List C) : (vC xs).length = xs.length * 2 := by induction xs with
  | nil => rfl
  | cons p t ih => simp only [vC, List.length_cons, ih]; omega
theorem vI_append (a b : List Int) : vI (a ++ b) = vI a ++ vI b := by simp [vI]
theorem vS_append (a b : List H) : vS (a ++ b) = vS a ++ vS b := by simp [vS]
theorem vC_append (a b : List C) : vC (a ++ b) = vC a ++ vC b := by
  induction a with
  | nil => rfl
  | cons p t ih => simp [vC, ih]
theorem vC_get1 (xs : List C) (k : Nat) (h : k < xs.length) : (vC xs)[k * 2]? = some (.int .i64 xs[k].1) := by
  induction xs generalizing k with
  | nil => simp at h
  | cons p t ih =>
    cases k with
    | zero => simp [vC]
    | succ k =>
      have := ih k (by simpa using h)
      rw [show (k + 1) * 2 = k * 2 + 1 + 1 from by omega]
      simpa [vC] using this
theorem vC_get2 (xs : List C) (k : Nat) (h : k < xs.length) : (vC xs)[k * 2 + 1]? = some (.int .i64 xs[k].2) := by
  induction xs generalizing k with
  | nil => simp at h
  | cons p t ih =>
    cases k with
    | zero => simp [vC]
    | succ k =>
      have := ih k (by simpa using h)
      rw [show (k + 1) * 2 + 1 = k * 2 + 1 + 1 + 1 from by omega]
      simpa [vC] using this
theorem vC_drop (xs : List C) (k : Nat) : vC (xs.drop k) = (vC xs).drop (k * 2) := by
  induction xs generalizing k with
  | nil => simp [vC]
  | cons p t ih =>
    cases k with
    | zero => simp
    | succ k => rw [show (k + 1) * 2 = k * 2 + 1 + 1 from by omega]; simp [vC, ih]
theorem vC_take (xs : List C) (k : Nat) : vC (xs.take k) = (vC xs).take (k * 2) := by
  induction xs generalizing k with
  | nil => simp [vC]
  | cons p t ih =>
    cases k with
    | zero => simp [vC]
    | succ k => rw [show (k + 1) * 2 = k * 2 + 1 + 1 from by omega]; simp [vC, ih]
theorem vI_drop (xs : List Int) (k : Nat) : vI (xs.drop k) = (vI xs).drop k := by simp [vI]
theorem vI_take (xs : List Int) (k : Nat) : vI (xs.take k) = (vI xs).take k := by simp [vI]
theorem vI_one (xs : List Int) : ∀ u ∈ vI xs, u.oneCell' = true := by simp [vI, Value.oneCell']
theorem vS_one (xs : List H) : ∀ u ∈ vS xs, u.oneCell' = true := by intro u h; simp only [vS, List.mem_map] at h; obtain ⟨x, _, rfl⟩ := h; rfl
theorem vC_one (xs : List C) : ∀ u ∈ vC xs, u.oneCell' = true := by
  induction xs with
  | nil => intro u h; cases h
  | cons p t ih =>
    intro u h
    simp only [vC, List.mem_cons] at h
    rcases h with rfl | rfl | h
    · rfl
    · rfl
    · exact ih u h

/-- The slice at address A reads, in world w, as the cells vs. -/
def Rd (w : World) (A : Option Addr) (vs : List Value) : Prop :=
  vs = [] ∨ ∃ g off, A = some ⟨g, off, none⟩ ∧ ∀ j u, vs[j]? = some u → w.cell? ⟨g, off + j, none⟩ = some u

section
variable {w w' : World} {A : Option Addr} {vs : List Value}
theorem Rd.none_ : Rd w A [] := .inl rfl
theorem Rd.keep (h : Rd w A vs) (hk : ∀ p : Addr, p.block < w.heap.size → w'.cell? p = w.cell? p) : Rd w' A vs := by
  rcases h with h | ⟨g, off, e, h⟩
  · exact .inl h
  · exact .inr ⟨g, off, e, fun j u hu => (hk _ (World.block_lt_of_cell? w _ (h j u hu))).trans (h j u hu)⟩
theorem Rd.below (h : Rd w A vs) (hb : Below w.heap.size w w') : Rd w' A vs := h.keep fun _ hp => hb.cell hp
theorem Rd.drew (h : Rd w A vs) : Rd w.drew A vs := h
theorem Rd.drewN (h : Rd w A vs) (k : Nat) : Rd (w.drewN k) A vs := h
theorem Rd.alloc (h : Rd w A vs) (o : Obj) : Rd (w.alloc o) A vs := h.keep fun p hp => World.cell?_alloc_lt w o p hp
theorem Rd.drop (h : Rd w A vs) (k cap : Nat) (hc : vs.length ≤ cap) : Rd w (if cap = k then A else A.map (·.add k)) (vs.drop k) := by
  rcases h with rfl | ⟨g, off, rfl, h⟩
  · simp [Rd]
  · by_cases hk : vs.length ≤ k
    · exact .inl (by simp [hk])
    · refine .inr ⟨g, off + k, ?_, fun j u hu => ?_⟩
      · rw [if_neg (by omega)]
        simp only [Option.map_some, Addr.add]
        split
        · subst_vars; rfl
        · rfl
      · rw [Nat.add_assoc]; exact h _ u (by rw [← hu, List.getElem?_drop])
theorem Rd.take (h : Rd w A vs) (k : Nat) : Rd w A (vs.take k) := by
  rcases h with rfl | ⟨g, off, rfl, h⟩
  · simp [Rd]
  · refine .inr ⟨g, off, rfl, fun j u hu => h j u ?_⟩
    rw [List.getElem?_take] at hu
    split at hu
    · exact hu
    · cases hu
theorem Rd.of_own {base e n c size : Nat} (h : w.ownsRow base e size (.slice A n c) n vs) : Rd w A vs := by
  rcases h.2 with ⟨hv, hn⟩ | ⟨g, cap, cur, hv, _, hg, _⟩
  · left
    have := h.1
    rw [hn] at this
    exact List.eq_nil_of_length_eq_zero (by omega)
  · right
    injection hv with hA
    subst hA
    refine ⟨g, 0, rfl, fun j u hu => ?_⟩
    have := h.cells (g := g) rfl j u hu
    have e : (⟨g, 0, none⟩ : Addr).add j = ⟨g, j, none⟩ := by unfold Addr.add; split <;> simp_all
    rw [e] at this
    simpa using this
end

theorem RdI.at_ {w : World} {A : Option Addr} {xs : List Int} {k : Nat} (h : Rd w A (vI xs)) (hk : k < xs.length) :
    ∃ g off, A = some ⟨g, off, none⟩ ∧ g < w.heap.size ∧ w.cell? ⟨g, off + k, none⟩ = some (.int .i64 xs[k]) := by
  rcases h with h | ⟨g, off, e, h⟩
  · have := congrArg List.length h
    rw [vI_length] at this
    simp at this
    subst this
    simp at hk
  · have := h k (.int .i64 xs[k]) (by simp [vI, hk])
    exact ⟨g, off, e, World.block_lt_of_cell? w _ this, this⟩
theorem RdS.at_ {w : World} {A : Option Addr} {xs : List H} {k : Nat} (h : Rd w A (vS xs)) (hk : k < xs.length) :
    ∃ g off, A = some ⟨g, off, none⟩ ∧ g < w.heap.size ∧ w.cell? ⟨g, off + k, none⟩ = some (.slice xs[k].1 xs[k].2.1 xs[k].2.2) := by
  rcases h with h | ⟨g, off, e, h⟩
  · have := congrArg List.length h
    rw [vS_length] at this
    simp at this
    subst this
    simp at hk
  · have := h k (hd xs[k]) (by simp [vS, hk])
    exact ⟨g, off, e, World.block_lt_of_cell? w _ this, this⟩
theorem RdC.at_ {w : World} {A : Option Addr} {xs : List C} {k : Nat} (h : Rd w A (vC xs)) (hk : k < xs.length) :
    ∃ g off, A = some ⟨g, off, none⟩ ∧ g < w.heap.size ∧ w.cell? ⟨g, off + k * 2, none⟩ = some (.int .i64 xs[k].1) ∧ w.cell? ⟨g, off + k * 2 + 1, none⟩ = some (.int .i64 xs[k].2) := by
  rcases h with h | ⟨g, off, e, h⟩
  · have := congrArg List.length h
    rw [vC_length] at this
    simp only [List.length_nil] at this
    omega
  · have h1 := h _ _ (vC_get1 xs k hk)
    have h2 := h _ _ (vC_get2 xs k hk)
    exact ⟨g, off, e, World.block_lt_of_cell? w _ h1, h1, by rw [Nat.add_assoc]; exact h2⟩

/-- A block that is known whole. -/
def Blk (w : World) (g : Nat) (t : TypeId) (cs : Array Value) : Prop := w.heap[g]? = some (.cells cs t (0, 0))
section
variable {w w' : World} {g : Nat} {t : TypeId} {cs : Array Value}
theorem Blk.lt (h : Blk w g t cs) : g < w.heap.size := by
  rcases Nat.lt_or_ge g w.heap.size with hlt | hge
  · exact hlt
  · unfold Blk at h; rw [Array.getElem?_eq_none hge] at h; cases h
theorem Blk.cell (h : Blk w g t cs) (i : Nat) : w.cell? ⟨g, i, none⟩ = cs[i]? := cell_of_row w g i cs t (0, 0) h
theorem Blk.frozen (h : Blk w g t cs) (i : Nat) : w.frozen? ⟨g, i, none⟩ = false := by
  unfold Blk at h
  simp [World.frozen?, h]
theorem Blk.new (w : World) (t : TypeId) (cs : Array Value) : Blk (w.alloc (.cells cs t)) w.heap.size t cs := heap_alloc_new w _
theorem Blk.drew (h : Blk w g t cs) : Blk w.drew g t cs := h
theorem Blk.drewN (h : Blk w g t cs) (n : Nat) : Blk (w.drewN n) g t cs := h
theorem Blk.alloc (h : Blk w g t cs) (o : Obj) : Blk (w.alloc o) g t cs := (Below.heap_alloc w o g h.lt).trans h
theorem Blk.set_ (h : Blk w g t cs) (i : Nat) (u : Value) : Blk (w.setCell ⟨g, i, none⟩ u) g t (cs.setIfInBounds i u) := by
  unfold Blk at h ⊢
  simp [World.setCell, Array.getElem?_modify, h]
theorem Blk.far (h : Blk w g t cs) {p : Addr} (hp : g ≠ p.block) (u : Value) : Blk (w.setCell p u) g t cs := (Below.heap_setCell w p u g hp).trans h
theorem Blk.below (h : Blk w g t cs) (hb : Below w.heap.size w w') : Blk w' g t cs := (hb.block g h.lt).trans h
theorem Blk.grown {row : Option Nat} (h : Blk w g t cs) (hb : w.grownBy w' row) (hg : some g ≠ row) : Blk w' g t cs := (hb.block g h.lt hg).trans h
end

section
variable {a w w' : World}
theorem bel_alloc (h : Below a.heap.size a w) (o : Obj) : Below a.heap.size a (w.alloc o) := h.alloc h.size o
theorem bel_drew (h : Below a.heap.size a w) : Below a.heap.size a w.drew := h.drew
theorem bel_drewN {n : Nat} (h : Below a.heap.size a w) : Below a.heap.size a (w.drewN n) := ⟨h.os, h.tape, h.output, h.size, h.block⟩
theorem bel_set {p : Addr} {u : Value} (h : Below a.heap.size a w) (hp : a.heap.size ≤ p.block) : Below a.heap.size a (w.setCell p u) := h.setCell hp u
theorem bel_trans (h : Below a.heap.size a w) (k : Below w.heap.size w w') : Below a.heap.size a w' := h.trans (k.mono h.size)
theorem bel_grown {row : Option Nat} (h : Below a.heap.size a w) (hg : w.grownBy w' row) (hr : ∀ k, row = some k → a.heap.size ≤ k) : Below a.heap.size a w' := h.grown hg h.size hr
end

theorem bcell {W w1 : World} (hb : Below W.heap.size W w1) : (∀ b o, b < W.heap.size → w1.cell? ⟨b, o, none⟩ = W.cell? ⟨b, o, none⟩) ∧ (∀ b o, b < W.heap.size → w1.frozen? ⟨b, o, none⟩ = W.frozen? ⟨b, o, none⟩) :=
  ⟨fun b o h => hb.cell (p := ⟨b, o, none⟩) h, fun b o h => hb.frozen (p := ⟨b, o, none⟩) h⟩
theorem keep_alloc {w : World} {o : Obj} {a : Addr} {v : Value} (h : w.cell? a = some v) : (w.alloc o).cell? a = some v := (World.cell?_alloc_lt w o a (World.block_lt_of_cell? w a h)).trans h
theorem keep_drew {w : World} {a : Addr} {v : Value} (h : w.cell? a = some v) : (w.drew).cell? a = some v := h
theorem keep_below {w w' : World} {a : Addr} {v : Value} (hb : Below w.heap.size w w') (h : w.cell? a = some v) : w'.cell? a = some v := (hb.cell (World.block_lt_of_cell? w a h)).trans h
theorem keep_grown {w w' : World} {row : Option Nat} {a : Addr} {v : Value} (hg : w.grownBy w' row) (h : w.cell? a = some v) (hne : some a.block ≠ row) : w'.cell? a = some v := hg.cell h hne
theorem keep_set {w : World} {p a : Addr} {u v : Value} (h : w.cell? a = some v) (hp : p ≠ a) : (w.setCell p u).cell? a = some v := (World.cell?_setCell_other w p a u hp).trans h

/-- append onto a row of the call's own, from a source that reads as a list (nil or not). -/
theorem run_append_of_nil {P : Program} (w : World) (base : Nat) (t ty e : TypeId) (i : TypeInfo) (size : Nat) (ht : P.underlying t = some (.slice e)) (hi : P.info? e = some i)
    (v : Value) (n : Nat) (xs : List Value) (hown : w.ownsRow base e size v n xs) (c : Nat) (A : Option Addr) : (Builtin.append_ #[t, t] ty #[v, .slice A 0 c]).run P w = .ok v w := by
  rcases A with _ | ad
  · rcases hown.2 with ⟨rfl, rfl⟩ | ⟨g, cap, cur, rfl, _, _, hnc, _⟩
    · simp [Builtin.append_, run_underlying ht, sizeOf, typeInfo, hi, Builtin.lenOf, Builtin.firstCells]
    · simp [Builtin.append_, run_underlying ht, sizeOf, typeInfo, hi, Builtin.lenOf, Builtin.firstCells, hnc, storeCells]
  · rcases hown.2 with ⟨rfl, rfl⟩ | ⟨g, cap, cur, rfl, _, _, hnc, _⟩
    · simp [Builtin.append_, run_underlying ht, sizeOf, typeInfo, hi, Builtin.lenOf, Builtin.firstCells, loadCells, loadCellsFrom]
    · simp [Builtin.append_, run_underlying ht, sizeOf, typeInfo, hi, Builtin.lenOf, Builtin.firstCells, hnc, storeCells, loadCells, loadCellsFrom]

/-- The block of a slice's address. -/
def ob (A : Option Addr) : Option Nat := A.map (·.block)
theorem ownBlock_slice (A : Option Addr) (n c : Nat) : (Value.slice A n c).ownBlock = ob A := by cases A <;> rfl

theorem own_form {w : World} {base e size n : Nat} {v : Value} {xs : List Value} (h : w.ownsRow base e size v n xs) : ∃ A c, v = .slice A n c := by
  rcases h.2 with ⟨rfl, rfl⟩ | ⟨g, cap, cur, rfl, _⟩
  · exact ⟨_, _, rfl⟩
  · exact ⟨_, _, rfl⟩
theorem own_lt {w : World} {base e size n c : Nat} {A : Option Addr} {xs : List Value} (h : w.ownsRow base e size (.slice A n c) n xs) : ∀ g, ob A = some g → base ≤ g ∧ g < w.heap.size := by
  intro g hg
  exact h.lt g (by rw [ownBlock_slice]; exact hg)

theorem run_app {P : Program} (w : World) (base : Nat) (t ty e : TypeId) (i : TypeInfo) (z : Value) (size bytes : Nat) (ht : P.underlying t = some (.slice e)) (hi : P.info? e = some i) (hz : i.zero = some z)
    (hsize : i.size = size) (hby : i.bytes = bytes) (hzs : z.cells.size = size) (hsz : 0 < size)
    (A : Option Addr) (n c : Nat) (xs : List Value) (hown : w.ownsRow base e size (.slice A n c) n xs)
    (A2 : Option Addr) (m c2 : Nat) (news : List Value) (hr : Rd w A2 news) (hl : news.length = m * size) (h1 : ∀ u ∈ news, u.oneCell' = true)
    (h63 : n + m ≤ maxLen) (hbytes : (n + m) * bytes ≤ 140737488355328) (hbase : base ≤ w.heap.size) :
    ∃ A' c' w', (Builtin.append_ #[t, t] ty #[.slice A n c, .slice A2 m c2]).run P w = .ok (.slice A' (n + m) c') w' ∧ w'.ownsRow base e size (.slice A' (n + m) c') (n + m) (xs ++ news) ∧ w.grownBy w' (ob A) ∧
      (ob A' = ob A ∨ ob A' = some w.heap.size) := by
  rcases hr with rfl | ⟨g, off, rfl, hc⟩
  · have hm : m = 0 := by
      simp only [List.length_nil] at hl
      rcases Nat.eq_zero_or_pos m with h0 | h0
      · exact h0
      · have := Nat.mul_pos h0 hsz; omega
    subst hm
    exact ⟨A, c, w, run_append_of_nil w base t ty e i size ht hi _ n xs hown c2 A2, by simpa using hown, World.grownBy.refl w _, .inl rfl⟩
  · have hcells : ∀ j u, news[j]? = some u → w.cell? ((⟨g, off, none⟩ : Addr).add j) = some u := by
      intro j u hu
      have e : (⟨g, off, none⟩ : Addr).add j = ⟨g, off + j, none⟩ := by unfold Addr.add; split <;> simp_all
      rw [e]; exact hc j u hu
    obtain ⟨v', w', hrun, h2, h3, _, h5⟩ := run_append_own_at (P := P) w base t ty e i z size bytes ht hi hz hsize hby hzs hsz _ n xs hown ⟨g, off, none⟩ m c2 news hl hcells h1 h63 hbytes hbase
    obtain ⟨A', c', rfl⟩ := own_form h2
    rw [ownBlock_slice] at h3 h5
    rw [ownBlock_slice] at h5
    exact ⟨A', c', w', hrun, h2, h3, h5⟩

theorem wp_app {P : Program} (w : World) {o : Oper} {a : Act} {K : Act → World → Prop} {Q : Exit → Act → World → Prop} (s x : Operand) (t : TypeId)
    (ho : o.op = .call { callee := .builtin .append, args := #[s, x], argTypes := #[t, t] })
    (base : Nat) (e : TypeId) (i : TypeInfo) (z : Value) (size bytes : Nat) (ht : P.underlying t = some (.slice e)) (hi : P.info? e = some i) (hz : i.zero = some z)
    (hsize : i.size = size) (hby : i.bytes = bytes) (hzs : z.cells.size = size) (hsz : 0 < size)
    (A : Option Addr) (n c : Nat) (xs : List Value) (hs : a.eval s = .slice A n c) (hown : w.ownsRow base e size (.slice A n c) n xs)
    (A2 : Option Addr) (m c2 : Nat) (news : List Value) (hx : a.eval x = .slice A2 m c2) (hr : Rd w A2 news) (hl : news.length = m * size) (h1 : ∀ u ∈ news, u.oneCell' = true)
    (h63 : n + m ≤ maxLen) (hbytes : (n + m) * bytes ≤ 140737488355328) (hbase : base ≤ w.heap.size)
    (h : ∀ A' c' w', w'.ownsRow base e size (.slice A' (n + m) c') (n + m) (xs ++ news) → w.grownBy w' (ob A) → (ob A' = ob A ∨ ob A' = some w.heap.size) → K (a.put o.dst (.slice A' (n + m) c')) w') :
    o.wp P a w K Q := by
  obtain ⟨A', c', w', hrun, h2, h3, h4⟩ := run_app (P := P) w base t o.type e i z size bytes ht hi hz hsize hby hzs hsz A n c xs hown A2 m c2 news hr hl h1 h63 hbytes hbase
  unfold Oper.wp execOp
  simp only [ho, resolve, invoke, builtin, Sem.run_bind, Sem.run_pure, Result.andThen_ok, List.map_toArray, List.map_cons, List.map_nil, hs, hx, hrun]
  exact h A' c' w' h2 h3 h4

theorem wpList_app {P : Program} (w : World) {ops : Array Oper} {rest : List Oper} {o : Oper} {a : Act} {Q : Exit → Act → World → Prop} (hgd : o.guard = none) (s x : Operand) (t : TypeId)
    (ho : o.op = .call { callee := .builtin .append, args := #[s, x], argTypes := #[t, t] })
    (base : Nat) (e : TypeId) (i : TypeInfo) (z : Value) (size bytes : Nat) (ht : P.underlying t = some (.slice e)) (hi : P.info? e = some i) (hz : i.zero = some z)
    (hsize : i.size = size) (hby : i.bytes = bytes) (hzs : z.cells.size = size) (hsz : 0 < size)
    (A : Option Addr) (n c : Nat) (xs : List Value) (hs : a.eval s = .slice A n c) (hown : w.ownsRow base e size (.slice A n c) n xs)
    (A2 : Option Addr) (m c2 : Nat) (news : List Value) (hx : a.eval x = .slice A2 m c2) (hr : Rd w A2 news) (hl : news.length = m * size) (h1 : ∀ u ∈ news, u.oneCell' = true)
    (h63 : n + m ≤ maxLen) (hbytes : (n + m) * bytes ≤ 140737488355328) (hbase : base ≤ w.heap.size)
    (h : ∀ A' c' w', w'.ownsRow base e size (.slice A' (n + m) c') (n + m) (xs ++ news) → w.grownBy w' (ob A) → (ob A' = ob A ∨ ob A' = some w.heap.size) → wpList P ops Q rest (a.put o.dst (.slice A' (n + m) c')) w') :
    wpList P ops Q (o :: rest) a w :=
  wpList_plain hgd fun _ hK => wp_app w s x t ho base e i z size bytes ht hi hz hsize hby hzs hsz A n c xs hs hown A2 m c2 news hx hr hl h1 h63 hbytes hbase fun A' c' w' h2 h3 h4 => hK _ _ (h A' c' w' h2 h3 h4)

theorem rd_new (w : World) (t : TypeId) (cs : Array Value) : Rd (w.alloc (.cells cs t)) (some ⟨w.heap.size, 0, none⟩) cs.toList :=
  .inr ⟨_, 0, rfl, fun j u hu => by rw [(Blk.new w t cs).cell]; simpa using hu⟩
theorem rd_newC (w : World) (t : TypeId) (x y : Int) : Rd (w.alloc (.cells #[.int .i64 x, .int .i64 y] t)) (some ⟨w.heap.size, 0, none⟩) (vC [(x, y)]) := rd_new w t _
theorem rd_newI (w : World) (t : TypeId) (x : Int) : Rd (w.alloc (.cells #[.int .i64 x] t)) (some ⟨w.heap.size, 0, none⟩) (vI [x]) := rd_new w t _
theorem rd_newS (w : World) (t : TypeId) (h : H) : Rd (w.alloc (.cells #[hd h] t)) (some ⟨w.heap.size, 0, none⟩) (vS [h]) := rd_new w t _
theorem own_new (w : World) (t : TypeId) (size n : Nat) (cs : Array Value) (hs : cs.size = n * size) (hm : n ≤ maxLen) {base : Nat} (hb : base ≤ w.heap.size) :
    (w.alloc (.cells cs t)).ownsRow base t size (.slice (some ⟨w.heap.size, 0, none⟩) n n) n cs.toList :=
  ⟨by simpa using hs, .inr ⟨_, n, cs, rfl, hb, heap_alloc_new w _, Nat.le_refl _, hm, hs, by rw [← hs, ← Array.length_toList, List.take_length]⟩⟩
theorem own_newC (w : World) (t : TypeId) (x y : Int) {base : Nat} (hb : base ≤ w.heap.size) :
    (w.alloc (.cells #[.int .i64 x, .int .i64 y] t)).ownsRow base t 2 (.slice (some ⟨w.heap.size, 0, none⟩) 1 1) 1 (vC [(x, y)]) := own_new w t 2 1 _ rfl (by simp [maxLen]) hb
/-- What is owned stays so where its block is as it was. -/
theorem own_keep {w w' : World} {base e size n c : Nat} {A : Option Addr} {xs : List Value} (h : w.ownsRow base e size (.slice A n c) n xs) (hb : Below w.heap.size w w') : w'.ownsRow base e size (.slice A n c) n xs := by
  refine ⟨h.1, ?_⟩
  rcases h.2 with hn | ⟨g, cap, cur, hv, hg, hgg, rest⟩
  · exact .inl hn
  · exact .inr ⟨g, cap, cur, hv, hg, by rw [hb.block g (Array.getElem?_eq_some_iff.1 hgg).1]; exact hgg, rest⟩
theorem own_set {w : World} {base e size n c : Nat} {A : Option Addr} {xs : List Value} (h : w.ownsRow base e size (.slice A n c) n xs) {p : Addr} (hp : ∀ g, ob A = some g → g ≠ p.block) (u : Value) : (w.setCell p u).ownsRow base e size (.slice A n c) n xs := by
  refine ⟨h.1, ?_⟩
  rcases h.2 with hn | ⟨g, cap, cur, hv, hg, hgg, rest⟩
  · exact .inl hn
  · refine .inr ⟨g, cap, cur, hv, hg, ?_, rest⟩
    injection hv with hA
    subst hA
    rw [Below.heap_setCell w p u g (hp g rfl)]; exact hgg
theorem own_base {w : World} {base base' e size n c : Nat} {A : Option Addr} {xs : List Value} (h : w.ownsRow base e size (.slice A n c) n xs) (hb : base' ≤ base) : w.ownsRow base' e size (.slice A n c) n xs := by
  refine ⟨h.1, ?_⟩
  rcases h.2 with hn | ⟨g, cap, cur, hv, hg, hgg, rest⟩
  · exact .inl hn
  · exact .inr ⟨g, cap, cur, hv, Nat.le_trans hb hg, hgg, rest⟩
theorem Rd.grown {w w' : World} {A : Option Addr} {vs : List Value} {row : Option Nat} (h : Rd w A vs) (hg : w.grownBy w' row) (hne : ∀ g, ob A = some g → some g ≠ row) : Rd w' A vs := by
  rcases h with h | ⟨g, off, rfl, h⟩
  · exact .inl h
  · exact .inr ⟨g, off, rfl, fun j u hu => (World.cell?_of_block (w := w) (hg.block g (World.block_lt_of_cell? w _ (h j u hu)) (hne g rfl))).trans (h j u hu)⟩
theorem bel_app {a w w' : World} {A : Option Addr} (h : Below a.heap.size a w) (hg : w.grownBy w' (ob A)) (hr : ∀ g, ob A = some g → a.heap.size ≤ g) : Below a.heap.size a w' := bel_grown h hg hr

/-- A pair laid ahead of a call and written behind it. -/
theorem blk_set2 {w w1 : World} {t : TypeId} {x y u v : Value} (hb : Below (w.alloc (.cells #[x, y] t)).drew.heap.size (w.alloc (.cells #[x, y] t)).drew w1) :
    Blk ((w1.setCell ⟨w.heap.size, 0, none⟩ u).setCell ⟨w.heap.size, 1, none⟩ v) w.heap.size t #[u, v] := by
  have h := (((Blk.new w t #[x, y]).drew.below hb).set_ 0 u).set_ 1 v
  simpa using h

/-- A result that is no memory; nothing that was there has turned. -/
def Ret (w : World) (v : Value) (e : Ending) (w' : World) : Prop := e = .returned v ∧ Below w.heap.size w w'
/-- A result that is a slice of the call's own: its cells are vs. -/
def RetS (w : World) (E sz : Nat) (vs : List Value) (e : Ending) (w' : World) : Prop :=
  ∃ A n c, e = .returned (.slice A n c) ∧ w'.ownsRow w.heap.size E sz (.slice A n c) n vs ∧ Below w.heap.size w w'
/-- The same beside a second result. -/
def RetS2 (w : World) (E sz : Nat) (vs : List Value) (v : Value) (e : Ending) (w' : World) : Prop :=
  ∃ A n c, e = .returned (.tuple #[.slice A n c, v]) ∧ w'.ownsRow w.heap.size E sz (.slice A n c) n vs ∧ Below w.heap.size w w'

theorem ret_bool {a b : Bool} (h : a = b) : Ending.returned (.bool a) = .returned (.bool b) := by rw [h]
theorem ret_int {k : IntKind} {a b : Int} (h : a = b) : Ending.returned (.int k a) = .returned (.int k b) := by rw [h]
theorem ret_str {a b : ByteArray} (h : a = b) : Ending.returned (.string a) = .returned (.string b) := by rw [h]

theorem own_len {w : World} {base e size n : Nat} {v : Value} {xs : List Value} (h : w.ownsRow base e size v n xs) : xs.length = n * size := h.1
theorem own_nil (w : World) (base e size : Nat) : w.ownsRow base e size (.slice none 0 0) 0 [] := World.ownsRow_nil w base e size
end Go.Proofs.Ytegnedpikpfjfaa

/- The row's last step, out of 'Below': all that was there reads as it did. -/
namespace Go.Proofs.Ytegnedpikpfjfaa
open Go.RowKit Go.WideShapes Go.ChangeShapes
set_option linter.unusedVariables false
theorem own_prog : ownKnob Try.prog.godebug = none := by kernel_rfl
section
variable {H : Type} {enc : TypeId × Value → H} {P : Program}
theorem post_of_below {f : Func} {s : ChangeSpec} {apart fresh handsOn again : Bool} {W W' : World} {args : Array Value} {v : Value} {ds gs : List (DataW H)} {before pa pv : List MemPlace}
    (hW : DataW.Whole enc P f.params.toList s.vars apart W args.toList ds gs before)
    (hres : ∀ (b : Nat) (sp : Nat → Bool) (hd : Bool), DataW.TrodAll enc P W' b sp hd f.resultTypes.toList (v.resultList f.resultTypes.size) (s.fn H (ds ++ gs)).results [])
    (hargs : ∀ sp : Nat → Bool, (∀ p ∈ before, sp p.block = true) → DataW.TrodAll enc P W' 0 sp true f.params.toList args.toList (s.fn H (ds ++ gs)).args pa)
    (hvars : ∀ sp : Nat → Bool, (∀ p ∈ before, sp p.block = true) → DataW.TrodVars enc P W' sp s.vars (s.fn H (ds ++ gs)).vars pv)
    (hps : before = pa ++ pv) (hb : Below W.heap.size W W')
    (hok : ∀ (j : Nat) (t : TypeId) (r : Value), f.resultTypes[j]? = some t → (v.resultList f.resultTypes.size)[j]? = some r → Value.okWide P W' .any 0 t r) :
    s.post enc P f apart fresh handsOn again W args v W' := by
  have hlt : ∀ p ∈ before, p.block < W.heap.size := fun p hp => hW.lt p hp
  have hold : ∀ p ∈ before, (fun b => decide (b < W.heap.size)) p.block = true := fun p hp => by simpa using hlt p hp
  refine ⟨ds, gs, before, [], pa, pv, hW, hres _ _ _, hargs _ hold, hvars _ hold, World.keptBut_mono (fun p hp => ⟨hp, ?_⟩) (hb.frame (· ∈ before)), fun _ => ?_⟩
  · rw [hps, List.mem_append] at hp
    exact Or.inr hp
  · obtain ⟨_, _, _, _, _, hz, hn⟩ := hW
    refine ⟨hok, _, _, ([] ++ pa) ++ pv, ⟨[] ++ pa, pv, trodAll_append (hargs _ (fun _ _ => rfl)) (hres _ _ _), hvars _ (fun _ _ => rfl), rfl, ?_, ?_⟩, ?_⟩
    · intro b off hp
      have hin : MemPlace.cell b off ∈ before := by rw [hps]; simpa using hp
      rw [hb.frozen (hlt _ hin)]
      exact hz b off hin
    · intro ha
      have := hn ha
      rw [hps] at this
      simpa using this
    · intro p hp _
      rw [hps]
      simpa using hp

theorem trodAll_stays (hl : laidOutB P = true) {W W' : World} {sp' : Nat → Bool} : ∀ (ts : List TypeId) (vs : List Value) (ds : List (DataW H)) (ps : List MemPlace), (ts.all fun t => P.readableRec t && decide (t < P.types.size)) = true →
    DataW.TrodAll enc P W 0 (fun _ => true) true ts vs ds ps → (∀ p ∈ ps, W.sameAt W' p) → (∀ p ∈ ps, sp' p.block = true) → DataW.TrodAll enc P W' 0 sp' true ts vs ds ps
  | [], vs, ds, ps, _, h, _, _ => by
    obtain ⟨rfl, rfl, rfl⟩ := trodAll_nil h
    rfl
  | t :: ts, vs, ds, ps, ht, h, h1, h2 => by
    obtain ⟨v, vs', d, ds', p, q, rfl, rfl, rfl, ha, hb⟩ := trodAll_cons h
    simp only [List.all_cons, Bool.and_eq_true, decide_eq_true_eq] at ht
    exact ⟨p, q, WideElems.Trod_stays hl ht.1.1 ht.1.2 ha (fun x hx => h1 x (by simp [hx])) (fun x hx => h2 x (by simp [hx])),
      trodAll_stays hl ts vs' ds' q ht.2 hb (fun x hx => h1 x (by simp [hx])) (fun x hx => h2 x (by simp [hx])), rfl⟩

/-- The row's step for a law: it returned true, and nothing that was there has turned. -/
theorem post_law {f : Func} {s : ChangeSpec} {apart fresh handsOn again : Bool} {W W' : World} {args : Array Value} {ds : List (DataW H)} {before : List MemPlace} {tb : TypeId}
    (hl : laidOutB P = true) (hty : (f.params.toList.all fun t => P.readableRec t && decide (t < P.types.size)) = true) (hres : f.resultTypes = #[tb]) (htb : P.underlying tb = some .bool) (hsv : s.vars = [])
    (hW : DataW.Whole enc P f.params.toList s.vars apart W args.toList ds [] before) (hA : DataW.TrodAll enc P W 0 (fun _ => true) true f.params.toList args.toList ds before)
    (hfn : s.fn H (ds ++ []) = { results := [.lit (.bool true)], args := ds }) (hb : Below W.heap.size W W') :
    s.post enc P f apart fresh handsOn again W args (.bool true) W' := by
  have hlt : ∀ p ∈ before, p.block < W.heap.size := fun p hp => hW.lt p hp
  refine post_of_below (pa := before) (pv := []) hW ?_ ?_ ?_ (by simp) hb ?_
  · intro b sp hd
    rw [hfn, hres]
    exact trodAll_cons_mk (shut_bool htb _) trodAll_mk0
  · intro sp hsp
    rw [hfn]
    exact trodAll_stays hl _ _ _ _ hty hA (fun p hp => hb.same (hlt p hp)) hsp
  · intro sp hsp
    rw [hfn, hsv]
    rfl
  · exact ok_one hres rfl (okWide_bool_mk htb _)
end

theorem laid_prog : laidOutB Try.prog = true := by kernel_rfl
theorem cellsI : Try.prog.cellsOf 3 = 1 := by kernel_rfl

section
variable {H : Type} {enc : TypeId × Value → H}
set_option maxRecDepth 100000 in
/-- An argument that is a slice of integers. -/
theorem openI {W : World} {r : Reach} {b0 : Nat} {t : TypeId} (ht : Try.prog.underlying t = some (.slice 3)) {base : Nat} {spare : Nat → Bool} {held : Bool} {v : Value} {d : DataW H} {p : List MemPlace} (hv : Value.okWide Try.prog W r b0 t v) (h : DataW.Trod enc Try.prog W base spare held t v d p) :
    ∃ A n c xs, v = .slice A n c ∧ Rd W A (vI xs) ∧ xs.length = n ∧ n ≤ maxLen := by
  obtain ⟨a0, len, cap, rfl⟩ := okWide_slice ht hv
  obtain ⟨fuel, hf⟩ := h
  rcases open_ints ht Try.underlying3 cellsI hf with ⟨hcs, hx⟩ | ⟨a, len', cap', zs, hcs, _, hl, hm, hz, hx, hcell, hwz⟩
  · simp [Value.cells] at hcs
    obtain ⟨rfl, rfl, rfl⟩ := hcs
    exact ⟨none, 0, 0, [], rfl, .inl rfl, rfl, Nat.zero_le _⟩
  · simp [Value.cells] at hcs
    obtain ⟨rfl, rfl, rfl⟩ := hcs
    have hzl : len ≤ zs.length := by rw [hz]; split <;> omega
    refine ⟨_, _, _, zs.take len, rfl, ?_, by rw [List.length_take]; omega, by omega⟩
    by_cases h0 : 0 < zs.length
    · obtain ⟨b, off, rfl, hc⟩ := ints_at hcell h0
      refine .inr ⟨b, off, rfl, fun j u hu => ?_⟩
      simp only [vI, List.getElem?_map, Option.map_eq_some_iff] at hu
      obtain ⟨x, hx, rfl⟩ := hu
      have hjl : j < len := by
        rcases Nat.lt_or_ge j len with h | h
        · exact h
        · rw [List.getElem?_eq_none (by rw [List.length_take]; omega)] at hx; cases hx
      rw [List.getElem?_take_of_lt hjl] at hx
      rw [hc j (by omega), List.getD_eq_getElem?_getD, hx]
      rfl
    · left
      rw [List.eq_nil_of_length_eq_zero (by omega : zs.length = 0)]
      simp [vI]
end
end Go.Proofs.Ytegnedpikpfjfaa

/- Plain functions on words of steps: a step, the places of a way, the area, the way back. No program is in sight. -/
namespace Go.Proofs.Ytegnedpikpfjfaa
open Go.RowKit
set_option linter.unusedVariables false

/-- A step by a letter; a letter that is no step leads nowhere. -/
def stepW (c : C) (b : UInt8) : Option C :=
  if b = 114 then some (wrap64 (c.1 + 1), c.2) else if b = 108 then some (wrap64 (c.1 - 1), c.2) else if b = 100 then some (c.1, wrap64 (c.2 + 1)) else if b = 117 then some (c.1, wrap64 (c.2 - 1)) else none

theorem u8_of {b : UInt8} (k : UInt8) (h : ((b.toNat : Int) == (k.toNat : Int)) = true) : b = k := by
  have := beq_iff_eq.1 h
  exact UInt8.toNat_inj.1 (by omega)
theorem u8_ne {b : UInt8} (k : UInt8) (h : ((b.toNat : Int) == (k.toNat : Int)) = false) : b ≠ k := by
  rintro rfl
  simp at h
theorem u8_is (b k : UInt8) : ((b.toNat : Int) == (k.toNat : Int)) = decide (b = k) := by
  rw [Bool.eq_iff_iff, beq_iff_eq, decide_eq_true_eq, ← UInt8.toNat_inj]; omega

/-- The places of a way, the start first. -/
def wayW (c : C) : List UInt8 → Option (List C)
  | [] => some [c]
  | b :: t => (stepW c b).bind fun d => (wayW d t).map (c :: ·)
/-- Where a way ends. -/
def endW (c : C) : List UInt8 → Option C
  | [] => some c
  | b :: t => (stepW c b).bind fun d => endW d t

theorem wayW_len {c : C} {w : List UInt8} {l : List C} (h : wayW c w = some l) : l.length = w.length + 1 := by
  induction w generalizing c l with
  | nil => simp [wayW] at h; subst h; rfl
  | cons b t ih =>
    simp only [wayW, Option.bind_eq_some_iff, Option.map_eq_some_iff] at h
    obtain ⟨d, _, l', h', rfl⟩ := h
    simp [ih h']
theorem endW_snoc (c : C) (t : List UInt8) (b : UInt8) : endW c (t ++ [b]) = (endW c t).bind fun d => stepW d b := by
  induction t generalizing c with
  | nil => simp [endW]
  | cons a t ih =>
    simp only [List.cons_append, endW]
    cases stepW c a with
    | none => rfl
    | some d => exact ih d
theorem wayW_snoc (c : C) (t : List UInt8) (b : UInt8) : wayW c (t ++ [b]) = (wayW c t).bind fun l => (endW c t).bind fun d => (stepW d b).map fun e => l ++ [e] := by
  induction t generalizing c with
  | nil => simp [wayW, endW]; cases stepW c b <;> simp
  | cons a t ih =>
    simp only [List.cons_append, wayW, endW]
    cases stepW c a with
    | none => rfl
    | some d =>
      simp only [Option.bind_some, ih]
      cases wayW d t <;> simp
      cases endW d t <;> simp
      rename_i x y
      cases stepW y b <;> simp
theorem endW_of_way {c : C} {w : List UInt8} {l : List C} (h : wayW c w = some l) : endW c w = l.getLast? := by
  induction w generalizing c l with
  | nil => simp [wayW] at h; subst h; rfl
  | cons b t ih =>
    simp only [wayW, Option.bind_eq_some_iff, Option.map_eq_some_iff] at h
    obtain ⟨d, hd, l', h', rfl⟩ := h
    simp only [endW, hd, Option.bind_some, ih h']
    cases l' with
    | nil => have := wayW_len h'; simp at this
    | cons x y => simp [List.getLast?_cons_cons]
theorem wayW_none {c : C} {w : List UInt8} : wayW c w = none ↔ endW c w = none := by
  induction w generalizing c with
  | nil => simp [wayW, endW]
  | cons b t ih =>
    simp only [wayW, endW]
    cases stepW c b with
    | none => simp
    | some d => simp [ih]
/-- A way that breaks off breaks off for good. -/
theorem endW_none_append {c : C} {t : List UInt8} (h : endW c t = none) (r : List UInt8) : endW c (t ++ r) = none := by
  induction t generalizing c with
  | nil => simp [endW] at h
  | cons a t ih =>
    simp only [List.cons_append, endW] at h ⊢
    cases hs : stepW c a with
    | none => rfl
    | some d => rw [hs] at h; exact ih h

theorem take_snoc (s : ByteArray) (k : Nat) (h : k < s.size) : s.data.toList.take (k + 1) = s.data.toList.take k ++ [s[k]] := by
  rw [List.take_succ_eq_append_getElem (by simpa using h)]; rfl
theorem take_all (s : ByteArray) : s.data.toList.take s.size = s.data.toList := List.take_of_length_le (by rw [Array.length_toList]; exact Nat.le_refl _)
theorem end_step (s : ByteArray) (k : Nat) (h : k < s.size) (c d : C) (hd : endW c (s.data.toList.take k) = some d) : endW c (s.data.toList.take (k + 1)) = stepW d s[k] := by
  rw [take_snoc s k h, endW_snoc, hd]; rfl
theorem way_step (s : ByteArray) (k : Nat) (h : k < s.size) (c d : C) (l : List C) (hl : wayW c (s.data.toList.take k) = some l) (hd : endW c (s.data.toList.take k) = some d) :
    wayW c (s.data.toList.take (k + 1)) = (stepW d s[k]).map fun e => l ++ [e] := by
  rw [take_snoc s k h, wayW_snoc, hl, hd]; rfl
theorem way_end {c : C} {w : List UInt8} {l : List C} (h : wayW c w = some l) : endW c w = some (l.getD w.length (0, 0)) := by
  rw [endW_of_way h, List.getLast?_eq_getElem?, wayW_len h, Nat.add_sub_cancel, List.getD_eq_getElem?_getD, List.getElem?_eq_getElem (by rw [wayW_len h]; omega)]
  rfl
theorem end_none_of_take {c : C} {s : ByteArray} {k : Nat} (h : endW c (s.data.toList.take k) = none) : endW c s.data.toList = none := by
  have := endW_none_append h (s.data.toList.drop k)
  rwa [List.take_append_drop] at this

/-- A closed word: at most 40 steps that lead back. -/
def closedW (w : List UInt8) : Bool := decide (w.length ≤ 40) && decide (endW (0, 0) w = some (0, 0))

theorem end_take {c e : C} {t : List UInt8} (h : endW c t = some e) (k : Nat) : ∃ d, endW c (t.take k) = some d := by
  cases hd : endW c (t.take k) with
  | some d => exact ⟨d, rfl⟩
  | none =>
    have := endW_none_append hd (t.drop k)
    rw [List.take_append_drop, h] at this
    cases this
theorem wayW_take {c : C} {t : List UInt8} {l : List C} (h : wayW c t = some l) (k : Nat) : wayW c (t.take k) = some (l.take (k + 1)) := by
  induction t generalizing c l k with
  | nil => simp [wayW] at h; subst h; simp [wayW]
  | cons b t ih =>
    cases k with
    | zero =>
      simp only [wayW, Option.bind_eq_some_iff, Option.map_eq_some_iff] at h
      obtain ⟨d, hd, l', h', rfl⟩ := h
      simp [wayW]
    | succ k =>
      simp only [wayW, Option.bind_eq_some_iff, Option.map_eq_some_iff] at h
      obtain ⟨d, hd, l', h', rfl⟩ := h
      simp [wayW, hd, ih h' k]
theorem way_at {c : C} {t : List UInt8} {l : List C} (h : wayW c t = some l) (k : Nat) (hk : k ≤ t.length) : endW c (t.take k) = some (l.getD k (0, 0)) := by
  have h1 := way_end (wayW_take h k)
  rw [List.length_take, Nat.min_eq_left hk] at h1
  rw [h1, List.getD_eq_getElem?_getD, List.getD_eq_getElem?_getD, List.getElem?_take_of_lt (by omega)]

/-- The area inside: a step to the left adds the height, one to the right takes it away. -/
def areaS (n : Int) (b : UInt8) (c : C) : Int := if b = 114 then wrap64 (n - c.2) else if b = 108 then wrap64 (n + c.2) else n
def areaW (c : C) : List UInt8 → Int → Int
  | [], n => n
  | b :: t, n => areaW ((stepW c b).getD c) t (areaS n b c)
theorem areaW_snoc {c d : C} {t : List UInt8} (b : UInt8) (n : Int) (h : endW c t = some d) : areaW c (t ++ [b]) n = areaS (areaW c t n) b d := by
  induction t generalizing c n with
  | nil => simp [endW] at h; subst h; rfl
  | cons a t ih =>
    simp only [endW, Option.bind_eq_some_iff] at h
    obtain ⟨e, he, h'⟩ := h
    simp only [List.cons_append, areaW, he, Option.getD_some]
    exact ih _ h'
theorem area_step (s : ByteArray) (k : Nat) (h : k < s.size) (c d : C) (n : Int) (hd : endW c (s.data.toList.take k) = some d) :
    areaW c (s.data.toList.take (k + 1)) n = areaS (areaW c (s.data.toList.take k) n) s[k] d := by
  rw [take_snoc s k h, areaW_snoc _ _ hd]
def areaV (s : ByteArray) : Value := if closedW s.data.toList = true then .tuple #[.int .i64 (areaW (0, 0) s.data.toList 0), .bool true] else .tuple #[.int .i64 0, .bool false]
theorem data_len (s : ByteArray) : s.data.toList.length = s.size := by rw [Array.length_toList]; rfl
theorem closedW_of {s : ByteArray} (h40 : s.size ≤ 40) (e : C) (h : endW (0, 0) s.data.toList = some e) : closedW s.data.toList = (e.1 == 0 && e.2 == 0) := by
  unfold closedW
  rw [data_len, h]
  obtain ⟨x, y⟩ := e
  by_cases h1 : x = 0 <;> by_cases h2 : y = 0 <;> simp [h1, h2, h40]
theorem closedW_far {s : ByteArray} (h40 : ¬ s.size ≤ 40) : closedW s.data.toList = false := by
  unfold closedW
  rw [data_len]
  simp [h40]
theorem closedW_none {s : ByteArray} (h : endW (0, 0) s.data.toList = none) : closedW s.data.toList = false := by
  unfold closedW
  rw [h]
  simp
theorem closedW_yes {s : ByteArray} (h : closedW s.data.toList = true) : s.size ≤ 40 ∧ endW (0, 0) s.data.toList = some (0, 0) := by
  unfold closedW at h
  rw [data_len] at h
  simpa using h

/-- The way back. -/
def oppS (b : UInt8) : UInt8 := if b = 114 then 108 else if b = 100 then 117 else if b = 108 then 114 else 100
def isS (b : UInt8) : Bool := b == 114 || b == 108 || b == 100 || b == 117
def revW (w : List UInt8) : List UInt8 := w.reverse.map oppS
/-- The letter of the step from one place to another. -/
def stepV (a b : C) : UInt8 := if b.1 > a.1 then 114 else if b.1 < a.1 then 108 else if b.2 > a.2 then 100 else 117
theorem stepW_some {c : C} {b : UInt8} : (stepW c b).isSome = isS b := by
  unfold stepW isS
  by_cases h1 : b = 114 <;> by_cases h2 : b = 108 <;> by_cases h3 : b = 100 <;> by_cases h4 : b = 117 <;> simp [h1, h2, h3, h4]
theorem wayW_all {c : C} {w : List UInt8} : (wayW c w).isSome = w.all isS := by
  induction w generalizing c with
  | nil => rfl
  | cons b t ih =>
    simp only [wayW, List.all_cons]
    cases h : stepW c b with
    | none => have := stepW_some (c := c) (b := b); rw [h] at this; simp [← this]
    | some d => have := stepW_some (c := c) (b := b); rw [h] at this; simp [← this, ih]
theorem stepW_val {x y : Int} {b : UInt8} {d : C} (h : stepW (x, y) b = some d) (hx : -1000 ≤ x ∧ x ≤ 1000) (hy : -1000 ≤ y ∧ y ≤ 1000) :
    d = if b = 114 then (x + 1, y) else if b = 108 then (x - 1, y) else if b = 100 then (x, y + 1) else (x, y - 1) := by
  have e1 : wrap64 (x + 1) = x + 1 := IntWalk.wrap64_in _ (by omega)
  have e2 : wrap64 (x - 1) = x - 1 := IntWalk.wrap64_in _ (by omega)
  have e3 : wrap64 (y + 1) = y + 1 := IntWalk.wrap64_in _ (by omega)
  have e4 : wrap64 (y - 1) = y - 1 := IntWalk.wrap64_in _ (by omega)
  unfold stepW at h
  rw [e1, e2, e3, e4] at h
  by_cases h1 : b = 114
  · simp [h1] at h ⊢; exact h.symm
  by_cases h2 : b = 108
  · simp [h2] at h ⊢; exact h.symm
  by_cases h3 : b = 100
  · simp [h3] at h ⊢; exact h.symm
  by_cases h4 : b = 117
  · simp [h4] at h ⊢; exact h.symm
  simp [h1, h2, h3, h4] at h
theorem endW_bound {c d : C} {t : List UInt8} (h : endW c t = some d) (m : Nat) (hm : m + t.length ≤ 1000) (hc : (-(m : Int) ≤ c.1 ∧ c.1 ≤ m) ∧ (-(m : Int) ≤ c.2 ∧ c.2 ≤ m)) :
    (-((m + t.length : Nat) : Int) ≤ d.1 ∧ d.1 ≤ ((m + t.length : Nat) : Int)) ∧ (-((m + t.length : Nat) : Int) ≤ d.2 ∧ d.2 ≤ ((m + t.length : Nat) : Int)) := by
  induction t generalizing c m with
  | nil => simp [endW] at h; subst h; simpa using hc
  | cons b t ih =>
    simp only [endW, Option.bind_eq_some_iff] at h
    obtain ⟨e, he, h'⟩ := h
    simp only [List.length_cons] at hm ⊢
    obtain ⟨x, y⟩ := c
    simp only at hc
    have hv := stepW_val he (by omega) (by omega)
    have := ih h' (m + 1) (by omega) (by
      rw [hv]
      split
      · constructor <;> constructor <;> simp only <;> omega
      split
      · constructor <;> constructor <;> simp only <;> omega
      split
      · constructor <;> constructor <;> simp only <;> omega
      · constructor <;> constructor <;> simp only <;> omega)
    rw [show m + (t.length + 1) = m + 1 + t.length from by omega]
    exact this
theorem stepV_back {x y : Int} {b : UInt8} {d : C} (h : stepW (x, y) b = some d) (hx : -1000 ≤ x ∧ x ≤ 1000) (hy : -1000 ≤ y ∧ y ≤ 1000) : stepV d (x, y) = oppS b := by
  have hs : isS b = true := by rw [← stepW_some (c := (x, y)), h]; rfl
  have hv := stepW_val h hx hy
  subst hv
  unfold stepV oppS
  by_cases h1 : b = 114
  · subst h1
    have a1 : ¬ x > x + 1 := by omega
    have a2 : x < x + 1 := by omega
    simp only [if_true, a1, a2, if_false]
  by_cases h2 : b = 108
  · subst h2
    have a1 : x > x - 1 := by omega
    simp [a1]
  by_cases h3 : b = 100
  · subst h3
    have a1 : ¬ y > y + 1 := by omega
    simp [a1]
  by_cases h4 : b = 117
  · subst h4
    have a1 : y > y - 1 := by omega
    simp [a1]
  simp [isS, h1, h2, h3, h4] at hs
theorem revW_drop (s : ByteArray) (k : Nat) (h : k < s.size) : revW (s.data.toList.drop k) = revW (s.data.toList.drop (k + 1)) ++ [oppS s[k]] := by
  unfold revW
  rw [List.drop_eq_getElem_cons (by rw [data_len]; exact h), List.reverse_cons, List.map_append]
  rfl
theorem all_drop (s : ByteArray) (k : Nat) (h : k < s.size) : (s.data.toList.drop k).all isS = (isS s[k] && (s.data.toList.drop (k + 1)).all isS) := by
  rw [List.drop_eq_getElem_cons (by rw [data_len]; exact h), List.all_cons]
  rfl
def bs (l : List UInt8) : ByteArray := ⟨l.toArray⟩
theorem bs_of {o : ByteArray} {l : List UInt8} (h : o.data.toList = l) : o = bs l := by
  subst h
  unfold bs
  cases o
  rfl
def revV (s : ByteArray) : Value := if s.size ≤ 20 ∧ s.data.toList.all isS = true then .tuple #[.string (bs (revW s.data.toList)), .bool true] else .tuple #[.string (bs []), .bool false]
end Go.Proofs.Ytegnedpikpfjfaa

/- Lists in a strict order, each element once: the reference's insertion, the program's search, a sorted list without repetitions. No program is in sight. -/
namespace Go.Proofs.Ytegnedpikpfjfaa
open Go.RowKit
set_option linter.unusedVariables false
/-- A strict total order. -/
structure STO {α : Type} (lt : α → α → Bool) : Prop where
  irr : ∀ a, lt a a = false
  trans : ∀ {a b c}, lt a b = true → lt b c = true → lt a c = true
  tot : ∀ {a b}, lt a b = false → lt b a = false → a = b
section
variable {α : Type} {lt : α → α → Bool}
abbrev IncG (lt : α → α → Bool) (l : List α) : Prop := l.Pairwise (fun a b => lt a b = true)
theorem STO.asym (h : STO lt) {a b : α} (k : lt a b = true) : lt b a = false := by
  cases hb : lt b a with
  | false => rfl
  | true => rw [← h.irr a, ← h.trans k hb]
theorem incG_eq (h : STO lt) : ∀ (a b : List α), IncG lt a → IncG lt b → (∀ x, x ∈ a ↔ x ∈ b) → a = b
  | [], [], _, _, _ => rfl
  | [], y :: t, _, _, h => absurd ((h y).2 (by simp)) (by simp)
  | x :: s, [], _, _, h => absurd ((h x).1 (by simp)) (by simp)
  | x :: s, y :: t, ha, hb, hm => by
    obtain ⟨a1, a2⟩ := List.pairwise_cons.1 ha
    obtain ⟨b1, b2⟩ := List.pairwise_cons.1 hb
    have hxy : x = y := by
      refine h.tot ?_ ?_
      · rcases List.mem_cons.1 ((hm y).2 (by simp)) with h2 | h2
        · rw [← h2]; exact h.irr _
        · cases he : lt x y with
          | false => rfl
          | true =>
            rcases List.mem_cons.1 ((hm x).1 (by simp)) with h3 | h3
            · rw [h3] at he; rw [h.irr] at he; cases he
            · have := b1 x h3; rw [h.asym this] at he; cases he
      · rcases List.mem_cons.1 ((hm y).2 (by simp)) with h2 | h2
        · rw [← h2]; exact h.irr _
        · exact h.asym (a1 y h2)
    subst hxy
    congr 1
    refine incG_eq h s t a2 b2 fun z => ⟨fun hz => ?_, fun hz => ?_⟩
    · rcases List.mem_cons.1 ((hm z).1 (by simp [hz])) with h2 | h2
      · have := a1 z hz; rw [h2, h.irr] at this; cases this
      · exact h2
    · rcases List.mem_cons.1 ((hm z).2 (by simp [hz])) with h2 | h2
      · have := b1 z hz; rw [h2, h.irr] at this; cases this
      · exact h2
/-- An element put between those that are less and those that are greater. -/
theorem ins_inc {l : List α} (h : IncG lt l) (n : α) (k : Nat) (hf : ∀ x ∈ l.take k, lt x n = true) (hb : ∀ x ∈ l.drop k, lt n x = true) :
    IncG lt (l.take k ++ [n] ++ l.drop k) ∧ ∀ x, x ∈ l.take k ++ [n] ++ l.drop k ↔ x ∈ l ∨ x = n := by
  refine ⟨?_, fun x => ?_⟩
  · rw [IncG, List.append_assoc, List.pairwise_append]
    refine ⟨List.Pairwise.sublist (List.take_sublist _ _) h, ?_, fun x hx y hy => ?_⟩
    · rw [List.singleton_append, List.pairwise_cons]
      exact ⟨hb, List.Pairwise.sublist (List.drop_sublist _ _) h⟩
    · rcases List.mem_append.1 hy with hy | hy
      · simp only [List.mem_singleton] at hy; rw [hy]; exact hf x hx
      · rw [← List.take_append_drop k l, IncG, List.pairwise_append] at h
        exact h.2.2 x hx y hy
  · simp only [List.mem_append, List.mem_singleton]
    constructor
    · rintro ((h1 | h1) | h1)
      · exact .inl (List.mem_of_mem_take h1)
      · exact .inr h1
      · exact .inl (List.mem_of_mem_drop h1)
    · rintro (h1 | h1)
      · rw [← List.take_append_drop k l] at h1
        rcases List.mem_append.1 h1 with h2 | h2
        · exact .inl (.inl h2)
        · exact .inr h2
      · exact .inl (.inr h1)
/-- In order, those that are less stand in front. -/
theorem incG_split (hO : STO lt) (n : α) : ∀ {l : List α}, IncG lt l → (∀ x ∈ l.take (l.countP fun x => lt x n), lt x n = true) ∧ (∀ x ∈ l.drop (l.countP fun x => lt x n), lt x n = false)
  | [], _ => by simp
  | a :: t, h => by
    obtain ⟨h1, h2⟩ := List.pairwise_cons.1 h
    obtain ⟨i1, i2⟩ := incG_split hO n h2
    cases ha : lt a n with
    | true =>
      have e : (a :: t).countP (fun x => lt x n) = t.countP (fun x => lt x n) + 1 := by rw [List.countP_cons, if_pos ha]
      rw [e, List.take_succ_cons, List.drop_succ_cons]
      refine ⟨fun x hx => ?_, i2⟩
      rcases List.mem_cons.1 hx with hx | hx
      · rw [hx]; exact ha
      · exact i1 x hx
    | false =>
      have hall : ∀ x ∈ t, lt x n = false := fun x hx => by
        cases hxn : lt x n with
        | false => rfl
        | true => rw [hO.trans (h1 x hx) hxn] at ha; cases ha
      have e : (a :: t).countP (fun x => lt x n) = 0 := by
        rw [List.countP_eq_zero]
        intro x hx
        rcases List.mem_cons.1 hx with hx | hx
        · rw [hx, ha]; simp
        · rw [hall x hx]; simp
      rw [e]
      refine ⟨fun x hx => by simp at hx, fun x hx => ?_⟩
      rcases List.mem_cons.1 hx with hx | hx
      · rw [hx]; exact ha
      · exact hall x hx
end
section
variable {α : Type} [Inhabited α] {lt : α → α → Bool}
/-- How many elements stay ahead of n: counted down from k. -/
def cutG (lt : α → α → Bool) (l : List α) (n : α) : Nat → Nat
  | 0 => 0
  | k + 1 => if lt n (l.getD k default) then cutG lt l n k else k + 1
def putG [DecidableEq α] (lt : α → α → Bool) (l : List α) (n : α) : List α :=
  if 0 < cutG lt l n l.length ∧ l.getD (cutG lt l n l.length - 1) default = n then l else l.take (cutG lt l n l.length) ++ [n] ++ l.drop (cutG lt l n l.length)
/-- The program's way: how many are less. -/
def putB [DecidableEq α] (lt : α → α → Bool) (l : List α) (n : α) : List α :=
  if l.countP (fun x => lt x n) < l.length ∧ l.getD (l.countP fun x => lt x n) default = n then l else l.take (l.countP fun x => lt x n) ++ [n] ++ l.drop (l.countP fun x => lt x n)
theorem cutG_le (l : List α) (n : α) (k : Nat) : cutG lt l n k ≤ k := by
  induction k with
  | zero => exact Nat.le_refl _
  | succ k ih => unfold cutG; split <;> omega
theorem cutG_above (l : List α) (n : α) : ∀ k, k ≤ l.length → ∀ i, cutG lt l n k ≤ i → i < k → lt n (l.getD i default) = true
  | 0, _, i, _, h => absurd h (by omega)
  | k + 1, hk, i, hc, hi => by
    unfold cutG at hc
    split at hc
    · next h =>
      rcases Nat.lt_or_ge i k with h1 | h1
      · exact cutG_above l n k (by omega) i hc h1
      · obtain rfl : i = k := by omega
        exact h
    · omega
theorem cutG_at (l : List α) (n : α) : ∀ k, 0 < cutG lt l n k → lt n (l.getD (cutG lt l n k - 1) default) = false
  | 0, h => absurd h (by simp [cutG])
  | k + 1, h => by
    unfold cutG at h ⊢
    split
    · next h1 => rw [if_pos h1] at h; exact cutG_at l n k h
    · next h1 => simpa using h1
theorem incG_get (hO : STO lt) {l : List α} (h : IncG lt l) {i j : Nat} (hij : i < j) (hj : j < l.length) : lt (l.getD i default) (l.getD j default) = true := by
  rw [IncG, List.pairwise_iff_getElem] at h
  have := h i j (by omega) hj hij
  simpa [List.getD_eq_getElem?_getD, hj, show i < l.length by omega] using this
theorem getD_mem {l : List α} {i : Nat} (h : i < l.length) : l.getD i default ∈ l := by
  rw [List.getD_eq_getElem?_getD, List.getElem?_eq_getElem h]; exact List.getElem_mem _
theorem putG_inc [DecidableEq α] (hO : STO lt) {l : List α} (h : IncG lt l) (n : α) : IncG lt (putG lt l n) ∧ ∀ x, x ∈ putG lt l n ↔ x ∈ l ∨ x = n := by
  unfold putG
  have hk := cutG_le (lt := lt) l n l.length
  have ha := cutG_above (lt := lt) l n l.length (Nat.le_refl _)
  have hat := cutG_at (lt := lt) l n l.length
  generalize cutG lt l n l.length = k at hk ha hat
  split
  · next hc =>
    refine ⟨h, fun x => ⟨.inl, fun hx => ?_⟩⟩
    rcases hx with hx | rfl
    · exact hx
    · rw [← hc.2]; exact getD_mem (by omega)
  · next hc =>
    have hlt : 0 < k → lt (l.getD (k - 1) default) n = true := fun h0 => by
      cases he : lt (l.getD (k - 1) default) n with
      | true => rfl
      | false => exact absurd ⟨h0, hO.tot he (hat h0)⟩ hc
    refine ins_inc h n k (fun x hx => ?_) (fun x hx => ?_)
    · obtain ⟨i, hi, rfl⟩ := List.mem_iff_getElem.1 hx
      rw [List.length_take] at hi
      rw [List.getElem_take]
      have h1 := hlt (by omega)
      have e : l[i]'(by omega) = l.getD i default := by rw [List.getD_eq_getElem?_getD, List.getElem?_eq_getElem (by omega)]; rfl
      rw [e]
      rcases Nat.lt_or_ge i (k - 1) with h2 | h2
      · exact hO.trans (incG_get hO h h2 (by omega)) h1
      · obtain rfl : i = k - 1 := by omega
        exact h1
    · obtain ⟨i, hi, rfl⟩ := List.mem_iff_getElem.1 hx
      rw [List.length_drop] at hi
      rw [List.getElem_drop]
      have := ha (k + i) (by omega) (by omega)
      rwa [List.getD_eq_getElem?_getD, List.getElem?_eq_getElem (by omega)] at this
theorem putB_inc [DecidableEq α] (hO : STO lt) {l : List α} (h : IncG lt l) (n : α) : IncG lt (putB lt l n) ∧ ∀ x, x ∈ putB lt l n ↔ x ∈ l ∨ x = n := by
  unfold putB
  obtain ⟨h1, h2⟩ := incG_split hO n h
  have hk : l.countP (fun x => lt x n) ≤ l.length := List.countP_le_length
  generalize l.countP (fun x => lt x n) = k at h1 h2 hk
  split
  · next hc =>
    refine ⟨h, fun x => ⟨.inl, fun hx => ?_⟩⟩
    rcases hx with hx | rfl
    · exact hx
    · rw [← hc.2]; exact getD_mem hc.1
  · next hc =>
    refine ins_inc h n k h1 fun x hx => ?_
    cases hnx : lt n x with
    | true => rfl
    | false =>
      have e : x = n := hO.tot (h2 x hx) hnx
      exfalso
      apply hc
      have hkl : k < l.length := by
        rcases Nat.lt_or_ge k l.length with hl | hl
        · exact hl
        · rw [List.drop_of_length_le hl] at hx; cases hx
      refine ⟨hkl, ?_⟩
      have e0 : l.getD k default = l[k] := by rw [List.getD_eq_getElem?_getD, List.getElem?_eq_getElem hkl]; rfl
      rw [e0]
      rw [List.drop_eq_getElem_cons hkl] at hx
      rcases List.mem_cons.1 hx with hx | hx
      · rw [← e]; exact hx.symm
      · obtain ⟨i, hi, hxi⟩ := List.mem_iff_getElem.1 hx
        rw [List.length_drop] at hi
        rw [List.getElem_drop] at hxi
        rw [IncG, List.pairwise_iff_getElem] at h
        have := h k (k + 1 + i) hkl (by omega) (by omega)
        rw [hxi, e] at this
        have hk2 := h2 l[k] (by rw [List.drop_eq_getElem_cons hkl]; exact List.mem_cons_self)
        rw [this] at hk2
        cases hk2
theorem putB_eq [DecidableEq α] (hO : STO lt) {l : List α} (h : IncG lt l) (n : α) : putB lt l n = putG lt l n := by
  obtain ⟨a1, a2⟩ := putB_inc hO h n
  obtain ⟨b1, b2⟩ := putG_inc hO h n
  exact incG_eq hO _ _ a1 b1 fun x => by rw [a2, b2]
theorem foldlG_inc [DecidableEq α] (hO : STO lt) : ∀ (l acc : List α), IncG lt acc → IncG lt (l.foldl (putG lt) acc) ∧ ∀ x, x ∈ l.foldl (putG lt) acc ↔ x ∈ acc ∨ x ∈ l
  | [], acc, h => ⟨h, fun x => by simp⟩
  | a :: t, acc, h => by
    obtain ⟨h1, h2⟩ := putG_inc hO h a
    obtain ⟨h3, h4⟩ := foldlG_inc hO t (putG lt acc a) h1
    refine ⟨h3, fun x => ?_⟩
    rw [List.foldl_cons, h4, h2, List.mem_cons]
    constructor
    · rintro ((h | h) | h)
      · exact .inl h
      · exact .inr (.inl h)
      · exact .inr (.inr h)
    · rintro (h | h | h)
      · exact .inl (.inl h)
      · exact .inl (.inr h)
      · exact .inr h
/-- The reference's way: each put in its place. -/
def sortG [DecidableEq α] (lt : α → α → Bool) (l : List α) : List α := l.foldl (putG lt) []
theorem sortG_inc [DecidableEq α] (hO : STO lt) (l : List α) : IncG lt (sortG lt l) ∧ ∀ x, x ∈ sortG lt l ↔ x ∈ l := by
  obtain ⟨h1, h2⟩ := foldlG_inc hO l [] List.Pairwise.nil
  exact ⟨h1, fun x => by rw [sortG, h2]; simp⟩
/-- The program's way: sorted, then each but once. -/
def keepG [DecidableEq α] (s : List α) (i : Nat) : Bool := i == 0 || s.getD (i - 1) default != s.getD i default
def dedG [DecidableEq α] (s : List α) : Nat → List α
  | 0 => []
  | k + 1 => dedG s k ++ (if keepG s k then [s.getD k default] else [])
theorem dedG_len [DecidableEq α] (s : List α) (k : Nat) : (dedG s k).length ≤ k := by
  induction k with
  | zero => simp [dedG]
  | succ k ih => unfold dedG; rw [List.length_append]; split <;> simp <;> omega
theorem dedG_all [DecidableEq α] (hO : STO lt) {s : List α} (hs : s.Pairwise (fun a b => lt b a = false)) : ∀ k, k ≤ s.length → IncG lt (dedG s k) ∧ (∀ x, x ∈ dedG s k ↔ x ∈ s.take k) ∧ ∀ x ∈ dedG s k, 0 < k ∧ lt (s.getD (k - 1) default) x = false
  | 0, _ => ⟨List.Pairwise.nil, fun x => by simp [dedG], fun x hx => by simp [dedG] at hx⟩
  | k + 1, hk => by
    obtain ⟨h1, h2, h3⟩ := dedG_all hO hs k (by omega)
    have hkl : k < s.length := by omega
    have hg : s.getD k default = s[k] := by rw [List.getD_eq_getElem?_getD, List.getElem?_eq_getElem hkl]; rfl
    have hmono : 0 < k → lt (s.getD k default) (s.getD (k - 1) default) = false := fun h0 => by
      rw [List.pairwise_iff_getElem] at hs
      have := hs (k - 1) k (by omega) hkl (by omega)
      rw [hg, List.getD_eq_getElem?_getD, List.getElem?_eq_getElem (by omega)]
      exact this
    -- what is not above the last one is not above the next
    have hnext : ∀ x, 0 < k → lt (s.getD (k - 1) default) x = false → lt (s.getD k default) x = false := fun x h0 hx => by
      cases he : lt (s.getD k default) x with
      | false => rfl
      | true =>
        exfalso
        have hm := hmono h0
        cases hy : lt (s.getD (k - 1) default) (s.getD k default) with
        | true => rw [hO.trans hy he] at hx; cases hx
        | false => rw [hO.tot hy hm] at hx; rw [hx] at he; cases he
    unfold dedG
    rw [List.take_succ_eq_append_getElem hkl]
    cases hka : keepG s k with
    | true =>
      rw [if_pos rfl, hg]
      refine ⟨?_, fun x => ?_, fun x hx => ⟨by omega, ?_⟩⟩
      · rw [IncG, List.pairwise_append]
        refine ⟨h1, by simp, fun x hx y hy => ?_⟩
        simp only [List.mem_singleton] at hy
        subst hy
        obtain ⟨h0, hle⟩ := h3 x hx
        have hm := hnext x h0 hle
        rw [hg] at hm
        cases hc : lt x s[k] with
        | true => rfl
        | false =>
          exfalso
          have e : x = s[k] := hO.tot hc hm
          simp only [keepG, Bool.or_eq_true, beq_iff_eq, bne_iff_ne, ne_eq] at hka
          rcases hka with h | h
          · omega
          · apply h
            refine hO.tot ?_ (hmono h0)
            rw [hg, ← e]
            exact hle
      · simp only [List.mem_append, h2 x]
      · simp only [Nat.add_sub_cancel]
        rcases List.mem_append.1 hx with hx | hx
        · obtain ⟨h0, hle⟩ := h3 x hx
          exact hnext x h0 hle
        · simp only [List.mem_singleton] at hx
          rw [hx, hg]
          exact hO.irr _
    | false =>
      simp only [Bool.false_eq_true, if_false, List.append_nil]
      simp only [keepG, Bool.or_eq_false_iff, beq_eq_false_iff_ne, bne_eq_false_iff_eq, ne_eq] at hka
      refine ⟨h1, fun x => ?_, fun x hx => ⟨by omega, ?_⟩⟩
      · rw [h2 x, List.mem_append, List.mem_singleton]
        refine ⟨.inl, fun h => ?_⟩
        rcases h with h | h
        · exact h
        · rw [h, ← hg, ← hka.2, List.getD_eq_getElem?_getD, List.getElem?_eq_getElem (by omega)]
          simp only [Option.getD_some]
          rw [List.mem_iff_getElem]
          exact ⟨k - 1, by rw [List.length_take]; omega, by rw [List.getElem_take]⟩
      · obtain ⟨h0, hle⟩ := h3 x hx
        exact hnext x h0 hle
/-- A sorted list of the same elements, without repetitions, is the reference's. -/
theorem dedG_eq [DecidableEq α] (hO : STO lt) {s l : List α} (hs : s.Pairwise (fun a b => lt b a = false)) (hm : ∀ x, x ∈ s ↔ x ∈ l) : dedG s s.length = sortG lt l := by
  obtain ⟨h1, h2, _⟩ := dedG_all hO hs s.length (Nat.le_refl _)
  obtain ⟨h3, h4⟩ := sortG_inc hO l
  refine incG_eq hO _ _ h1 h3 fun x => ?_
  rw [h2, h4, List.take_length, hm]
theorem putG_len [DecidableEq α] (l : List α) (n : α) : (putG lt l n).length ≤ l.length + 1 := by
  unfold putG
  split
  · omega
  · simp only [List.length_append, List.length_take, List.length_drop, List.length_cons, List.length_nil]; omega
theorem foldlG_len [DecidableEq α] (l acc : List α) : (l.foldl (putG lt) acc).length ≤ acc.length + l.length := by
  induction l generalizing acc with
  | nil => simp
  | cons a t ih =>
    rw [List.foldl_cons]
    have := ih (putG lt acc a)
    have := putG_len (lt := lt) acc a
    simp only [List.length_cons]
    omega
theorem sortG_len [DecidableEq α] (l : List α) : (sortG lt l).length ≤ l.length := by
  have := foldlG_len (lt := lt) l []
  simpa [sortG] using this
theorem putG_same [DecidableEq α] {l : List α} {n : α} {k : Nat} (hk : cutG lt l n l.length = k) (h0 : 0 < k) (h1 : l.getD (k - 1) default = n) : putG lt l n = l := by unfold putG; rw [hk, if_pos ⟨h0, h1⟩]
theorem putG_new [DecidableEq α] {l : List α} {n : α} {k : Nat} (hk : cutG lt l n l.length = k) (h1 : ¬ (0 < k ∧ l.getD (k - 1) default = n)) : putG lt l n = l.take k ++ [n] ++ l.drop k := by unfold putG; rw [hk, if_neg h1]
/-- An element that is there already is not put again. -/
theorem sortG_same [DecidableEq α] (hO : STO lt) {a b : List α} (h : ∀ x, x ∈ a ↔ x ∈ b) : sortG lt a = sortG lt b := by
  obtain ⟨h1, h2⟩ := sortG_inc hO a
  obtain ⟨h3, h4⟩ := sortG_inc hO b
  exact incG_eq hO _ _ h1 h3 fun x => by rw [h2, h4, h]
theorem sortG_id [DecidableEq α] (hO : STO lt) {a : List α} (h : IncG lt a) : sortG lt a = a := by
  obtain ⟨h1, h2⟩ := sortG_inc hO a
  exact incG_eq hO _ _ h1 h fun x => by rw [h2]
end
end Go.Proofs.Ytegnedpikpfjfaa

/- Plain functions on cells: the board, neighbours, growth. No program is in sight. -/
namespace Go.Proofs.Ytegnedpikpfjfaa
open Go.RowKit
set_option linter.unusedVariables false

def hasC (s : List C) (x y : Int) : Bool := s.any fun c => c.1 == x && c.2 == y
def onB (c : C) : Bool := (decide (0 ≤ c.1) && decide (c.1 ≤ 7)) && (decide (0 ≤ c.2) && decide (c.2 ≤ 7))
/-- Two cells have a side in common: as the reference reckons it, as the program does. -/
def nearS (a b : C) : Bool := wrap64 (wrap64 (wrap64 (a.1 - b.1) * wrap64 (a.1 - b.1)) + wrap64 (wrap64 (a.2 - b.2) * wrap64 (a.2 - b.2))) == 1
def nearI (a b : C) : Bool :=
  wrap64 ((if wrap64 (a.1 - b.1) < wrap64 (b.1 - a.1) then wrap64 (b.1 - a.1) else wrap64 (a.1 - b.1)) + (if wrap64 (a.2 - b.2) < wrap64 (b.2 - a.2) then wrap64 (b.2 - a.2) else wrap64 (a.2 - b.2))) == 1
def near (a b : C) : Bool := decide ((a.1 - b.1).natAbs + (a.2 - b.2).natAbs = 1)
def small (c : C) : Prop := (-1000 ≤ c.1 ∧ c.1 ≤ 1000) ∧ (-1000 ≤ c.2 ∧ c.2 ≤ 1000)
theorem small_of_onB {c : C} (h : onB c = true) : small c := by
  simp [onB] at h
  unfold small
  omega
theorem near_symm (a b : C) : near a b = near b a := by
  unfold near
  congr 1
  simp only [eq_iff_iff]
  omega
theorem nearI_eq {a b : C} (ha : small a) (hb : small b) : nearI a b = near a b := by
  unfold small at ha hb
  unfold nearI near
  rw [IntWalk.wrap64_in (a.1 - b.1) (by omega), IntWalk.wrap64_in (b.1 - a.1) (by omega), IntWalk.wrap64_in (a.2 - b.2) (by omega), IntWalk.wrap64_in (b.2 - a.2) (by omega)]
  rw [IntWalk.wrap64_in _ (by split <;> split <;> omega)]
  rw [Bool.eq_iff_iff, beq_iff_eq, decide_eq_true_eq]
  split <;> split <;> omega
theorem sq_small (d : Int) (h : -2000 ≤ d ∧ d ≤ 2000) : 0 ≤ d * d ∧ d * d ≤ 4000000 := by
  refine ⟨by rcases Int.le_total 0 d with h0 | h0; exact Int.mul_nonneg h0 h0; exact Int.mul_nonneg_of_nonpos_of_nonpos h0 h0, ?_⟩
  have h1 : d * d ≤ 2000 * 2000 := by
    rcases Int.le_total 0 d with h0 | h0
    · exact Int.mul_le_mul h.2 h.2 h0 (by omega)
    · have := Int.mul_le_mul (a := -d) (b := -d) (c := 2000) (d := 2000) (by omega) (by omega) (by omega) (by omega)
      rwa [Int.neg_mul_neg] at this
  omega
theorem sq_cases (d : Int) : d * d = 0 ∧ d = 0 ∨ d * d = 1 ∧ (d = 1 ∨ d = -1) ∨ 2 ≤ d * d ∧ (2 ≤ d ∨ d ≤ -2) := by
  rcases (by omega : d = 0 ∨ d = 1 ∨ d = -1 ∨ 2 ≤ d ∨ d ≤ -2) with h | h | h | h | h
  · left; subst h; simp
  · right; left; subst h; simp
  · right; left; subst h; simp
  · right; right
    have := Int.mul_le_mul (a := 2) (b := 2) (c := d) (d := d) h h (by omega) (by omega)
    omega
  · right; right
    have := Int.mul_le_mul (a := 2) (b := 2) (c := -d) (d := -d) (by omega) (by omega) (by omega) (by omega)
    rw [Int.neg_mul_neg] at this
    omega
theorem nearS_eq {a b : C} (ha : small a) (hb : small b) : nearS a b = near a b := by
  unfold small at ha hb
  unfold nearS near
  have h1 := sq_small (a.1 - b.1) (by omega)
  have h2 := sq_small (a.2 - b.2) (by omega)
  rw [IntWalk.wrap64_in (a.1 - b.1) (by omega), IntWalk.wrap64_in (a.2 - b.2) (by omega)]
  rw [IntWalk.wrap64_in ((a.1 - b.1) * (a.1 - b.1)) (by omega), IntWalk.wrap64_in ((a.2 - b.2) * (a.2 - b.2)) (by omega)]
  rw [IntWalk.wrap64_in _ (by omega)]
  rw [Bool.eq_iff_iff, beq_iff_eq, decide_eq_true_eq]
  have c1 := sq_cases (a.1 - b.1)
  have c2 := sq_cases (a.2 - b.2)
  omega
def touchI (l : List C) (c : C) : Bool := l.any fun d => nearI c d
def touchS (l : List C) (c : C) : Bool := l.any fun d => nearS d c
def touch (l : List C) (c : C) : Bool := l.any fun d => near c d
theorem any_congr' {α : Type} {p q : α → Bool} {l : List α} (h : ∀ x ∈ l, p x = q x) : l.any p = l.any q := by
  induction l with
  | nil => rfl
  | cons a t ih => simp only [List.any_cons, h a (by simp), ih (fun x hx => h x (by simp [hx]))]
theorem touchI_eq {l : List C} {c : C} (hl : ∀ d ∈ l, small d) (hc : small c) : touchI l c = touch l c := any_congr' fun d hd => nearI_eq hc (hl d hd)
theorem touchS_eq {l : List C} {c : C} (hl : ∀ d ∈ l, small d) (hc : small c) : touchS l c = touch l c := any_congr' fun d hd => by rw [nearS_eq (hl d hd) hc, near_symm]
theorem any_take {α : Type} (p : α → Bool) (xs : List α) (k : Nat) (hk : k < xs.length) : (xs.take (k + 1)).any p = ((xs.take k).any p || p xs[k]) := by
  rw [List.take_succ_eq_append_getElem hk, List.any_append]
  simp
theorem any_full {α : Type} (p : α → Bool) (xs : List α) (k : Nat) (hk : k < xs.length) (h : p xs[k] = true) : xs.any p = true := by
  rw [List.any_eq_true]; exact ⟨_, List.getElem_mem hk, h⟩

/-- The k-th cell may grow on those before it. -/
def growAt (l : List C) (k : Nat) (c : C) : Bool := onB c && !hasC (l.take k) c.1 c.2 && (k == 0 || touch (l.take k) c)
def growTo (l : List C) (k : Nat) : Bool := (List.range k).all fun i => growAt l i (l.getD i (0, 0))
def isGrowth (l : List C) : Bool := growTo l l.length && (decide (1 ≤ l.length) && decide (l.length ≤ 8))
theorem growTo_succ (l : List C) (k : Nat) (hk : k < l.length) : growTo l (k + 1) = (growTo l k && growAt l k l[k]) := by
  unfold growTo
  rw [List.range_succ, List.all_append]
  simp [List.getD_eq_getElem?_getD, hk]
theorem growTo_onB (l : List C) (k : Nat) (hk : k ≤ l.length) (h : growTo l k = true) : ∀ c ∈ l.take k, onB c = true := by
  intro c hc
  obtain ⟨i, hi, rfl⟩ := List.mem_iff_getElem.1 hc
  rw [List.length_take] at hi
  unfold growTo at h
  rw [List.all_eq_true] at h
  have := h i (by simp; omega)
  rw [List.getD_eq_getElem?_getD, List.getElem?_eq_getElem (by omega)] at this
  simp only [growAt, Option.getD_some, Bool.and_eq_true] at this
  rw [List.getElem_take]
  exact this.1.1
theorem isGrowth_no (l : List C) (k : Nat) (hk : k < l.length) (h : growAt l k l[k] = false) : isGrowth l = false := by
  have : growTo l l.length = false := by
    rw [Bool.eq_false_iff]
    intro ht
    unfold growTo at ht
    rw [List.all_eq_true] at ht
    have := ht k (by simp; omega)
    rw [List.getD_eq_getElem?_getD, List.getElem?_eq_getElem hk] at this
    simp only [Option.getD_some] at this
    rw [h] at this
    cases this
  unfold isGrowth
  rw [this]
  rfl
end Go.Proofs.Ytegnedpikpfjfaa

/- Plain functions on cells: shapes, connected shapes. No program is in sight. -/
namespace Go.Proofs.Ytegnedpikpfjfaa
open Go.RowKit
set_option linter.unusedVariables false

def befC (a b : C) : Bool := decide (a.2 < b.2) || (a.2 == b.2 && decide (a.1 < b.1))
theorem befC_trans {a b c : C} (h : befC a b = true) (k : befC b c = true) : befC a c = true := by
  simp only [befC, Bool.or_eq_true, Bool.and_eq_true, decide_eq_true_eq, beq_iff_eq] at *
  omega
theorem befC_irr (a : C) : befC a a = false := by simp [befC]
/-- The k-th cell of a list is on the board and behind the one before it. -/
def shapeAt (l : List C) (k : Nat) (c : C) : Bool := onB c && (k == 0 || befC (l.getD (k - 1) (0, 0)) c)
def shapeTo (l : List C) (k : Nat) : Bool := (List.range k).all fun i => shapeAt l i (l.getD i (0, 0))
def isShape (l : List C) : Bool := shapeTo l l.length && (decide (1 ≤ l.length) && decide (l.length ≤ 8))
theorem shapeTo_succ (l : List C) (k : Nat) (hk : k < l.length) : shapeTo l (k + 1) = (shapeTo l k && shapeAt l k l[k]) := by
  unfold shapeTo
  rw [List.range_succ, List.all_append]
  simp [List.getD_eq_getElem?_getD, hk]
theorem shapeTo_at {l : List C} {k : Nat} (h : shapeTo l k = true) {i : Nat} (hi : i < k) (hl : i < l.length) : shapeAt l i l[i] = true := by
  unfold shapeTo at h
  rw [List.all_eq_true] at h
  have := h i (by simp; omega)
  rwa [List.getD_eq_getElem?_getD, List.getElem?_eq_getElem hl] at this
theorem isShape_no (l : List C) (k : Nat) (hk : k < l.length) (h : shapeAt l k l[k] = false) : isShape l = false := by
  have : shapeTo l l.length = false := by
    rw [Bool.eq_false_iff]
    intro ht
    rw [shapeTo_at ht hk hk] at h
    cases h
  unfold isShape
  rw [this]
  rfl
theorem shape_len {l : List C} (h : isShape l = true) : 1 ≤ l.length ∧ l.length ≤ 8 := by
  simp only [isShape, Bool.and_eq_true, decide_eq_true_eq] at h
  exact h.2
theorem shape_to {l : List C} (h : isShape l = true) : shapeTo l l.length = true := by
  simp only [isShape, Bool.and_eq_true, decide_eq_true_eq] at h
  exact h.1
theorem shape_onB {l : List C} (h : isShape l = true) : ∀ c ∈ l, onB c = true := by
  intro c hc
  obtain ⟨i, hi, rfl⟩ := List.mem_iff_getElem.1 hc
  have := shapeTo_at (shape_to h) hi hi
  simp only [shapeAt, Bool.and_eq_true] at this
  exact this.1
theorem shape_small {l : List C} (h : isShape l = true) : ∀ c ∈ l, small c := fun c hc => small_of_onB (shape_onB h c hc)
theorem shape_bef {l : List C} (h : isShape l = true) : ∀ j i (hj : j < l.length) (hi : i < j), befC (l[i]'(by omega)) l[j] = true := by
  intro j
  induction j with
  | zero => intro i _ hi; omega
  | succ j ih =>
    intro i hj hi
    have h1 := shapeTo_at (shape_to h) hj hj
    simp only [shapeAt, Bool.and_eq_true] at h1
    have h2 := h1.2
    rw [show (j + 1 == 0) = false from rfl, Bool.false_or, show j + 1 - 1 = j from rfl, List.getD_eq_getElem?_getD, List.getElem?_eq_getElem (by omega : j < l.length)] at h2
    rcases Nat.lt_or_ge i j with h3 | h3
    · exact befC_trans (ih i (by omega) h3) h2
    · obtain rfl : i = j := by omega
      exact h2
theorem shape_nodup {l : List C} (h : isShape l = true) : l.Nodup := by
  rw [List.Nodup, List.pairwise_iff_getElem]
  intro i j hi hj hij he
  have := shape_bef h j i hj hij
  rw [he, befC_irr] at this
  cases this

/-- What is reached from a cell by steps within a list. -/
inductive Rch (s : List C) (a : C) : C → Prop
  | base : Rch s a a
  | step {b c : C} : Rch s a b → c ∈ s → near b c = true → Rch s a c
def s0 (s : List C) : C := s.getD 0 (0, 0)
noncomputable def conn (s : List C) : Bool := @decide (∀ c ∈ s, Rch s (s0 s) c) (Classical.propDecidable _)
theorem conn_iff (s : List C) : conn s = true ↔ ∀ c ∈ s, Rch s (s0 s) c := by
  unfold conn
  exact @decide_eq_true_iff _ (Classical.propDecidable _)
theorem nodup_len {α : Type} [DecidableEq α] : ∀ (l m : List α), l.Nodup → (∀ x ∈ l, x ∈ m) → l.length ≤ m.length := by
  intro l
  induction l with
  | nil => intro m _ _; simp
  | cons a t ih =>
    intro m hn hs
    have ha := hs a (by simp)
    have h1 := ih (m.erase a) (List.nodup_cons.1 hn).2 (fun x hx => (List.mem_erase_of_ne (by rintro rfl; exact (List.nodup_cons.1 hn).1 hx)).2 (hs x (by simp [hx])))
    rw [List.length_erase_of_mem ha] at h1
    have : 0 < m.length := List.length_pos_of_mem ha
    simp only [List.length_cons]
    omega
theorem nodup_full {α : Type} [DecidableEq α] (l m : List α) (hl : l.Nodup) (hs : ∀ x ∈ l, x ∈ m) (he : l.length = m.length) : ∀ x ∈ m, x ∈ l := by
  intro x hx
  rcases Decidable.em (x ∈ l) with h | h
  · exact h
  · have := nodup_len (x :: l) m (List.nodup_cons.2 ⟨h, hl⟩) (fun y hy => by
      rcases List.mem_cons.1 hy with rfl | hy
      · exact hx
      · exact hs y hy)
    simp only [List.length_cons] at this
    omega
theorem nodup_inj {α : Type} {l : List α} (h : l.Nodup) {i j : Nat} (hi : i < l.length) (hj : j < l.length) (he : l[i] = l[j]) : i = j := by
  rw [List.Nodup, List.pairwise_iff_getElem] at h
  rcases Nat.lt_trichotomy i j with h1 | h1 | h1
  · exact absurd he (h i j hi hj h1)
  · exact h1
  · exact absurd he.symm (h j i hj hi h1)
/-- Connectedness as the reference finds it: the list of all that was seen is closed. -/
theorem conn_of_list (s seen : List C) (h0 : s0 s ∈ seen) (hsub : ∀ c ∈ seen, c ∈ s) (hnd : seen.Nodup) (hs : s.Nodup) (hr : ∀ c ∈ seen, Rch s (s0 s) c)
    (hcl : ∀ b ∈ seen, ∀ c ∈ s, near b c = true → c ∈ seen) : conn s = decide (seen.length = s.length) := by
  rw [Bool.eq_iff_iff, conn_iff, decide_eq_true_eq]
  constructor
  · intro h
    have all : ∀ c, Rch s (s0 s) c → c ∈ seen := by
      intro c hc
      induction hc with
      | base => exact h0
      | step _ hc hn ih => exact hcl _ ih _ hc hn
    have h1 := nodup_len s seen hs (fun c hc => all c (h c hc))
    have h2 := nodup_len seen s hnd hsub
    omega
  · intro h c hc
    exact hr c (nodup_full seen s hnd hsub h c hc)
/-- As the program finds it: the marks are closed. -/
def cnt (fl : List Bool) : Nat := fl.count true
theorem conn_of_marks (s : List C) (fl : List Bool) (hl : fl.length = s.length) (h0 : fl[0]? = some true) (hnd : s.Nodup)
    (hin : ∀ i (h : i < s.length), fl[i]? = some true → Rch s (s0 s) s[i])
    (hcl : ∀ i j (hi : i < s.length) (hj : j < s.length), fl[i]? = some true → near s[i] s[j] = true → fl[j]? = some true) : conn s = decide (cnt fl = s.length) := by
  have hpos : 0 < s.length := by
    rw [← hl]
    rcases Nat.eq_zero_or_pos fl.length with h | h
    · rw [List.getElem?_eq_none (by omega)] at h0; cases h0
    · exact h
  rw [Bool.eq_iff_iff, conn_iff, decide_eq_true_eq]
  unfold cnt
  rw [← hl, List.count_eq_length]
  constructor
  · intro h
    have all : ∀ c, Rch s (s0 s) c → ∃ i, ∃ h : i < s.length, s[i] = c ∧ fl[i]? = some true := by
      intro c hc
      induction hc with
      | base => exact ⟨0, hpos, by simp [s0, List.getD_eq_getElem?_getD, hpos], h0⟩
      | step _ hc hn ih =>
        obtain ⟨i, hi, rfl, hf⟩ := ih
        obtain ⟨j, hj, rfl⟩ := List.mem_iff_getElem.1 hc
        exact ⟨j, hj, rfl, hcl i j hi hj hf hn⟩
    intro b hb
    obtain ⟨j, hj, rfl⟩ := List.mem_iff_getElem.1 hb
    obtain ⟨i, hi, he, hf⟩ := all (s[j]'(by omega)) (h _ (List.getElem_mem _))
    obtain rfl := nodup_inj hnd hi (by omega) he
    rw [List.getElem?_eq_getElem hj] at hf
    injection hf with hf
    exact hf.symm
  · intro h c hc
    obtain ⟨i, hi, rfl⟩ := List.mem_iff_getElem.1 hc
    refine hin i hi ?_
    rw [List.getElem?_eq_getElem (by omega)]
    rw [← h _ (List.getElem_mem (by omega : i < fl.length))]
theorem cnt_set (fl : List Bool) (j : Nat) (h : fl[j]? = some false) : cnt (fl.set j true) = cnt fl + 1 := by
  unfold cnt
  induction fl generalizing j with
  | nil => simp at h
  | cons a t ih =>
    cases j with
    | zero =>
      simp at h
      subst h
      simp
    | succ j =>
      simp at h
      simp only [List.set_cons_succ, List.count_cons, ih j h]
      omega
theorem cnt_le (fl : List Bool) : cnt fl ≤ fl.length := List.count_le_length
end Go.Proofs.Ytegnedpikpfjfaa

/- Cells in order, shapes in order, corners: plain functions. No program is in sight. -/
namespace Go.Proofs.Ytegnedpikpfjfaa
open Go.RowKit
set_option linter.unusedVariables false
theorem befC_sto : STO befC where
  irr := befC_irr
  trans := fun h k => befC_trans h k
  tot := fun {a b} h k => by
    simp only [befC, Bool.or_eq_false_iff, Bool.and_eq_false_iff, decide_eq_false_iff_not, beq_eq_false_iff_ne] at h k
    refine Prod.ext ?_ ?_
    · rcases h.2 with h2 | h2
      · omega
      · rcases k.2 with k2 | k2 <;> omega
    · omega
/-- Lists of cells, by the first place where they differ. -/
def lexC : List C → List C → Bool
  | a :: s, b :: t => befC a b || (a == b && lexC s t)
  | _, _ => false
def ltS (s t : List C) : Bool := decide (s.length < t.length) || (s.length == t.length && lexC s t)
def cmpS (s t : List C) : Int := if ltS s t then -1 else if ltS t s then 1 else 0
theorem lexC_irr : ∀ s, lexC s s = false
  | [] => rfl
  | a :: s => by simp [lexC, befC_irr, lexC_irr s]
theorem lexC_trans : ∀ {a b c : List C}, lexC a b = true → lexC b c = true → lexC a c = true
  | [], _, _, h, _ => by simp [lexC] at h
  | _ :: _, [], _, h, _ => by simp [lexC] at h
  | _ :: _, _ :: _, [], _, h => by simp [lexC] at h
  | a :: s, b :: t, c :: u, h, k => by
    simp only [lexC, Bool.or_eq_true, Bool.and_eq_true, beq_iff_eq] at h k ⊢
    rcases h with h | ⟨rfl, h⟩
    · rcases k with k | ⟨rfl, k⟩
      · exact .inl (befC_trans h k)
      · exact .inl h
    · rcases k with k | ⟨rfl, k⟩
      · exact .inl k
      · exact .inr ⟨rfl, lexC_trans h k⟩
theorem lexC_tot : ∀ {a b : List C}, a.length = b.length → lexC a b = false → lexC b a = false → a = b
  | [], [], _, _, _ => rfl
  | [], _ :: _, h, _, _ => by simp at h
  | _ :: _, [], h, _, _ => by simp at h
  | a :: s, b :: t, hl, h, k => by
    simp only [lexC, Bool.or_eq_false_iff, Bool.and_eq_false_iff, beq_eq_false_iff_ne] at h k
    have e : a = b := befC_sto.tot h.1 k.1
    subst e
    rcases h.2 with h2 | h2
    · exact absurd rfl h2
    · rcases k.2 with k2 | k2
      · exact absurd rfl k2
      · rw [lexC_tot (by simpa using hl) h2 k2]
theorem ltS_sto : STO ltS where
  irr := fun a => by simp [ltS, lexC_irr]
  trans := fun {a b c} h k => by
    simp only [ltS, Bool.or_eq_true, Bool.and_eq_true, decide_eq_true_eq, beq_iff_eq] at h k ⊢
    rcases h with h | ⟨h1, h2⟩
    · left
      rcases k with k | k <;> omega
    · rcases k with k | ⟨k1, k2⟩
      · left; omega
      · exact .inr ⟨by omega, lexC_trans h2 k2⟩
  tot := fun {a b} h k => by
    simp only [ltS, Bool.or_eq_false_iff, Bool.and_eq_false_iff, decide_eq_false_iff_not, beq_eq_false_iff_ne] at h k
    have hl : a.length = b.length := by omega
    rcases h.2 with h2 | h2
    · exact absurd hl h2
    · rcases k.2 with k2 | k2
      · exact absurd hl.symm k2
      · exact lexC_tot hl h2 k2
theorem cmpS_neg (s t : List C) : decide (cmpS s t ≥ 0) = !ltS s t := by
  unfold cmpS
  cases ltS s t with
  | true => rfl
  | false =>
    simp only [Bool.false_eq_true, if_false]
    split <;> rfl
/-- From place k on. -/
theorem cmpS_len {s t : List C} (h : s.length < t.length) : cmpS s t = -1 := by
  unfold cmpS ltS
  rw [decide_eq_true h]
  rfl
theorem cmpS_len2 {s t : List C} (h : t.length < s.length) : cmpS s t = 1 := by
  have h1 : ltS s t = false := by simp only [ltS, Bool.or_eq_false_iff, Bool.and_eq_false_iff, decide_eq_false_iff_not, beq_eq_false_iff_ne]; omega
  have h2 : ltS t s = true := by unfold ltS; rw [decide_eq_true h]; rfl
  unfold cmpS
  rw [h1, h2]
  rfl
theorem cmpS_at {s t : List C} (hl : s.length = t.length) {k : Nat} (hk : k < s.length) (heq : s.take k = t.take k) (a b : C) (ha : s[k] = a) (hb : t[k]'(hl ▸ hk) = b) :
    (befC a b = true → cmpS s t = -1) ∧ (befC b a = true → cmpS s t = 1) := by
  have hlex : ∀ (k : Nat) (s t : List C) (hk : k < s.length) (hk2 : k < t.length), s.take k = t.take k → befC s[k] t[k] = true → lexC s t = true := by
    intro k
    induction k with
    | zero =>
      intro s t hk hk2 _ h
      cases s with
      | nil => simp at hk
      | cons x s =>
        cases t with
        | nil => simp at hk2
        | cons y t => simp only [List.getElem_cons_zero] at h; simp [lexC, h]
    | succ k ih =>
      intro s t hk hk2 he h
      cases s with
      | nil => simp at hk
      | cons x s =>
        cases t with
        | nil => simp at hk2
        | cons y t =>
          simp only [List.take_succ_cons, List.cons.injEq] at he
          simp only [List.getElem_cons_succ] at h
          simp only [lexC, Bool.or_eq_true, Bool.and_eq_true, beq_iff_eq]
          exact .inr ⟨he.1, ih s t (by simpa using hk) (by simpa using hk2) he.2 h⟩
  refine ⟨fun h => ?_, fun h => ?_⟩
  · have h1 : ltS s t = true := by
      unfold ltS
      rw [hlex k s t hk (hl ▸ hk) heq (by rw [ha, hb]; exact h)]
      simp [hl]
    unfold cmpS
    rw [h1]
    rfl
  · have h1 : ltS t s = true := by
      unfold ltS
      rw [hlex k t s (hl ▸ hk) hk heq.symm (by rw [ha, hb]; exact h)]
      simp [hl]
    unfold cmpS
    rw [h1, ltS_sto.asym h1]
    rfl
theorem cmpS_eq (s : List C) : cmpS s s = 0 := by
  unfold cmpS
  rw [ltS_sto.irr]
  rfl
theorem take_eq_step {α : Type} {s t : List α} {k : Nat} (hk : k < s.length) (hk2 : k < t.length) (h : s.take k = t.take k) (he : s[k] = t[k]) : s.take (k + 1) = t.take (k + 1) := by
  rw [List.take_succ_eq_append_getElem hk, List.take_succ_eq_append_getElem hk2, h, he]
theorem take_eq_all {α : Type} {s t : List α} (hl : s.length = t.length) {k : Nat} (hk : s.length ≤ k) (h : s.take k = t.take k) : s = t := by
  rwa [List.take_of_length_le hk, List.take_of_length_le (by omega)] at h
/-- The least number of a list, that is not empty, from its first element on. -/
def minTo (f : C → Int) (s : List C) : Nat → Int
  | 0 => f (s.getD 0 default)
  | k + 1 => if f (s.getD k default) < minTo f s k then f (s.getD k default) else minTo f s k
def minC (f : C → Int) (s : List C) : Int := minTo f s s.length
theorem minTo_le (f : C → Int) (s : List C) : ∀ k, k ≤ s.length → ∀ c ∈ s.take k, minTo f s k ≤ f c
  | 0, _, c, h => by simp at h
  | k + 1, hk, c, h => by
    have hkl : k < s.length := by omega
    rw [List.take_succ_eq_append_getElem hkl] at h
    have e : s.getD k default = s[k] := by rw [List.getD_eq_getElem?_getD, List.getElem?_eq_getElem hkl]; rfl
    unfold minTo
    rw [e]
    rcases List.mem_append.1 h with h | h
    · have := minTo_le f s k (by omega) c h
      split <;> omega
    · simp only [List.mem_singleton] at h
      subst h
      split <;> omega
theorem minTo_at (f : C → Int) (s : List C) (h0 : 0 < s.length) : ∀ k, k ≤ s.length → ∃ c ∈ s, minTo f s k = f c
  | 0, _ => ⟨s.getD 0 default, getD_mem h0, rfl⟩
  | k + 1, hk => by
    unfold minTo
    split
    · exact ⟨_, getD_mem (by omega), rfl⟩
    · exact minTo_at f s h0 k (by omega)
theorem minC_le (f : C → Int) {s : List C} {c : C} (h : c ∈ s) : minC f s ≤ f c := minTo_le f s s.length (Nat.le_refl _) c (by rw [List.take_length]; exact h)
theorem minC_at (f : C → Int) {s : List C} (h0 : 0 < s.length) : ∃ c ∈ s, minC f s = f c := minTo_at f s h0 s.length (Nat.le_refl _)
theorem minC_uniq (f : C → Int) {s : List C} (h0 : 0 < s.length) {m : Int} (h1 : ∃ c ∈ s, m = f c) (h2 : ∀ c ∈ s, m ≤ f c) : minC f s = m := by
  obtain ⟨c, hc, e⟩ := minC_at f h0
  obtain ⟨d, hd, e2⟩ := h1
  have := minC_le f hd
  have := h2 c hc
  omega
theorem minC_same (f : C → Int) {s t : List C} (h0 : 0 < s.length) (h1 : 0 < t.length) (h : ∀ x, x ∈ s ↔ x ∈ t) : minC f s = minC f t := by
  obtain ⟨c, hc, e⟩ := minC_at f h1
  exact minC_uniq f h0 ⟨c, (h c).2 hc, e⟩ fun d hd => minC_le f ((h d).1 hd)
/-- Moved. -/
def mv (s : List C) (x y : Int) : List C := s.map fun c => (c.1 + x, c.2 + y)
theorem mv_len (s : List C) (x y : Int) : (mv s x y).length = s.length := by simp [mv]
theorem mv_take (s : List C) (x y : Int) (k : Nat) (hk : k < s.length) : mv (s.take (k + 1)) x y = mv (s.take k) x y ++ [(s[k].1 + x, s[k].2 + y)] := by
  rw [List.take_succ_eq_append_getElem hk]
  show List.map _ (_ ++ _) = _
  rw [List.map_append]
  rfl
theorem mv_inc {s : List C} (h : IncG befC s) (x y : Int) : IncG befC (mv s x y) := by
  unfold IncG mv
  rw [List.pairwise_map]
  refine h.imp fun {a b} hab => ?_
  simp only [befC, Bool.or_eq_true, Bool.and_eq_true, decide_eq_true_eq, beq_iff_eq] at hab ⊢
  omega
theorem mv_mem (s : List C) (x y : Int) (c : C) : c ∈ mv s x y ↔ (c.1 - x, c.2 - y) ∈ s := by
  simp only [mv, List.mem_map]
  constructor
  · rintro ⟨d, hd, rfl⟩
    have e : ((d.1 + x - x, d.2 + y - y) : C) = d := Prod.ext (by simp) (by simp)
    simpa [e] using hd
  · intro h
    exact ⟨_, h, Prod.ext (by simp) (by simp)⟩
/-- To the corner: the program's way, the reference's way. -/
def sortC (s : List C) : List C := sortG befC s
def cornI (s : List C) : List C := sortC (mv s (-(minC (·.1) s)) (-(minC (·.2) s)))
def cornS (s : List C) : List C := mv s (-(minC (·.1) s)) (-(minC (·.2) s))
theorem sortC_ne {s : List C} (h : 0 < s.length) : 0 < (sortC s).length := by
  obtain ⟨h1, h2⟩ := sortG_inc befC_sto s
  exact List.length_pos_of_mem ((h2 _).2 (List.getElem_mem h))
theorem sortC_mem (s : List C) (c : C) : c ∈ sortC s ↔ c ∈ s := (sortG_inc befC_sto s).2 c
theorem sortC_inc (s : List C) : IncG befC (sortC s) := (sortG_inc befC_sto s).1
theorem sortC_id {s : List C} (h : IncG befC s) : sortC s = s := sortG_id befC_sto h
theorem corn_eq {s : List C} (h : 0 < s.length) : cornI s = cornS (sortC s) := by
  unfold cornI cornS
  rw [minC_same (·.1) (sortC_ne h) h (sortC_mem s), minC_same (·.2) (sortC_ne h) h (sortC_mem s)]
  refine incG_eq befC_sto _ _ (sortC_inc _) (mv_inc (sortC_inc s) _ _) fun c => ?_
  rw [sortC_mem, mv_mem, mv_mem, sortC_mem]
theorem sortC_len (s : List C) : (sortC s).length ≤ s.length := sortG_len s
theorem cornI_len (s : List C) : (cornI s).length ≤ s.length := by
  have := sortC_len (mv s (-(minC (·.1) s)) (-(minC (·.2) s)))
  rwa [mv_len] at this
theorem isShape_inc {l : List C} (h : isShape l = true) : IncG befC l := by
  rw [IncG, List.pairwise_iff_getElem]
  intro i j hi hj hij
  exact shape_bef h j i hj hij
theorem minC_small {s : List C} (h0 : 0 < s.length) (h : ∀ c ∈ s, small c) : (-1000 ≤ minC (·.1) s ∧ minC (·.1) s ≤ 1000) ∧ (-1000 ≤ minC (·.2) s ∧ minC (·.2) s ≤ 1000) := by
  obtain ⟨c, hc, e⟩ := minC_at (·.1) h0
  obtain ⟨d, hd, e2⟩ := minC_at (·.2) h0
  have h1 := h c hc
  have h2 := h d hd
  unfold small at h1 h2
  rw [e, e2]
  exact ⟨h1.1, h2.2⟩
end Go.Proofs.Ytegnedpikpfjfaa

/- Plain functions on shapes: inner sides, trees, snakes, ends, the order of growth. No program is in sight. -/
namespace Go.Proofs.Ytegnedpikpfjfaa
open Go.RowKit
set_option linter.unusedVariables false

theorem countP_take {α : Type} (p : α → Bool) (xs : List α) (k : Nat) (hk : k < xs.length) : (xs.take (k + 1)).countP p = (xs.take k).countP p + (if p xs[k] then 1 else 0) := by
  rw [List.take_succ_eq_append_getElem hk, List.countP_append, List.countP_singleton]
theorem countP_congr' {α : Type} {p q : α → Bool} {l : List α} (h : ∀ x ∈ l, p x = q x) : l.countP p = l.countP q := by
  induction l with
  | nil => rfl
  | cons a t ih => simp only [List.countP_cons, h a (by simp), ih (fun x hx => h x (by simp [hx]))]
def degI (s : List C) (c : C) : Nat := s.countP fun d => nearI c d
def degS (s : List C) (c : C) : Nat := s.countP fun d => nearS d c
def deg (s : List C) (c : C) : Nat := s.countP fun d => near c d
theorem degI_eq {l : List C} {c : C} (hl : ∀ d ∈ l, small d) (hc : small c) : degI l c = deg l c := countP_congr' fun d hd => nearI_eq hc (hl d hd)
theorem degS_eq {l : List C} {c : C} (hl : ∀ d ∈ l, small d) (hc : small c) : degS l c = deg l c := countP_congr' fun d hd => by rw [nearS_eq (hl d hd) hc, near_symm]
def inner (l : List C) : Nat → Nat
  | 0 => 0
  | k + 1 => inner l k + (l.take k).countP fun d => near (l.getD k (0, 0)) d
theorem countP_le' {α : Type} (p : α → Bool) (l : List α) : l.countP p ≤ l.length := List.countP_le_length
theorem inner_le (l : List C) (k : Nat) (hk : k ≤ 8) : inner l k ≤ k * 8 := by
  induction k with
  | zero => simp [inner]
  | succ k ih =>
    have h1 := ih (by omega)
    have h2 := countP_le' (fun d => near (l.getD k (0, 0)) d) (l.take k)
    rw [List.length_take] at h2
    simp only [inner]
    omega
noncomputable def isConn (l : List C) : Bool := isShape l && conn l
noncomputable def isTree (l : List C) : Bool := isConn l && (inner l l.length == l.length - 1)
noncomputable def isSnake (l : List C) : Bool := isTree l && l.all fun c => decide (deg l c ≤ 2)
theorem conn_shape {l : List C} (h : isConn l = true) : isShape l = true := by simp only [isConn, Bool.and_eq_true] at h; exact h.1
theorem tree_conn {l : List C} (h : isTree l = true) : isConn l = true := by simp only [isTree, Bool.and_eq_true] at h; exact h.1
theorem snake_tree {l : List C} (h : isSnake l = true) : isTree l = true := by simp only [isSnake, Bool.and_eq_true] at h; exact h.1
theorem snake_no {s : List C} {c : C} (hc : c ∈ s) (h : 2 < degI s c) : isSnake s = false := by
  rw [Bool.eq_false_iff]
  intro hs
  have hsm := shape_small (conn_shape (tree_conn (snake_tree hs)))
  rw [degI_eq hsm (hsm c hc)] at h
  simp only [isSnake, Bool.and_eq_true, List.all_eq_true, decide_eq_true_eq] at hs
  have := hs.2 c hc
  omega
theorem snake_end {s : List C} (h : ∀ c ∈ s, ¬ (s.length ≤ 8 ∧ 2 < degI s c)) : isTree s = isSnake s := by
  unfold isSnake
  cases ht : isTree s with
  | false => rfl
  | true =>
    have hsh := conn_shape (tree_conn ht)
    have hsm := shape_small hsh
    symm
    rw [Bool.true_and, List.all_eq_true]
    intro c hc
    have h1 := h c hc
    rw [degI_eq hsm (hsm c hc)] at h1
    have := shape_len hsh
    rw [decide_eq_true_eq]
    omega
def ends (l : List C) : List C := if isShape l then l.filter fun c => deg l c == 1 else []
theorem filter_take {α : Type} (p : α → Bool) (xs : List α) (k : Nat) (hk : k < xs.length) : (xs.take (k + 1)).filter p = (xs.take k).filter p ++ (if p xs[k] then [xs[k]] else []) := by
  rw [List.take_succ_eq_append_getElem hk, List.filter_append, List.filter_cons, List.filter_nil]

/-- A cell that is new and has a neighbour among those that came. -/
def nextTo (out : List C) (c : C) : Bool := !hasC out c.1 c.2 && touch out c
theorem hasC_iff (s : List C) (c : C) : hasC s c.1 c.2 = true ↔ c ∈ s := by
  unfold hasC
  rw [List.any_eq_true]
  constructor
  · rintro ⟨d, hd, h⟩
    simp only [Bool.and_eq_true, beq_iff_eq] at h
    rwa [show c = d from Prod.ext h.1.symm h.2.symm]
  · intro h
    exact ⟨c, h, by simp⟩
def grownBy (s : List C) : Nat → List C
  | 0 => [s0 s]
  | k + 1 => grownBy s k ++ (s.find? (nextTo (grownBy s k))).toList
/-- In a connected shape there is always a next cell. -/
theorem next_some {s out : List C} (hs : conn s = true) (hn : s.Nodup) (h0 : s0 s ∈ out) (hlen : out.length < s.length) : ∃ c, s.find? (nextTo out) = some c := by
  rcases hf : s.find? (nextTo out) with _ | c
  · exfalso
    rw [List.find?_eq_none] at hf
    rw [conn_iff] at hs
    have all : ∀ c, Rch s (s0 s) c → c ∈ out := by
      intro c hc
      induction hc with
      | base => exact h0
      | @step b c _ hc hn ih =>
        have := hf c hc
        simp only [nextTo, Bool.and_eq_true, Bool.not_eq_true', not_and] at this
        rcases Decidable.em (c ∈ out) with h | h
        · exact h
        · exfalso
          refine this ?_ ?_
          · rw [Bool.eq_false_iff]; intro h'; exact h ((hasC_iff _ _).1 h')
          · unfold touch; rw [List.any_eq_true]; exact ⟨b, ih, by rw [near_symm]; exact hn⟩
    have := nodup_len s out hn (fun c hc => all c (hs c hc))
    omega
  · exact ⟨c, rfl⟩
theorem grownBy_s0 (s : List C) (k : Nat) : s0 s ∈ grownBy s k := by
  induction k with
  | zero => simp [grownBy]
  | succ k ih => simp [grownBy, ih]
theorem grownBy_sub {s : List C} (h : s ≠ []) (k : Nat) : ∀ c ∈ grownBy s k, c ∈ s := by
  induction k with
  | zero =>
    intro c hc
    simp only [grownBy, List.mem_singleton] at hc
    subst hc
    cases s with
    | nil => exact absurd rfl h
    | cons a t => simp [s0]
  | succ k ih =>
    intro c hc
    simp only [grownBy, List.mem_append, Option.mem_toList] at hc
    rcases hc with hc | hc
    · exact ih c hc
    · exact List.mem_of_find?_eq_some hc
theorem grownBy_len {s : List C} (hs : conn s = true) (hn : s.Nodup) (k : Nat) (hk : k < s.length) : (grownBy s k).length = k + 1 := by
  induction k with
  | zero => rfl
  | succ k ih =>
    have h1 := ih (by omega)
    obtain ⟨c, hc⟩ := next_some hs hn (grownBy_s0 s k) (by omega)
    simp [grownBy, hc, h1]
end Go.Proofs.Ytegnedpikpfjfaa

/- The order of growth of a connected shape is a growth of its cells. No program is in sight. -/
namespace Go.Proofs.Ytegnedpikpfjfaa
set_option linter.unusedVariables false
theorem growTo_app (l : List C) (c : C) (k : Nat) (hk : k ≤ l.length) : growTo (l ++ [c]) k = growTo l k := by
  unfold growTo
  rw [Bool.eq_iff_iff, List.all_eq_true, List.all_eq_true]
  constructor
  · intro h i hi
    have := h i hi
    rw [List.mem_range] at hi
    rw [List.getD_eq_getElem?_getD, List.getElem?_append_left (by omega)] at this
    rw [List.getD_eq_getElem?_getD]
    unfold growAt at this ⊢
    rwa [List.take_append_of_le_length (by omega)] at this
  · intro h i hi
    have := h i hi
    rw [List.mem_range] at hi
    rw [List.getD_eq_getElem?_getD] at this
    rw [List.getD_eq_getElem?_getD, List.getElem?_append_left (by omega)]
    unfold growAt at this ⊢
    rwa [List.take_append_of_le_length (by omega)]
theorem grownBy_ok {s : List C} (hsh : isShape s = true) (hc : conn s = true) : ∀ k, k < s.length → growTo (grownBy s k) (k + 1) = true ∧ (grownBy s k).Nodup
  | 0, hk => by
    have h0 : s0 s ∈ s := by
      cases s with
      | nil => simp at hk
      | cons a t => simp [s0]
    refine ⟨?_, by simp [grownBy]⟩
    simp [growTo, grownBy, growAt, hasC, shape_onB hsh _ h0]
  | k + 1, hk => by
    have hn := shape_nodup hsh
    have hne : s ≠ [] := by intro e; subst e; simp at hk
    obtain ⟨h1, h2⟩ := grownBy_ok hsh hc k (by omega)
    have hl := grownBy_len hc hn k (by omega)
    obtain ⟨c, hf⟩ := next_some hc hn (grownBy_s0 s k) (by omega)
    have hm := List.mem_of_find?_eq_some hf
    have hnx := List.find?_some hf
    have e : grownBy s (k + 1) = grownBy s k ++ [c] := by simp [grownBy, hf]
    have hcn : c ∉ grownBy s k := by
      intro h
      simp only [nextTo, Bool.and_eq_true, Bool.not_eq_true'] at hnx
      rw [(hasC_iff _ _).2 h] at hnx
      simp at hnx
    rw [e]
    refine ⟨?_, ?_⟩
    · rw [growTo_succ _ _ (by simp; omega), growTo_app _ _ _ (by omega), h1, Bool.true_and]
      rw [List.getElem_append_right (by omega)]
      simp only [hl, Nat.sub_self, List.getElem_cons_zero]
      unfold growAt
      rw [List.take_append_of_le_length (by omega), List.take_of_length_le (by omega), shape_onB hsh _ hm]
      simp only [nextTo, Bool.and_eq_true, Bool.not_eq_true'] at hnx
      rw [hnx.1, hnx.2]
      simp
    · rw [List.nodup_append]
      refine ⟨h2, by simp, ?_⟩
      intro a ha b hb hab
      simp only [List.mem_singleton] at hb
      rw [hb] at hab
      rw [hab] at ha
      exact hcn ha
theorem grow_all {xs : List C} (h : isConn xs = true) : isGrowth (grownBy xs (xs.length - 1)) = true ∧ sortC (grownBy xs (xs.length - 1)) = xs ∧ (grownBy xs (xs.length - 1)).length = xs.length := by
  have hs := conn_shape h
  have hlen := shape_len hs
  have hcn : conn xs = true := by simp only [isConn, Bool.and_eq_true] at h; exact h.2
  have hnd := shape_nodup hs
  obtain ⟨h1, h2⟩ := grownBy_ok hs hcn (xs.length - 1) (by omega)
  have hl := grownBy_len hcn hnd (xs.length - 1) (by omega)
  have hsub := grownBy_sub (s := xs) (by intro e; rw [e] at hlen; simp at hlen) (xs.length - 1)
  generalize grownBy xs (xs.length - 1) = G at *
  refine ⟨?_, ?_, by omega⟩
  · unfold isGrowth
    rw [hl, h1]
    simp only [Bool.true_and, Bool.and_eq_true, decide_eq_true_eq]
    omega
  · have hmem : ∀ x, x ∈ G ↔ x ∈ xs := fun x => ⟨hsub x, fun hx => by
      by_cases hG : x ∈ G
      · exact hG
      · exfalso
        have := nodup_len G (xs.erase x) h2 (fun c hc => (List.mem_erase_of_ne (by intro e; subst e; exact hG hc)).2 (hsub c hc))
        rw [List.length_erase_of_mem hx] at this
        omega⟩
    have e1 : sortC G = sortC xs := sortG_same befC_sto hmem
    rw [e1]
    refine sortC_id ?_
    unfold IncG
    rw [List.pairwise_iff_getElem]
    intro i j hi hj hij
    exact shape_bef hs j i hj hij
end Go.Proofs.Ytegnedpikpfjfaa

/- Shapes turned, their orientations: plain functions. No program is in sight. -/
namespace Go.Proofs.Ytegnedpikpfjfaa
open Go.RowKit
set_option linter.unusedVariables false
/-- A cell turned. -/
def rotC : Nat → C → C
  | 0, c => c
  | k + 1, c => (-(rotC k c).2, (rotC k c).1)
def flipC (m : Nat) (c : C) : C := if 4 ≤ m then (-c.1, c.2) else c
def motC (m : Nat) (c : C) : C := rotC (m % 4) (flipC m c)
def in7 (b : Int) (c : C) : Prop := (-b ≤ c.1 ∧ c.1 ≤ b) ∧ (-b ≤ c.2 ∧ c.2 ≤ b)
theorem in7_rot {b : Int} {c : C} (h : in7 b c) : ∀ k, in7 b (rotC k c)
  | 0 => h
  | k + 1 => by
    have := in7_rot h k
    unfold in7 at this ⊢
    simp only [rotC]
    omega
theorem in7_flip {b : Int} {c : C} (h : in7 b c) (m : Nat) : in7 b (flipC m c) := by
  unfold in7 at h ⊢
  unfold flipC
  split
  · simp only; omega
  · exact h
theorem in7_mot {b : Int} {c : C} (h : in7 b c) (m : Nat) : in7 b (motC m c) := in7_rot (in7_flip h m) _
theorem in7_onB {c : C} (h : onB c = true) : in7 7 c := by
  simp [onB] at h
  unfold in7
  omega
/-- A shape turned, in its corner. -/
def turnV (s : List C) (m : Nat) : List C := cornI (s.map (motC m))
theorem turn_in {s : List C} (hs : isShape s = true) (m : Nat) : ∀ c ∈ s.map (motC m), in7 7 c := by
  intro c hc
  obtain ⟨d, hd, rfl⟩ := List.mem_map.1 hc
  exact in7_mot (in7_onB (shape_onB hs d hd)) m
theorem corn_in {s : List C} (h0 : 0 < s.length) (h : ∀ c ∈ s, in7 7 c) : ∀ c ∈ cornI s, (0 ≤ c.1 ∧ c.1 ≤ 14) ∧ (0 ≤ c.2 ∧ c.2 ≤ 14) := by
  intro c hc
  unfold cornI at hc
  rw [sortC_mem, mv_mem] at hc
  have h1 := h _ hc
  have h2 := minC_le (·.1) hc
  have h3 := minC_le (·.2) hc
  obtain ⟨d, hd, e⟩ := minC_at (·.1) h0
  obtain ⟨f, hf, e2⟩ := minC_at (·.2) h0
  have h4 := h d hd
  have h5 := h f hf
  unfold in7 at h1 h4 h5
  simp only at h1 h2 h3
  omega
theorem turn_small {s : List C} (hs : isShape s = true) (m : Nat) : ∀ c ∈ turnV s m, (0 ≤ c.1 ∧ c.1 ≤ 14) ∧ (0 ≤ c.2 ∧ c.2 ≤ 14) :=
  corn_in (by have := (shape_len hs).1; rw [List.length_map]; omega) (turn_in hs m)
theorem turn_len {s : List C} (hs : isShape s = true) (m : Nat) : 1 ≤ (turnV s m).length ∧ (turnV s m).length ≤ 8 := by
  have h1 := shape_len hs
  have h2 := cornI_len (s.map (motC m))
  rw [List.length_map] at h2
  refine ⟨?_, by unfold turnV; omega⟩
  have h3 : 0 < (mv (s.map (motC m)) (-(minC (·.1) (s.map (motC m)))) (-(minC (·.2) (s.map (motC m))))).length := by rw [mv_len, List.length_map]; omega
  exact sortC_ne h3
/-- The orientations on the way. -/
def orTo (s : List C) : Nat → List (List C)
  | 0 => []
  | k + 1 => putG ltS (orTo s k) (turnV s k)
def orV (s : List C) : List (List C) := if isShape s then orTo s 8 else []
theorem orTo_inc (s : List C) : ∀ k, IncG ltS (orTo s k)
  | 0 => List.Pairwise.nil
  | k + 1 => (putG_inc ltS_sto (orTo_inc s k) _).1
theorem orTo_mem (s : List C) : ∀ k x, x ∈ orTo s k → ∃ m, m < k ∧ x = turnV s m
  | 0, x, h => by simp [orTo] at h
  | k + 1, x, h => by
    rcases ((putG_inc ltS_sto (orTo_inc s k) _).2 x).1 h with h | h
    · obtain ⟨m, hm, e⟩ := orTo_mem s k x h
      exact ⟨m, by omega, e⟩
    · exact ⟨k, by omega, h⟩
theorem orTo_len (s : List C) : ∀ k, (orTo s k).length ≤ k
  | 0 => by simp [orTo]
  | k + 1 => by
    have h1 := orTo_len s k
    have h2 := putG_len (lt := ltS) (orTo s k) (turnV s k)
    show (putG ltS (orTo s k) (turnV s k)).length ≤ _
    omega
theorem orV_fine {s : List C} : ∀ t ∈ orV s, (1 ≤ t.length ∧ t.length ≤ 8) ∧ ∀ c ∈ t, (0 ≤ c.1 ∧ c.1 ≤ 14) ∧ (0 ≤ c.2 ∧ c.2 ≤ 14) := by
  intro t ht
  unfold orV at ht
  split at ht
  · next hs =>
    obtain ⟨m, _, rfl⟩ := orTo_mem s 8 t ht
    exact ⟨turn_len hs m, turn_small hs m⟩
  · simp at ht
theorem orV_len (s : List C) : (orV s).length ≤ 8 := by
  unfold orV
  split
  · exact orTo_len s 8
  · simp
end Go.Proofs.Ytegnedpikpfjfaa

/- Insertion sort by exchanges of neighbours, on lists. No program is in sight. -/
namespace Go.Proofs.Ytegnedpikpfjfaa
open Go.RowKit
set_option linter.unusedVariables false
section
variable {α : Type} [Inhabited α] {lt : α → α → Bool}
/-- The elements at i and j exchanged. -/
def swL (l : List α) (i j : Nat) : List α := (l.set i (l.getD j default)).set j (l.getD i default)
theorem swL_len (l : List α) (i j : Nat) : (swL l i j).length = l.length := by simp [swL]
theorem getD_in (l : List α) {i : Nat} (h : i < l.length) : l.getD i default = l[i] := by rw [List.getD_eq_getElem?_getD, List.getElem?_eq_getElem h]; rfl
theorem swL_get (l : List α) {i j : Nat} (hi : i < l.length) (hj : j < l.length) (k : Nat) : (swL l i j).getD k default = if k = j then l.getD i default else if k = i then l.getD j default else l.getD k default := by
  unfold swL
  simp only [List.getD_eq_getElem?_getD, List.getElem?_set, List.length_set]
  by_cases h1 : j = k
  · subst h1
    simp [hj]
  · simp only [if_neg h1]
    rw [if_neg (Ne.symm h1)]
    by_cases h2 : i = k
    · subst h2
      simp [hi]
    · simp only [if_neg h2]
      rw [if_neg (Ne.symm h2)]
theorem swL_mem (l : List α) {i j : Nat} (hi : i < l.length) (hj : j < l.length) (x : α) : x ∈ swL l i j ↔ x ∈ l := by
  have key : ∀ (l : List α) (i j : Nat), i < l.length → j < l.length → x ∈ swL l i j → x ∈ l := by
    intro l i j hi hj h
    obtain ⟨k, hk, rfl⟩ := List.mem_iff_getElem.1 h
    rw [← getD_in _ hk, swL_get l hi hj]
    split
    · exact getD_mem hi
    · split
      · exact getD_mem hj
      · exact getD_mem (by rw [swL_len] at hk; exact hk)
  refine ⟨key l i j hi hj, fun h => ?_⟩
  obtain ⟨k, hk, rfl⟩ := List.mem_iff_getElem.1 h
  rw [← getD_in _ hk]
  have hm : ∀ q, q < l.length → (swL l i j).getD q default ∈ swL l i j := fun q hq => getD_mem (by rw [swL_len]; exact hq)
  by_cases h1 : k = i
  · subst h1
    have := hm j hj
    rwa [swL_get l hi hj, if_pos rfl] at this
  · by_cases h2 : k = j
    · subst h2
      have := hm i hi
      rw [swL_get l hi hj] at this
      by_cases h3 : i = k
      · exact absurd h3.symm h1
      · rwa [if_neg h3, if_pos rfl] at this
    · have := hm k hk
      rwa [swL_get l hi hj, if_neg h2, if_neg h1] at this
/-- The first i + 1 elements are in order but for the one at j, that may be less than some ahead of it. -/
def NearO (lt : α → α → Bool) (l : List α) (i j : Nat) : Prop := ∀ a b, a < b → b ≤ i → b ≠ j → lt (l.getD b default) (l.getD a default) = false
def OrdTo (lt : α → α → Bool) (l : List α) (i : Nat) : Prop := ∀ a b, a < b → b < i → lt (l.getD b default) (l.getD a default) = false
theorem OrdTo.start (l : List α) : OrdTo lt l 1 := fun a b h1 h2 => by omega
theorem OrdTo.near {l : List α} {i : Nat} (h : OrdTo lt l i) : NearO lt l i i := fun a b h1 h2 h3 => h a b h1 (by omega)
theorem NearO.zero {l : List α} {i : Nat} (h : NearO lt l i 0) : OrdTo lt l (i + 1) := fun a b h1 h2 => h a b h1 (by omega) (by omega)
theorem NearO.stop (hO : STO lt) {l : List α} {i j : Nat} (h : NearO lt l i (j + 1)) (hji : j + 1 ≤ i) (hl : lt (l.getD (j + 1) default) (l.getD j default) = false) : OrdTo lt l (i + 1) := by
  intro a b h1 h2
  by_cases hb : b = j + 1
  · subst hb
    by_cases ha : a = j
    · subst ha; exact hl
    · have h3 := h a j (by omega) (by omega) (by omega)
      cases hc : lt (l.getD (j + 1) default) (l.getD a default) with
      | false => rfl
      | true =>
        exfalso
        cases hd : lt (l.getD a default) (l.getD j default) with
        | true => rw [hO.trans hc hd] at hl; cases hl
        | false => rw [hO.tot hd h3] at hc; rw [hc] at hl; cases hl
  · exact h a b h1 (by omega) hb
theorem NearO.step (hO : STO lt) {l : List α} {i j : Nat} (h : NearO lt l i (j + 1)) (hji : j + 1 ≤ i) (hil : i < l.length) (hl : lt (l.getD (j + 1) default) (l.getD j default) = true) : NearO lt (swL l (j + 1) j) i j := by
  have hj1 : j + 1 < l.length := by omega
  have hj : j < l.length := by omega
  intro a b h1 h2 h3
  rw [swL_get l hj1 hj, swL_get l hj1 hj, if_neg h3]
  by_cases hb : b = j + 1
  · rw [if_pos hb]
    by_cases ha : a = j
    · rw [if_pos ha]; exact hO.asym hl
    · rw [if_neg ha, if_neg (by omega)]
      exact h a j (by omega) (by omega) (by omega)
  · rw [if_neg hb]
    by_cases ha : a = j
    · rw [if_pos ha]
      exact h (j + 1) b (by omega) h2 hb
    · rw [if_neg ha]
      by_cases ha2 : a = j + 1
      · rw [if_pos ha2]
        exact h j b (by omega) h2 hb
      · rw [if_neg ha2]
        exact h a b h1 h2 hb
theorem OrdTo.done {l : List α} (h : OrdTo lt l l.length) : l.Pairwise (fun a b => lt b a = false) := by
  rw [List.pairwise_iff_getElem]
  intro i j hi hj hij
  have := h i j hij hj
  rwa [getD_in l hj, getD_in l hi] at this
end
end Go.Proofs.Ytegnedpikpfjfaa

/- Shapes with one cell more, all shapes of some cells: plain functions. No program is in sight. -/
namespace Go.Proofs.Ytegnedpikpfjfaa
open Go.RowKit
set_option linter.unusedVariables false
/-- The neighbours of a cell, in the program's order, in the reference's. -/
def sidesV (c : C) : List C := [(c.1, c.2 - 1), (c.1 - 1, c.2), (c.1 + 1, c.2), (c.1, c.2 + 1)]
def sidesS (c : C) : List C := [(c.1 + 1, c.2), (c.1, c.2 + 1), (c.1 - 1, c.2), (c.1, c.2 - 1)]
theorem sides_same (c d : C) : d ∈ sidesV c ↔ d ∈ sidesS c := by
  simp only [sidesV, sidesS, List.mem_cons, List.not_mem_nil, or_false]
  constructor
  · rintro (h | h | h | h) <;> simp [h]
  · rintro (h | h | h | h) <;> simp [h]
/-- The list with one shape more, if there is one at place d. -/
def extStep (s : List C) (out : List (List C)) (d : C) : List (List C) := if hasC s d.1 d.2 then out else if isShape (cornI (s ++ [d])) then putG ltS out (cornI (s ++ [d])) else out
def extTo (f : C → List C) (s : List C) (k : Nat) : List (List C) := ((s.take k).flatMap f).foldl (extStep s) []
def extV (s : List C) : List (List C) := extTo sidesV s s.length
theorem extTo_succ (f : C → List C) (s : List C) (k : Nat) (hk : k < s.length) : extTo f s (k + 1) = (f s[k]).foldl (extStep s) (extTo f s k) := by
  unfold extTo
  rw [List.take_succ_eq_append_getElem hk, List.flatMap_append, List.foldl_append]
  congr 1
  simp
/-- What a list of shapes in order bears: they are shapes, in order. -/
def FineF (F : List (List C)) : Prop := IncG ltS F ∧ ∀ x ∈ F, isShape x = true
theorem FineF.nil : FineF [] := ⟨List.Pairwise.nil, by simp⟩
theorem FineF.put {F : List (List C)} (h : FineF F) {t : List C} (ht : isShape t = true) : FineF (putG ltS F t) := by
  obtain ⟨h1, h2⟩ := putG_inc ltS_sto h.1 t
  refine ⟨h1, fun x hx => ?_⟩
  rcases (h2 x).1 hx with h3 | h3
  · exact h.2 x h3
  · rw [h3]; exact ht
theorem FineF.step {F : List (List C)} (h : FineF F) (s : List C) (d : C) : FineF (extStep s F d) := by
  unfold extStep
  split
  · exact h
  · split
    · next hs => exact h.put hs
    · exact h
theorem FineF.fold {F : List (List C)} (h : FineF F) (s : List C) (l : List C) : FineF (l.foldl (extStep s) F) := by
  induction l generalizing F with
  | nil => exact h
  | cons a t ih => exact ih (h.step s a)
theorem FineF.len {F : List (List C)} (h : FineF F) : ∀ x ∈ F, x.length ≤ 8 := fun x hx => (shape_len (h.2 x hx)).2
theorem extTo_fine (f : C → List C) (s : List C) (k : Nat) : FineF (extTo f s k) := FineF.nil.fold s _
theorem extStep_len (s : List C) (F : List (List C)) (d : C) : (extStep s F d).length ≤ F.length + 1 := by
  unfold extStep
  split
  · omega
  · split
    · exact putG_len _ _
    · omega
theorem foldExt_len (s : List C) (l : List C) (F : List (List C)) : (l.foldl (extStep s) F).length ≤ F.length + l.length := by
  induction l generalizing F with
  | nil => simp
  | cons a t ih =>
    rw [List.foldl_cons]
    have := ih (extStep s F a)
    have := extStep_len s F a
    simp only [List.length_cons]
    omega
theorem extTo_len (f : C → List C) (hf : ∀ c, (f c).length = 4) (s : List C) : ∀ k, k ≤ s.length → (extTo f s k).length ≤ 4 * k
  | 0, _ => by simp [extTo]
  | k + 1, hk => by
    rw [extTo_succ f s k (by omega)]
    have := foldExt_len s (f s[k]) (extTo f s k)
    rw [hf] at this
    have := extTo_len f hf s k (by omega)
    omega
/-- What is in the list. -/
def extP (s : List C) (x : List C) (d : C) : Prop := hasC s d.1 d.2 = false ∧ isShape (cornI (s ++ [d])) = true ∧ x = cornI (s ++ [d])
theorem extStep_mem {F : List (List C)} (h : FineF F) (s : List C) (d : C) (x : List C) : x ∈ extStep s F d ↔ x ∈ F ∨ extP s x d := by
  unfold extStep extP
  cases h1 : hasC s d.1 d.2 with
  | true => simp
  | false =>
    cases h2 : isShape (cornI (s ++ [d])) with
    | true =>
      simp only [Bool.false_eq_true, if_false, if_true, true_and]
      exact (putG_inc ltS_sto h.1 _).2 x
    | false => simp
theorem foldExt_mem (s : List C) (l : List C) {F : List (List C)} (h : FineF F) (x : List C) : x ∈ l.foldl (extStep s) F ↔ x ∈ F ∨ ∃ d ∈ l, extP s x d := by
  induction l generalizing F with
  | nil => simp
  | cons a t ih =>
    rw [List.foldl_cons, ih (h.step s a), extStep_mem h]
    simp only [List.mem_cons]
    constructor
    · rintro ((h | h) | ⟨d, hd, h⟩)
      · exact .inl h
      · exact .inr ⟨a, .inl rfl, h⟩
      · exact .inr ⟨d, .inr hd, h⟩
    · rintro (h | ⟨d, rfl | hd, h⟩)
      · exact .inl (.inl h)
      · exact .inl (.inr h)
      · exact .inr ⟨d, hd, h⟩
theorem ext_same (s : List C) : extTo sidesS s s.length = extV s := by
  refine incG_eq ltS_sto _ _ (extTo_fine _ _ _).1 (extTo_fine _ _ _).1 fun x => ?_
  unfold extV extTo
  rw [foldExt_mem s _ FineF.nil, foldExt_mem s _ FineF.nil]
  simp only [List.not_mem_nil, false_or, List.mem_flatMap, List.take_length]
  constructor
  · rintro ⟨d, ⟨c, hc, hd⟩, h⟩
    exact ⟨d, ⟨c, hc, (sides_same c d).2 hd⟩, h⟩
  · rintro ⟨d, ⟨c, hc, hd⟩, h⟩
    exact ⟨d, ⟨c, hc, (sides_same c d).1 hd⟩, h⟩
/-- All shapes of k + 1 cells. -/
def growN (F : List (List C)) (k : Nat) : List (List C) := (F.take k).foldl (fun acc s => (extV s).foldl (putG ltS) acc) []
def fixV : Nat → List (List C)
  | 0 => [[(0, 0)]]
  | k + 1 => growN (fixV k) (fixV k).length
theorem growN_succ (F : List (List C)) (k : Nat) (hk : k < F.length) : growN F (k + 1) = (extV F[k]).foldl (putG ltS) (growN F k) := by
  unfold growN
  rw [List.take_succ_eq_append_getElem hk, List.foldl_append]
  rfl
theorem FineF.puts {F : List (List C)} (h : FineF F) {l : List (List C)} (hl : ∀ x ∈ l, isShape x = true) : FineF (l.foldl (putG ltS) F) := by
  induction l generalizing F with
  | nil => exact h
  | cons a t ih => exact ih (h.put (hl a (by simp))) (fun x hx => hl x (by simp [hx]))
theorem growN_fine (F : List (List C)) : ∀ k, k ≤ F.length → FineF (growN F k)
  | 0, _ => FineF.nil
  | k + 1, hk => by
    rw [growN_succ F k (by omega)]
    exact (growN_fine F k (by omega)).puts (extTo_fine _ _ _).2
theorem fixV_fine : ∀ k, FineF (fixV k)
  | 0 => ⟨List.pairwise_singleton _ _, by intro x hx; simp only [fixV, List.mem_singleton] at hx; rw [hx]; decide⟩
  | k + 1 => growN_fine _ _ (Nat.le_refl _)
theorem extV_len (s : List C) : (extV s).length ≤ 4 * s.length := extTo_len sidesV (fun _ => rfl) s s.length (Nat.le_refl _)
theorem growN_len (F : List (List C)) (hF : ∀ x ∈ F, isShape x = true) : ∀ k, k ≤ F.length → (growN F k).length ≤ 32 * k
  | 0, _ => by simp [growN]
  | k + 1, hk => by
    rw [growN_succ F k (by omega)]
    have h1 := foldlG_len (lt := ltS) (extV F[k]) (growN F k)
    have h2 := extV_len F[k]
    have h3 := (shape_len (hF _ (List.getElem_mem (by omega : k < F.length)))).2
    have := growN_len F hF k (by omega)
    omega
theorem fixV_len (k : Nat) : (fixV k).length ≤ 32 ^ k := by
  induction k with
  | zero => simp [fixV]
  | succ k ih =>
    have := growN_len (fixV k) (fixV_fine k).2 (fixV k).length (Nat.le_refl _)
    show (growN _ _).length ≤ _
    rw [Nat.pow_succ]
    omega
/-- The numbers that the walks meet: small cells. -/
theorem sidesV_small {c : C} (h : onB c = true) : ∀ d ∈ sidesV c, -1 ≤ d.1 ∧ d.1 ≤ 8 ∧ -1 ≤ d.2 ∧ d.2 ≤ 8 := by
  simp [onB] at h
  intro d hd
  simp only [sidesV, List.mem_cons, List.not_mem_nil, or_false] at hd
  rcases hd with rfl | rfl | rfl | rfl <;> (simp only; omega)
theorem app_small {s : List C} (hs : isShape s = true) {d : C} (hd : -1 ≤ d.1 ∧ d.1 ≤ 8 ∧ -1 ≤ d.2 ∧ d.2 ≤ 8) : ∀ c ∈ s ++ [d], small c := by
  intro c hc
  rcases List.mem_append.1 hc with h | h
  · exact shape_small hs c h
  · simp only [List.mem_singleton] at h
    subst h
    unfold small
    omega
end Go.Proofs.Ytegnedpikpfjfaa

/- Corners of moved lists, what a connected shape's corner is; all shapes are among those grown. No program is in sight. -/
namespace Go.Proofs.Ytegnedpikpfjfaa
open Go.RowKit
set_option linter.unusedVariables false
theorem cornI_same {A B : List C} (hA : 0 < A.length) (hB : 0 < B.length) (x y : Int) (h : ∀ c : C, c ∈ B ↔ ((c.1 - x, c.2 - y) : C) ∈ A) : cornI B = cornI A := by
  have e1 : minC (·.1) B = minC (·.1) A + x := by
    obtain ⟨a, ha, e⟩ := minC_at (·.1) hA
    refine minC_uniq (·.1) hB ⟨(a.1 + x, a.2 + y), (h _).2 (by simpa using ha), by rw [e]⟩ fun c hc => ?_
    have h1 := minC_le (·.1) ((h c).1 hc)
    simp only at h1
    omega
  have e2 : minC (·.2) B = minC (·.2) A + y := by
    obtain ⟨a, ha, e⟩ := minC_at (·.2) hA
    refine minC_uniq (·.2) hB ⟨(a.1 + x, a.2 + y), (h _).2 (by simpa using ha), by rw [e]⟩ fun c hc => ?_
    have h1 := minC_le (·.2) ((h c).1 hc)
    simp only at h1
    omega
  unfold cornI
  refine incG_eq befC_sto _ _ (sortC_inc _) (sortC_inc _) fun c => ?_
  rw [sortC_mem, sortC_mem, mv_mem, mv_mem, h, e1, e2]
  have e3 : ((c.1 - -(minC (·.1) A + x) - x, c.2 - -(minC (·.2) A + y) - y) : C) = (c.1 - -(minC (·.1) A), c.2 - -(minC (·.2) A)) := Prod.ext (by simp only; omega) (by simp only; omega)
  exact iff_of_eq (congrArg (· ∈ A) e3)
theorem cornI_mem (s : List C) (c : C) : c ∈ cornI s ↔ ((c.1 + minC (·.1) s, c.2 + minC (·.2) s) : C) ∈ s := by
  unfold cornI
  rw [sortC_mem, mv_mem]
  have e3 : ((c.1 - -(minC (·.1) s), c.2 - -(minC (·.2) s)) : C) = (c.1 + minC (·.1) s, c.2 + minC (·.2) s) := Prod.ext (by simp only; omega) (by simp only; omega)
  exact iff_of_eq (congrArg (· ∈ s) e3)
theorem cornI_shape {s : List C} (h : isShape s = true) : cornI s = mv s (-(minC (·.1) s)) (-(minC (·.2) s)) := sortC_id (mv_inc (isShape_inc h) _ _)
theorem shape_of {l : List C} (h1 : IncG befC l) (h2 : ∀ c ∈ l, onB c = true) (h3 : 1 ≤ l.length) (h4 : l.length ≤ 8) : isShape l = true := by
  simp only [isShape, Bool.and_eq_true, decide_eq_true_eq]
  refine ⟨?_, h3, h4⟩
  unfold shapeTo
  rw [List.all_eq_true]
  intro i hi
  rw [List.mem_range] at hi
  rw [List.getD_eq_getElem?_getD, List.getElem?_eq_getElem hi]
  simp only [shapeAt, Option.getD_some, Bool.and_eq_true, Bool.or_eq_true, beq_iff_eq]
  refine ⟨h2 _ (List.getElem_mem hi), ?_⟩
  rcases Nat.eq_zero_or_pos i with h0 | h0
  · exact .inl h0
  · refine .inr ?_
    rw [List.getD_eq_getElem?_getD, List.getElem?_eq_getElem (by omega : i - 1 < l.length)]
    unfold IncG at h1
    rw [List.pairwise_iff_getElem] at h1
    exact h1 (i - 1) i (by omega) hi (by omega)
theorem inc_nodup {l : List C} (h : IncG befC l) : l.Nodup := by
  unfold IncG at h
  refine h.imp fun {a b} hab e => ?_
  rw [e, befC_irr] at hab
  cases hab
theorem sortC_len_nd {s : List C} (h : s.Nodup) : (sortC s).length = s.length := by
  have h1 := sortC_len s
  have h2 := nodup_len s (sortC s) h (fun c hc => (sortC_mem s c).2 hc)
  omega
theorem mv_nodup {s : List C} (h : s.Nodup) (x y : Int) : (mv s x y).Nodup := by
  unfold mv
  unfold List.Nodup at h ⊢
  rw [List.pairwise_map]
  refine h.imp fun {a b} hab e => hab ?_
  simp only [Prod.mk.injEq] at e
  exact Prod.ext (by omega) (by omega)
theorem cornI_len_nd {s : List C} (h : s.Nodup) : (cornI s).length = s.length := by
  unfold cornI
  rw [sortC_len_nd (mv_nodup h _ _), mv_len]
/-- The corner of different cells that lie near each other is a shape. -/
theorem corn_shape7 {s : List C} (h1 : s.Nodup) (h2 : ∀ a ∈ s, ∀ b ∈ s, a.1 - b.1 ≤ 7 ∧ a.2 - b.2 ≤ 7) (h3 : 1 ≤ s.length) (h4 : s.length ≤ 8) : isShape (cornI s) = true := by
  have hl := cornI_len_nd h1
  refine shape_of (sortC_inc _) (fun c hc => ?_) (by omega) (by omega)
  have h5 := (cornI_mem s c).1 hc
  have h7 := minC_le (·.1) h5
  have h8 := minC_le (·.2) h5
  obtain ⟨a, ha, e⟩ := minC_at (·.1) (show 0 < s.length by omega)
  obtain ⟨b, hb, f⟩ := minC_at (·.2) (show 0 < s.length by omega)
  have h9 := h2 _ h5 a ha
  have h10 := h2 _ h5 b hb
  simp only [onB, Bool.and_eq_true, decide_eq_true_eq]
  simp only at h7 h8 h9 h10
  omega
theorem corn_shape {s : List C} (h1 : s.Nodup) (h2 : ∀ c ∈ s, onB c = true) (h3 : 1 ≤ s.length) (h4 : s.length ≤ 8) : isShape (cornI s) = true := by
  refine corn_shape7 h1 (fun a ha b hb => ?_) h3 h4
  have h5 := h2 a ha
  have h6 := h2 b hb
  simp only [onB, Bool.and_eq_true, decide_eq_true_eq] at h5 h6
  omega
theorem growN_mem (F : List (List C)) (hF : ∀ x ∈ F, isShape x = true) : ∀ k, k ≤ F.length → ∀ x, (∃ s ∈ F.take k, x ∈ extV s) → x ∈ growN F k
  | 0, _, x, h => by obtain ⟨s, hs, _⟩ := h; simp at hs
  | k + 1, hk, x, h => by
    rw [growN_succ F k (by omega)]
    have hfg := growN_fine F k (by omega)
    rw [(foldlG_inc ltS_sto _ _ hfg.1).2]
    obtain ⟨s, hs, hx⟩ := h
    rw [List.take_succ_eq_append_getElem (by omega : k < F.length)] at hs
    rcases List.mem_append.1 hs with hs | hs
    · exact .inl (growN_mem F hF k (by omega) x ⟨s, hs, hx⟩)
    · simp only [List.mem_singleton] at hs
      rw [hs] at hx
      exact .inr hx
theorem extV_mem (s x : List C) (c d : C) (hc : c ∈ s) (hd : d ∈ sidesV c) (h : extP s x d) : x ∈ extV s := by
  unfold extV extTo
  rw [foldExt_mem s _ FineF.nil]
  exact .inr ⟨d, by rw [List.take_length]; exact List.mem_flatMap.2 ⟨c, hc, hd⟩, h⟩
theorem near_sides {a b : C} (h : near a b = true) : a ∈ sidesV b := by
  simp only [near, decide_eq_true_eq] at h
  obtain ⟨a1, a2⟩ := a
  obtain ⟨b1, b2⟩ := b
  simp only at h
  simp only [sidesV, List.mem_cons, List.not_mem_nil, or_false, Prod.mk.injEq]
  omega
theorem hasC_iff2 (s : List C) (c : C) : hasC s c.1 c.2 = true ↔ c ∈ s := by
  unfold hasC
  rw [List.any_eq_true]
  constructor
  · rintro ⟨d, hd, h⟩
    simp only [Bool.and_eq_true, beq_iff_eq] at h
    have e : d = c := Prod.ext h.1 h.2
    rw [← e]; exact hd
  · intro h
    exact ⟨c, h, by simp⟩
/-- Cells that grow one by one: their corner is among the shapes grown. -/
theorem grow_fix {G : List C} (hg : isGrowth G = true) : ∀ k, k < G.length → cornI (G.take (k + 1)) ∈ fixV k := by
  simp only [isGrowth, Bool.and_eq_true, decide_eq_true_eq] at hg
  obtain ⟨hg, hlen⟩ := hg
  have hat : ∀ i (hi : i < G.length), growAt G i G[i] = true := by
    intro i hi
    unfold growTo at hg
    rw [List.all_eq_true] at hg
    have := hg i (List.mem_range.2 hi)
    rwa [List.getD_eq_getElem?_getD, List.getElem?_eq_getElem hi] at this
  have hon : ∀ c ∈ G, onB c = true := by
    intro c hc
    obtain ⟨i, hi, rfl⟩ := List.mem_iff_getElem.1 hc
    have := hat i hi
    simp only [growAt, Bool.and_eq_true] at this
    exact this.1.1
  have hnd : ∀ k, k ≤ G.length → (G.take k).Nodup := by
    intro k
    induction k with
    | zero => intro _; simp
    | succ k ih =>
      intro hk
      rw [List.take_succ_eq_append_getElem (by omega : k < G.length), List.nodup_append]
      refine ⟨ih (by omega), by simp, fun a ha b hb e => ?_⟩
      simp only [List.mem_singleton] at hb
      have := hat k (by omega)
      simp only [growAt, Bool.and_eq_true, Bool.not_eq_true'] at this
      have h2 : hasC (G.take k) G[k].1 G[k].2 = true := (hasC_iff2 _ _).2 (by rw [← hb, ← e]; exact ha)
      rw [h2] at this
      cases this.1.2
  intro k
  induction k with
  | zero =>
    intro hk
    rw [List.take_succ_eq_append_getElem hk]
    have e : cornI (G.take 0 ++ [G[0]]) = cornI [((0 : Int), (0 : Int))] := by
      refine cornI_same (by simp) (by simp) G[0].1 G[0].2 fun c => ?_
      simp only [List.take_zero, List.nil_append, List.mem_singleton, Prod.mk.injEq]
      constructor
      · rintro rfl; omega
      · intro h; exact Prod.ext (by omega) (by omega)
    rw [e]
    have e2 : cornI [((0 : Int), (0 : Int))] = [(0, 0)] := by decide
    rw [e2]
    simp [fixV]
  | succ k ih =>
    intro hk
    have h1 := ih (by omega)
    have hP := hnd (k + 1) (by omega)
    have hP2 := hnd (k + 2) (by omega)
    have hx := hat (k + 1) hk
    simp only [growAt, Bool.and_eq_true, Bool.not_eq_true', Bool.or_eq_true, beq_iff_eq] at hx
    obtain ⟨⟨hx1, hx2⟩, hx3⟩ := hx
    have hx4 : touch (G.take (k + 1)) G[k + 1] = true := by rcases hx3 with h | h; omega; exact h
    unfold touch at hx4
    rw [List.any_eq_true] at hx4
    obtain ⟨y, hy, hn⟩ := hx4
    have hmem : ∀ c, c ∈ G.take (k + 1) → c ∈ G := fun c h => List.mem_of_mem_take h
    have e2 : G.take (k + 2) = G.take (k + 1) ++ [G[k + 1]] := List.take_succ_eq_append_getElem hk
    have hsh : isShape (cornI (G.take (k + 1 + 1))) = true := corn_shape hP2 (fun c hc => hon c (List.mem_of_mem_take hc)) (by rw [List.length_take]; omega) (by rw [List.length_take]; omega)
    have hPl : 0 < (G.take (k + 1)).length := by rw [List.length_take]; omega
    generalize G.take (k + 1) = P at *
    generalize G[k + 1] = x at *
    show cornI _ ∈ growN (fixV k) (fixV k).length
    obtain ⟨u, hu⟩ : ∃ u, minC (·.1) P = u := ⟨_, rfl⟩
    obtain ⟨v, hv⟩ : ∃ v, minC (·.2) P = v := ⟨_, rfl⟩
    have hin : ∀ c : C, c ∈ cornI P ↔ ((c.1 + u, c.2 + v) : C) ∈ P := fun c => by rw [cornI_mem, hu, hv]
    refine growN_mem (fixV k) (fixV_fine k).2 _ (Nat.le_refl _) _ ⟨cornI P, by rw [List.take_length]; exact h1, ?_⟩
    have hcS : cornI (cornI P ++ [((x.1 - u, x.2 - v) : C)]) = cornI (G.take (k + 1 + 1)) := by
      rw [e2]
      refine cornI_same (by simp) (by simp) (-u) (-v) fun c => ?_
      rw [List.mem_append, List.mem_append, hin]
      simp only [List.mem_singleton]
      have e3 : ((c.1 - -u, c.2 - -v) : C) = (c.1 + u, c.2 + v) := Prod.ext (by simp only; omega) (by simp only; omega)
      rw [e3]
      have e4 : c = (x.1 - u, x.2 - v) ↔ ((c.1 + u, c.2 + v) : C) = x := by
        constructor
        · rintro rfl; exact Prod.ext (by simp only; omega) (by simp only; omega)
        · rintro rfl; exact Prod.ext (by simp only; omega) (by simp only; omega)
      rw [e4]
    refine extV_mem _ _ ((y.1 - u, y.2 - v) : C) ((x.1 - u, x.2 - v) : C) ?_ ?_ ⟨?_, ?_, hcS.symm⟩
    · rw [hin]
      have e5 : ((y.1 - u + u, y.2 - v + v) : C) = y := Prod.ext (by simp only; omega) (by simp only; omega)
      rw [e5]; exact hy
    · refine near_sides ?_
      simp only [near, decide_eq_true_eq] at hn ⊢
      omega
    · rw [Bool.eq_false_iff]
      intro h
      have h2 := (hin _).1 ((hasC_iff2 _ _).1 h)
      have e5 : ((x.1 - u + u, x.2 - v + v) : C) = x := Prod.ext (by simp only; omega) (by simp only; omega)
      rw [e5] at h2
      rw [(hasC_iff2 _ _).2 h2] at hx2
      cases hx2
    · rw [hcS]; exact hsh
/-- A connected shape, in its corner, is one of all shapes. -/
theorem conn_fix {s : List C} (h : isConn s = true) : cornI s ∈ fixV (s.length - 1) := by
  obtain ⟨h1, h2, h3⟩ := grow_all h
  have hlen := shape_len (conn_shape h)
  have h4 := grow_fix h1 (s.length - 1) (by omega)
  rw [List.take_of_length_le (by omega)] at h4
  have e : cornI s = cornI (grownBy s (s.length - 1)) := by
    refine cornI_same (by omega) (by omega) 0 0 fun c => ?_
    have e0 : ((c.1 - 0, c.2 - 0) : C) = c := Prod.ext (by simp) (by simp)
    rw [e0]
    conv => lhs; rw [← h2]
    exact sortC_mem _ _
  rw [e]
  exact h4
theorem s0_in {s : List C} (h : 0 < s.length) : s0 s ∈ s := by
  unfold s0
  rw [List.getD_eq_getElem?_getD, List.getElem?_eq_getElem h]
  exact List.getElem_mem h
/-- Reached from each other. -/
theorem Rch.trans {s : List C} {a b c : C} (h : Rch s a b) (k : Rch s b c) : Rch s a c := by
  induction k with
  | base => exact h
  | step _ h2 h3 ih => exact ih.step h2 h3
theorem Rch.symm {s : List C} {a b : C} (ha : a ∈ s) (h : Rch s a b) : Rch s b a ∧ b ∈ s := by
  induction h with
  | base => exact ⟨.base, ha⟩
  | @step b c _ h2 h3 ih => exact ⟨Rch.trans (Rch.step .base ih.2 (by rw [near_symm]; exact h3)) ih.1, h2⟩
/-- Connectedness under a map that keeps sides. -/
theorem conn_map {s t : List C} (f : C → C) (hn : ∀ a b, near (f a) (f b) = near a b) (hi : ∀ a b, f a = f b → a = b) (hm : ∀ c, c ∈ t ↔ ∃ b ∈ s, f b = c) (hs : 0 < s.length) (ht : 0 < t.length) : conn t = conn s := by
  have h0 : s0 s ∈ s := s0_in hs
  have t0 : s0 t ∈ t := s0_in ht
  obtain ⟨b0, hb0, e0⟩ := (hm _).1 t0
  rw [Bool.eq_iff_iff, conn_iff, conn_iff]
  constructor
  · intro h
    have key : ∀ d, Rch t (s0 t) d → ∃ b ∈ s, f b = d ∧ Rch s b0 b := by
      intro d hd
      induction hd with
      | base => exact ⟨b0, hb0, e0, .base⟩
      | @step d e _ he hne ih =>
        obtain ⟨b, hb, rfl, hr⟩ := ih
        obtain ⟨b', hb', rfl⟩ := (hm _).1 he
        exact ⟨b', hb', rfl, hr.step hb' (by rw [← hn]; exact hne)⟩
    have all : ∀ c ∈ s, Rch s b0 c := by
      intro c hc
      obtain ⟨b, hb, e, hr⟩ := key _ (h (f c) ((hm _).2 ⟨c, hc, rfl⟩))
      rw [← hi _ _ e]; exact hr
    intro c hc
    exact Rch.trans (Rch.symm hb0 (all _ h0)).1 (all c hc)
  · intro h
    have key : ∀ d, Rch s b0 d → Rch t (f b0) (f d) := by
      intro d hd
      induction hd with
      | base => exact .base
      | @step d e _ he hne ih => exact ih.step ((hm _).2 ⟨e, he, rfl⟩) (by rw [hn]; exact hne)
    intro c hc
    obtain ⟨b, hb, rfl⟩ := (hm c).1 hc
    rw [← e0]
    exact key b (Rch.trans (Rch.symm h0 (h b0 hb0)).1 (h b hb))
/-- Squares of four cells. -/
def sqC (s : List C) (c : C) : Bool := hasC s (c.1 + 1) c.2 && (hasC s c.1 (c.2 + 1) && hasC s (c.1 + 1) (c.2 + 1))
def sqV (s : List C) : Nat := s.countP (sqC s)
end Go.Proofs.Ytegnedpikpfjfaa

/- The shape of a word, plainly. -/
namespace Go.Proofs.Ytegnedpikpfjfaa
open Go.RowKit
set_option linter.unusedVariables false
/-- The shape of a word's places. -/
def sowV (w : List UInt8) : List C × Bool := match wayW (0, 0) w with
  | none => ([], false)
  | some l => if isShape (cornI l) then (cornI l, true) else ([], false)
theorem sowV_none {w : List UInt8} (h : wayW (0, 0) w = none) : sowV w = ([], false) := by unfold sowV; rw [h]
theorem sowV_no {w : List UInt8} {l : List C} (h : wayW (0, 0) w = some l) (hs : isShape (cornI l) = false) : sowV w = ([], false) := by unfold sowV; rw [h]; simp only; rw [hs]; rfl
theorem sowV_yes {w : List UInt8} {l : List C} (h : wayW (0, 0) w = some l) (hs : isShape (cornI l) = true) : sowV w = (cornI l, true) := by unfold sowV; rw [h]; simp only; rw [hs]; rfl
theorem getD_of {l : List C} {i : Nat} (h : i < l.length) : l.getD i (0, 0) = l[i] := by rw [List.getD_eq_getElem?_getD, List.getElem?_eq_getElem h]; rfl
end Go.Proofs.Ytegnedpikpfjfaa

/- append at this translation's element types: cells, integers. -/
namespace Go.Proofs.Ytegnedpikpfjfaa
open Go.RowKit
set_option linter.unusedVariables false

theorem infoC : (Try.prog.info? 29).map (fun i => (i.zero, i.size, i.bytes)) = some (some (.agg #[.int .i64 0, .int .i64 0]), 2, 16) := by kernel_rfl
theorem infoI : (Try.prog.info? 3).map (fun i => (i.zero, i.size, i.bytes)) = some (some (.int .i64 0), 1, 8) := by kernel_rfl

/-- Two cells are equal where both numbers are. -/
theorem eq_cell (w : World) (a b c d : Int) : (binOp .eql 29 (.agg #[.int .i64 a, .int .i64 b]) (.agg #[.int .i64 c, .int .i64 d])).run Try.prog w = .ok (.bool (a == c && b == d)) w := by
  simp [go_sem]
  by_cases h1 : a = c <;> by_cases h2 : b = d <;> simp [h1, h2]
theorem neq_cell (w : World) (a b c d : Int) : (binOp .neq 29 (.agg #[.int .i64 a, .int .i64 b]) (.agg #[.int .i64 c, .int .i64 d])).run Try.prog w = .ok (.bool (!(a == c && b == d))) w := by
  simp [go_sem]
  by_cases h1 : a = c <;> by_cases h2 : b = d <;> simp [h1, h2]
attribute [go_sem ↓ 2000] eq_cell neq_cell

section
variable (w : World) {ops : Array Oper} {rest : List Oper} {o : Oper} {a : Act} {Q : Exit → Act → World → Prop}
theorem app_C (hgd : o.guard = none) (s x : Operand) (ho : o.op = .call { callee := .builtin .append, args := #[s, x], argTypes := #[22, 22] })
    (base : Nat) (A : Option Addr) (n c : Nat) (l : List C) (hs : a.eval s = .slice A n c) (hown : w.ownsRow base 29 2 (.slice A n c) n (vC l))
    (A2 : Option Addr) (m c2 : Nat) (l2 : List C) (hx : a.eval x = .slice A2 m c2) (hr : Rd w A2 (vC l2)) (hl : l2.length = m) (hb : n + m ≤ 1099511627776) (hbase : base ≤ w.heap.size)
    (h : ∀ A' c' w', w'.ownsRow base 29 2 (.slice A' (n + m) c') (n + m) (vC (l ++ l2)) → w.grownBy w' (ob A) → (ob A' = ob A ∨ ob A' = some w.heap.size) → wpList Try.prog ops Q rest (a.put o.dst (.slice A' (n + m) c')) w') :
    wpList Try.prog ops Q (o :: rest) a w := by
  obtain ⟨i0, hi, hz0, hz1, hz2⟩ := info_parts infoC
  refine wpList_app w hgd s x _ ho base _ i0 _ 2 16 Try.underlying22 hi hz0 hz1 hz2 rfl (by omega) A n c _ hs hown A2 m c2 _ hx hr (by rw [vC_length, hl]) (vC_one _) (by unfold maxLen; omega) (by omega) hbase ?_
  intro A' c' w' h1
  rw [← vC_append] at h1
  exact h A' c' w' h1
end
end Go.Proofs.Ytegnedpikpfjfaa

/- What the program's and the reference's functions on single steps do: walks. -/
namespace Go.Proofs.Ytegnedpikpfjfaa
open Go.RowKit
set_option linter.unusedVariables false
attribute [local go_sem ↓] Go.wp_at_zero Go.wp_at_succ

/-- What a step returns: the place behind it, whether it is one. -/
def StepP (c : C) (b : UInt8) (w : World) (e : Ending) (w' : World) : Prop :=
  e = .returned (.tuple #[.agg #[.int .i64 ((stepW c b).getD c).1, .int .i64 ((stepW c b).getD c).2], .bool (stepW c b).isSome]) ∧ Below w.heap.size w w'

theorem stepFrom_i (x y : Int) (b : UInt8) (w : World) :
    Calls Try.prog 19 #[.agg #[.int .i64 x, .int .i64 y], .int .u8 b.toNat] w (StepP (x, y) b w) := by
  by_cases h1 : b = 114
  · subst h1
    go_enter Try.func19, Try.ntmps19
    go_wp2
    exact bodyPost_ret (v := .tuple #[.agg #[.int .i64 (wrap64 (x + 1)), .int .i64 y], .bool true]) (by simp [results, Try.results19, go_sem]) rfl ⟨rfl, (by (repeat (first | with_reducible exact Below.refl _ _ | with_reducible assumption | with_reducible apply bel_alloc | with_reducible apply bel_drew | with_reducible apply bel_drewN | ((with_reducible refine bel_set ?_ ?_); rotate_left; (simp <;> omega)) | (with_reducible refine bel_trans ?_ (by with_reducible assumption)))))⟩
  by_cases h2 : b = 108
  · subst h2
    go_enter Try.func19, Try.ntmps19
    go_wp2
    exact bodyPost_ret (v := .tuple #[.agg #[.int .i64 (wrap64 (x - 1)), .int .i64 y], .bool true]) (by simp [results, Try.results19, go_sem]) rfl ⟨rfl, (by (repeat (first | with_reducible exact Below.refl _ _ | with_reducible assumption | with_reducible apply bel_alloc | with_reducible apply bel_drew | with_reducible apply bel_drewN | ((with_reducible refine bel_set ?_ ?_); rotate_left; (simp <;> omega)) | (with_reducible refine bel_trans ?_ (by with_reducible assumption)))))⟩
  by_cases h3 : b = 100
  · subst h3
    go_enter Try.func19, Try.ntmps19
    go_wp2
    exact bodyPost_ret (v := .tuple #[.agg #[.int .i64 x, .int .i64 (wrap64 (y + 1))], .bool true]) (by simp [results, Try.results19, go_sem]) rfl ⟨rfl, (by (repeat (first | with_reducible exact Below.refl _ _ | with_reducible assumption | with_reducible apply bel_alloc | with_reducible apply bel_drew | with_reducible apply bel_drewN | ((with_reducible refine bel_set ?_ ?_); rotate_left; (simp <;> omega)) | (with_reducible refine bel_trans ?_ (by with_reducible assumption)))))⟩
  by_cases h4 : b = 117
  · subst h4
    go_enter Try.func19, Try.ntmps19
    go_wp2
    exact bodyPost_ret (v := .tuple #[.agg #[.int .i64 x, .int .i64 (wrap64 (y - 1))], .bool true]) (by simp [results, Try.results19, go_sem]) rfl ⟨rfl, (by (repeat (first | with_reducible exact Below.refl _ _ | with_reducible assumption | with_reducible apply bel_alloc | with_reducible apply bel_drew | with_reducible apply bel_drewN | ((with_reducible refine bel_set ?_ ?_); rotate_left; (simp <;> omega)) | (with_reducible refine bel_trans ?_ (by with_reducible assumption)))))⟩
  have e1 : ((b.toNat : Int) == 114) = false := (u8_is b 114).trans (by simpa using h1)
  have e2 : ((b.toNat : Int) == 108) = false := (u8_is b 108).trans (by simpa using h2)
  have e3 : ((b.toNat : Int) == 100) = false := (u8_is b 100).trans (by simpa using h3)
  have e4 : ((b.toNat : Int) == 117) = false := (u8_is b 117).trans (by simpa using h4)
  have e : stepW (x, y) b = none := by simp [stepW, h1, h2, h3, h4]
  clear h1 h2 h3 h4
  have E := Lib.hid e
  clear e
  go_enter Try.func19, Try.ntmps19
  go_wp2
  exact bodyPost_ret (v := .tuple #[.agg #[.int .i64 x, .int .i64 y], .bool false]) (by simp [results, Try.results19, go_sem]) rfl ⟨by rw [E.out]; rfl, (by (repeat (first | with_reducible exact Below.refl _ _ | with_reducible assumption | with_reducible apply bel_alloc | with_reducible apply bel_drew | with_reducible apply bel_drewN | ((with_reducible refine bel_set ?_ ?_); rotate_left; (simp <;> omega)) | (with_reducible refine bel_trans ?_ (by with_reducible assumption)))))⟩

theorem l26Step_s (x y : Int) (b : UInt8) (w : World) :
    Calls Try.prog 9 #[.agg #[.int .i64 x, .int .i64 y], .int .u8 b.toNat] w (StepP (x, y) b w) := by
  by_cases h1 : b = 114
  · subst h1
    go_enter Try.func9, Try.ntmps9
    go_wp2
    exact bodyPost_ret (v := .tuple #[.agg #[.int .i64 (wrap64 (x + 1)), .int .i64 y], .bool true]) (by simp [results, Try.results9, go_sem]) rfl ⟨rfl, (by (repeat (first | with_reducible exact Below.refl _ _ | with_reducible assumption | with_reducible apply bel_alloc | with_reducible apply bel_drew | with_reducible apply bel_drewN | ((with_reducible refine bel_set ?_ ?_); rotate_left; (simp <;> omega)) | (with_reducible refine bel_trans ?_ (by with_reducible assumption)))))⟩
  by_cases h2 : b = 108
  · subst h2
    go_enter Try.func9, Try.ntmps9
    go_wp2
    exact bodyPost_ret (v := .tuple #[.agg #[.int .i64 (wrap64 (x - 1)), .int .i64 y], .bool true]) (by simp [results, Try.results9, go_sem]) rfl ⟨rfl, (by (repeat (first | with_reducible exact Below.refl _ _ | with_reducible assumption | with_reducible apply bel_alloc | with_reducible apply bel_drew | with_reducible apply bel_drewN | ((with_reducible refine bel_set ?_ ?_); rotate_left; (simp <;> omega)) | (with_reducible refine bel_trans ?_ (by with_reducible assumption)))))⟩
  by_cases h3 : b = 100
  · subst h3
    go_enter Try.func9, Try.ntmps9
    go_wp2
    exact bodyPost_ret (v := .tuple #[.agg #[.int .i64 x, .int .i64 (wrap64 (y + 1))], .bool true]) (by simp [results, Try.results9, go_sem]) rfl ⟨rfl, (by (repeat (first | with_reducible exact Below.refl _ _ | with_reducible assumption | with_reducible apply bel_alloc | with_reducible apply bel_drew | with_reducible apply bel_drewN | ((with_reducible refine bel_set ?_ ?_); rotate_left; (simp <;> omega)) | (with_reducible refine bel_trans ?_ (by with_reducible assumption)))))⟩
  by_cases h4 : b = 117
  · subst h4
    go_enter Try.func9, Try.ntmps9
    go_wp2
    exact bodyPost_ret (v := .tuple #[.agg #[.int .i64 x, .int .i64 (wrap64 (y - 1))], .bool true]) (by simp [results, Try.results9, go_sem]) rfl ⟨rfl, (by (repeat (first | with_reducible exact Below.refl _ _ | with_reducible assumption | with_reducible apply bel_alloc | with_reducible apply bel_drew | with_reducible apply bel_drewN | ((with_reducible refine bel_set ?_ ?_); rotate_left; (simp <;> omega)) | (with_reducible refine bel_trans ?_ (by with_reducible assumption)))))⟩
  have e1 : ((b.toNat : Int) == 114) = false := (u8_is b 114).trans (by simpa using h1)
  have e2 : ((b.toNat : Int) == 108) = false := (u8_is b 108).trans (by simpa using h2)
  have e3 : ((b.toNat : Int) == 100) = false := (u8_is b 100).trans (by simpa using h3)
  have e4 : ((b.toNat : Int) == 117) = false := (u8_is b 117).trans (by simpa using h4)
  have e : stepW (x, y) b = none := by simp [stepW, h1, h2, h3, h4]
  clear h1 h2 h3 h4
  have E := Lib.hid e
  clear e
  go_enter Try.func9, Try.ntmps9
  go_wp2
  exact bodyPost_ret (v := .tuple #[.agg #[.int .i64 x, .int .i64 y], .bool false]) (by simp [results, Try.results9, go_sem]) rfl ⟨by rw [E.out]; rfl, (by (repeat (first | with_reducible exact Below.refl _ _ | with_reducible assumption | with_reducible apply bel_alloc | with_reducible apply bel_drew | with_reducible apply bel_drewN | ((with_reducible refine bel_set ?_ ?_); rotate_left; (simp <;> omega)) | (with_reducible refine bel_trans ?_ (by with_reducible assumption)))))⟩

end Go.Proofs.Ytegnedpikpfjfaa

/- What the program's and the reference's functions on words of steps do: walks. -/
namespace Go.Proofs.Ytegnedpikpfjfaa
open Go.RowKit
set_option linter.unusedVariables false
attribute [local go_sem ↓] Go.wp_at_zero Go.wp_at_succ

/-- What the places of a way return: none for a letter that is no step. -/
def WayP (o : Option (List C)) (w : World) (e : Ending) (w' : World) : Prop :=
  match o with
  | none => e = .returned (.tuple #[.slice none 0 0, .bool false]) ∧ Below w.heap.size w w'
  | some l => RetS2 w 29 2 (vC l) (.bool true) e w'

set_option maxHeartbeats 400000 in
theorem wayOf_i (s : ByteArray) (m : Int) (w : World) (h0 : (s.size : Int) ≤ m) (hm : s.size ≤ 1000) :
    Calls Try.prog 13 #[.string s, .int .i64 m] w (WayP (wayW (0, 0) s.data.toList) w) := by
  go_enter Try.func13, Try.ntmps13
  go_wp2
  go_loopw [6, 7] (fun o i wr => ∃ (k n cap : Nat) (A : Option Addr) (l : List C) (d : C), k ≤ s.size ∧ i = .int .i64 k ∧ o = .slice A n cap ∧ n = k + 1 ∧
      wr.ownsRow w.heap.size 29 2 (.slice A n cap) n (vC l) ∧ wayW (0, 0) (s.data.toList.take k) = some l ∧ endW (0, 0) (s.data.toList.take k) = some d ∧ l.getD k (0, 0) = d ∧ Below w.heap.size w wr) (fun _ i _ => s.size - (intOf i).toNat)
  case atStart => exact ⟨0, 1, 1, _, [(0, 0)], (0, 0), by omega, rfl, rfl, rfl, own_newC w _ 0 0 (Nat.le_refl _), rfl, rfl, rfl, (by (repeat (first | with_reducible exact Below.refl _ _ | with_reducible assumption | with_reducible apply bel_alloc | with_reducible apply bel_drew | with_reducible apply bel_drewN | ((with_reducible refine bel_set ?_ ?_); rotate_left; (simp <;> omega)) | (with_reducible refine bel_trans ?_ (by with_reducible assumption)))))⟩
  case round =>
    obtain ⟨k, n, cap, A, l, ⟨x, y⟩, hk, rfl, rfl, hnk, hown, hl, hd, hgd, hb⟩ := hrel
    have hlen := own_len hown
    rw [vC_length] at hlen
    by_cases hlt : k < s.size
    · have hlk : k < l.length := by omega
      obtain ⟨g, off, rfl, hgw, c1, c2⟩ := RdC.at_ (Rd.of_own hown) hlk
      have hdk : l[k] = (x, y) := by rw [← hgd, List.getD_eq_getElem?_getD, List.getElem?_eq_getElem hlk]; rfl
      rw [hdk] at c1 c2
      have ew := way_step s k hlt (0, 0) (x, y) l hl hd
      have ee := end_step s k hlt (0, 0) (x, y) hd
      have hi0 : (0 : Int) ≤ (k : Int) := by omega
      have hi1 : (k : Int) < (s.size : Int) := by omega
      have hi2 : (k : Int) < (n : Int) := by omega
      have hi3 : k < n := by omega
      have hi4 : n ≤ 1001 := by omega
      have n1 := World.new_ne wr _ c1
      have HL := Lib.hid hl; have HD := Lib.hid hd; have HG := Lib.hid hgd; have HK := Lib.hid hdk; have HW := Lib.hid ew; have HE := Lib.hid ee; have HN := Lib.hid hlen; have HM := Lib.hid hnk
      clear hl hd hgd hdk ew ee hlen hnk
      go_upto_region 7 with fail
      go_cut [8, 9] (fun s8 s9 wx => ∃ (q : Nat), s8 = .pointer (some ⟨q, 0, none⟩) ∧ s9 = .bool (stepW (x, y) s[k]).isSome ∧ wr.heap.size ≤ q ∧ Blk wx q 29 #[.int .i64 ((stepW (x, y) s[k]).getD (x, y)).1, .int .i64 ((stepW (x, y) s[k]).getD (x, y)).2] ∧ Below wr.heap.size wr wx)
      case first =>
        go_region_held3 (fun w' => w'.cell? ⟨g, off + k * 2, none⟩ = some (.int .i64 x) ∧ w'.cell? ⟨g, off + k * 2 + 1, none⟩ = some (.int .i64 y))
          ((go_split_ands; (try dsimp only); (repeat' (with_reducible apply And.intro)) <;> (repeat (first | with_reducible assumption | with_reducible apply keep_alloc | with_reducible apply keep_drew | with_reducible refine keep_below hb1 ?_ | ((with_reducible refine keep_set ?_ ?_); rotate_left; (simp <;> omega))))))
          (first | (go_at_call 19; refine (stepFrom_i _ _ _ _).mono ?_; rintro e w' ⟨rfl, hb1⟩; obtain ⟨hc1, hf1⟩ := bcell hb1))
        all_goals go_wp2_with fail
        all_goals go_meet
        all_goals first
          | exact ⟨_, rfl, rfl, by have := hb1.size; simpa using this, Blk.new _ _ _, (by (repeat (first | with_reducible exact Below.refl _ _ | with_reducible assumption | with_reducible apply bel_alloc | with_reducible apply bel_drew | with_reducible apply bel_drewN | ((with_reducible refine bel_set ?_ ?_); rotate_left; (simp <;> omega)) | (with_reducible refine bel_trans ?_ (by with_reducible assumption)))))⟩
          | exact ⟨_, rfl, rfl, Nat.le_refl _, blk_set2 hb1, (by (repeat (first | with_reducible exact Below.refl _ _ | with_reducible assumption | with_reducible apply bel_alloc | with_reducible apply bel_drew | with_reducible apply bel_drewN | ((with_reducible refine bel_set ?_ ?_); rotate_left; (simp <;> omega)) | (with_reducible refine bel_trans ?_ (by with_reducible assumption)))))⟩
      case rest =>
        obtain ⟨q, rfl, rfl, hq, hB, hb2⟩ := hcut
        have b1 := hB.cell 0
        have b2 := hB.cell 1
        simp at b1 b2
        clear hB
        cases hst : stepW (x, y) s[k] with
        | none =>
          have HF := Lib.hid (wayW_none.2 (end_none_of_take (HE.out.trans hst)))
          simp only [hst] at b1 b2 ⊢
          clear hst
          go_wp2
          go_ret2
          rw [HF.out]
          exact ⟨rfl, (by (repeat (first | with_reducible exact Below.refl _ _ | with_reducible assumption | with_reducible apply bel_alloc | with_reducible apply bel_drew | with_reducible apply bel_drewN | ((with_reducible refine bel_set ?_ ?_); rotate_left; (simp <;> omega)) | (with_reducible refine bel_trans ?_ (by with_reducible assumption)))))⟩
        | some d =>
          simp only [hst, Option.getD_some, Option.isSome_some] at b1 b2 ⊢
          have HS := Lib.hid hst
          clear hst
          go_wp2_with ((at_builtin; go_must (refine app_C _ rfl _ _ rfl w.heap.size _ _ _ l rfl ((own_keep hown hb2).alloc _) _ _ _ [(d.1, d.2)] rfl (rd_newC _ _ _ _) rfl (by omega) (by have := hb.size; have := hb2.size; simp; omega) ?_); intro A' c' w' hown' hg' hat'))
          have e1 : wayW (0, 0) (s.data.toList.take (k + 1)) = some (l ++ [d]) := by rw [HW.out, HS.out]; rfl
          have e2 : endW (0, 0) (s.data.toList.take (k + 1)) = some d := by rw [HE.out, HS.out]
          have e3 : (l ++ [d]).getD (k + 1) (0, 0) = d := by
            have := HN.out; have := HM.out
            rw [List.getD_eq_getElem?_getD, List.getElem?_append_right (by omega), show k + 1 - l.length = 0 from by omega]; rfl
          exact ⟨⟨k + 1, n + 1, c', A', l ++ [d], d, by omega, by go_num, rfl, by have := HM.out; omega, hown', e1, e2, e3, bel_app (bel_alloc (bel_trans hb hb2) _) hg' (fun g' hg1 => ((own_lt hown) g' hg1).1)⟩, by simp [intOf]; omega⟩
    · have hkk : k = s.size := by omega
      subst hkk
      rw [take_all] at hl hd
      have HL := Lib.hid hl
      clear hl hd hgd hlen hnk
      go_wp2
      go_ret2
      rw [HL.out]
      exact ⟨A, n, cap, rfl, hown, hb⟩

theorem wayOf_far (s : ByteArray) (m : Int) (w : World) (h0 : m < (s.size : Int)) (hm : s.size ≤ maxLen) :
    Calls Try.prog 13 #[.string s, .int .i64 m] w (WayP none w) := by
  unfold maxLen at hm
  go_enter Try.func13, Try.ntmps13
  go_wp2
  go_ret2
  exact ⟨rfl, (by (repeat (first | with_reducible exact Below.refl _ _ | with_reducible assumption | with_reducible apply bel_alloc | with_reducible apply bel_drew | with_reducible apply bel_drewN | ((with_reducible refine bel_set ?_ ?_); rotate_left; (simp <;> omega)) | (with_reducible refine bel_trans ?_ (by with_reducible assumption)))))⟩
end Go.Proofs.Ytegnedpikpfjfaa

/- Blocks of integers and of cells: made, written element by element, owned. -/
namespace Go.Proofs.Ytegnedpikpfjfaa
open Go.RowKit
set_option linter.unusedVariables false

theorem vI_set (xs : List Int) (k : Nat) (v : Int) : (vI xs).toArray.setIfInBounds k (.int .i64 v) = (vI (xs.set k v)).toArray := by
  simp [vI, List.map_set]
theorem vS_set (xs : List H) (k : Nat) (v : H) : (vS xs).toArray.setIfInBounds k (hd v) = (vS (xs.set k v)).toArray := by
  simp [vS, List.map_set]
theorem vC_set_list (xs : List C) (k : Nat) (v : C) : ((vC xs).set (k * 2) (.int .i64 v.1)).set (k * 2 + 1) (.int .i64 v.2) = vC (xs.set k v) := by
  induction xs generalizing k with
  | nil => simp [vC]
  | cons p t ih =>
    cases k with
    | zero => simp [vC]
    | succ k =>
      rw [show (k + 1) * 2 = k * 2 + 1 + 1 from by omega]
      simp [vC, ih k]
theorem vC_set (xs : List C) (k : Nat) (v : C) : ((vC xs).toArray.setIfInBounds (k * 2) (.int .i64 v.1)).setIfInBounds (k * 2 + 1) (.int .i64 v.2) = (vC (xs.set k v)).toArray := by
  rw [← vC_set_list]; simp

section
variable {w w' : World} {g : Nat} {t : TypeId}
theorem blkI_cell {ys : List Int} (h : Blk w g t (vI ys).toArray) {k : Nat} (hk : k < ys.length) : w.cell? ⟨g, k, none⟩ = some (.int .i64 ys[k]) := by
  rw [h.cell k]; simp [vI, hk]
theorem blkC_cell {ys : List C} (h : Blk w g t (vC ys).toArray) {k : Nat} (hk : k < ys.length) : w.cell? ⟨g, k * 2, none⟩ = some (.int .i64 ys[k].1) ∧ w.cell? ⟨g, k * 2 + 1, none⟩ = some (.int .i64 ys[k].2) := by
  rw [h.cell, h.cell]
  exact ⟨by simpa using vC_get1 ys k hk, by simpa using vC_get2 ys k hk⟩
theorem blkS_cell {ys : List H} (h : Blk w g t (vS ys).toArray) {k : Nat} (hk : k < ys.length) : w.cell? ⟨g, k, none⟩ = some (.slice ys[k].1 ys[k].2.1 ys[k].2.2) := by
  rw [h.cell k]; simp [vS, hd, hk]
theorem blkI_set {ys : List Int} (h : Blk w g t (vI ys).toArray) (k : Nat) (v : Int) : Blk (w.setCell ⟨g, k, none⟩ (.int .i64 v)) g t (vI (ys.set k v)).toArray := by
  rw [← vI_set]; exact h.set_ k _
theorem blkS_set {ys : List H} (h : Blk w g t (vS ys).toArray) (k : Nat) (a : Option Addr) (n c : Nat) : Blk (w.setCell ⟨g, k, none⟩ (.slice a n c)) g t (vS (ys.set k (a, n, c))).toArray := by
  rw [← vS_set]; exact h.set_ k _
theorem blkC_set {ys : List C} (h : Blk w g t (vC ys).toArray) (k : Nat) (a b : Int) : Blk ((w.setCell ⟨g, k * 2, none⟩ (.int .i64 a)).setCell ⟨g, k * 2 + 1, none⟩ (.int .i64 b)) g t (vC (ys.set k (a, b))).toArray := by
  rw [← vC_set]; exact (h.set_ (k * 2) _).set_ (k * 2 + 1) _
theorem own_blk {cs : Array Value} (h : Blk w g t cs) {base size n : Nat} (hs : cs.size = n * size) (hb : base ≤ g) (hm : n ≤ maxLen) : w.ownsRow base t size (.slice (some ⟨g, 0, none⟩) n n) n cs.toList :=
  ⟨by simpa using hs, .inr ⟨g, n, cs, rfl, hb, h, Nat.le_refl _, hm, hs, by rw [← hs, ← Array.length_toList, List.take_length]⟩⟩
theorem own_at {base size n c : Nat} {A : Option Addr} {xs : List Value} (h : w.ownsRow base t size (.slice A n c) n xs) (hn : 0 < n) : ∃ g, A = some ⟨g, 0, none⟩ ∧ base ≤ g ∧ g < w.heap.size := by
  rcases h.2 with ⟨_, rfl⟩ | ⟨g, cap, cur, hv, hb, hg, _⟩
  · omega
  · injection hv with hA
    exact ⟨g, hA, hb, (Array.getElem?_eq_some_iff.1 hg).1⟩
theorem grown_set {a w : World} {row : Option Nat} (h : a.grownBy w row) {p : Addr} (hp : row = some p.block) (u : Value) : a.grownBy (w.setCell p u) row :=
  ⟨h.os, h.tape, h.output, by simpa [World.setCell] using h.size, fun k hk hne => by
    rw [Below.heap_setCell w p u k (by rintro rfl; exact hne hp.symm)]; exact h.block k hk hne⟩
theorem grown_drewN {a w : World} {row : Option Nat} (h : a.grownBy w row) (n : Nat) : a.grownBy (w.drewN n) row := ⟨h.os, h.tape, h.output, h.size, h.block⟩
theorem grown_below {a w w' : World} {row : Option Nat} (h : a.grownBy w row) (hb : Below w.heap.size w w') : a.grownBy w' row :=
  ⟨hb.os.trans h.os, hb.tape.trans h.tape, hb.output.trans h.output, Nat.le_trans h.size hb.size, fun k hk hne => (hb.block k (Nat.lt_of_lt_of_le hk h.size)).trans (h.block k hk hne)⟩
end

/-- Zeros. -/
def zeI (n : Nat) : List Int := List.replicate n 0
def zeC (n : Nat) : List C := List.replicate n (0, 0)
def zeS (n : Nat) : List H := List.replicate n (none, 0, 0)
theorem zeI_length (n : Nat) : (zeI n).length = n := by simp [zeI]
theorem zeC_length (n : Nat) : (zeC n).length = n := by simp [zeC]
theorem zeS_length (n : Nat) : (zeS n).length = n := by simp [zeS]
theorem vC_zeros (n : Nat) : (madeCells #[.int .i64 0, .int .i64 0] (n * 2)).toList = vC (zeC n) := by
  have h : ∀ m, m ≤ n → ((List.range (m * 2)).map fun i => (#[Value.int .i64 0, .int .i64 0] : Array Value)[i % 2]!) = vC (zeC m) := by
    intro m
    induction m with
    | zero => intro _; rfl
    | succ m ih =>
      intro hm
      rw [show (m + 1) * 2 = m * 2 + 1 + 1 from by omega, List.range_succ, List.range_succ]
      simp only [List.map_append, ih (by omega), List.map_cons, List.map_nil, List.append_assoc, List.cons_append, List.nil_append]
      have e : zeC (m + 1) = zeC m ++ [(0, 0)] := by simp [zeC, List.replicate_succ']
      rw [e, vC_append]
      congr 1
      rw [show m * 2 % 2 = 0 from by omega, show (m * 2 + 1) % 2 = 1 from by omega]
      rfl
  simpa [madeCells] using h n (Nat.le_refl _)
theorem mk_C (w : World) (n : Nat) (hn : n ≤ 1048576) : (Instr.makeSlice 22 (.int .i64 (n : Int)) (.int .i64 (n : Int))).run Try.prog w = .ok (.slice (some ⟨w.heap.size, 0, none⟩) n n) (w.alloc (.cells (vC (zeC n)).toArray 29)) := by
  obtain ⟨i0, hi, hz0, hz1, hz2⟩ := info_parts infoC
  have h := run_make (P := Try.prog) w 22 29 i0 _ Try.underlying22 hi hz0 .i64 .i64 (n : Int) (n : Int) (by omega) (Int.le_refl _) (by rw [hz2]; omega) (by omega)
  rw [h, hz1]
  have e : madeCells (Value.agg #[.int .i64 0, .int .i64 0]).cells ((n : Int).toNat * 2) = (vC (zeC n)).toArray := by
    apply Array.ext'
    rw [show (Value.agg #[.int .i64 0, .int .i64 0]).cells = #[.int .i64 0, .int .i64 0] from rfl, ← vC_zeros]
    simp
  rw [e]
  simp
/-- What has been copied so far, and zeros behind it. -/
theorem fill_step {α : Type} (xs : List α) (z : α) (k : Nat) (hk : k < xs.length) : (xs.take k ++ List.replicate (xs.length - k) z).set k xs[k] = xs.take (k + 1) ++ List.replicate (xs.length - (k + 1)) z := by
  rw [List.set_append_right _ _ (by rw [List.length_take]; omega), List.length_take, Nat.min_eq_left (by omega), Nat.sub_self,
    show xs.length - k = (xs.length - (k + 1)) + 1 from by omega, List.replicate_succ, List.set_cons_zero, List.take_succ_eq_append_getElem hk, List.append_assoc]
  rfl
theorem fill_len {α : Type} (xs : List α) (z : α) (k : Nat) (hk : k ≤ xs.length) : (xs.take k ++ List.replicate (xs.length - k) z).length = xs.length := by simp; omega
theorem fill_end {α : Type} (xs : List α) (z : α) : (xs.take xs.length ++ List.replicate (xs.length - xs.length) z) = xs := by simp

/-- k, k + 1, .. -/
def io (k : Int) (n : Nat) : List Int := (List.range n).map fun (i : Nat) => k + (i : Int)
theorem io_length (k : Int) (n : Nat) : (io k n).length = n := by simp [io]
theorem io_succ (k : Int) (n : Nat) : io k (n + 1) = io k n ++ [k + n] := by simp [io, List.range_succ]
theorem io_get (k : Int) (n i : Nat) (h : i < (io k n).length) : (io k n)[i] = k + i := by simp [io]
theorem mark_step (k : Int) (xs : List Int) (j : Nat) (hj : j < xs.length) : (io k j ++ xs.drop j).set j (k + j) = io k (j + 1) ++ xs.drop (j + 1) := by
  rw [List.set_append_right _ _ (by rw [io_length]; omega), io_length, Nat.sub_self, io_succ, List.append_assoc, List.drop_eq_getElem_cons hj]
  rfl
end Go.Proofs.Ytegnedpikpfjfaa

/- Whether a number lies between two others: the program's and the reference's function. -/
namespace Go.Proofs.Ytegnedpikpfjfaa
open Go.RowKit
set_option linter.unusedVariables false
theorem between_t (n lo hi : Int) (w : World) (h1 : lo ≤ n) (h2 : n ≤ hi) : Calls Try.prog 24 #[.int .i64 n, .int .i64 lo, .int .i64 hi] w (Ret w (.bool true)) := by
  go_enter Try.func24, Try.ntmps24
  go_wp2
  go_ret
  exact ⟨rfl, Below.refl _ _⟩
theorem between_f (n lo hi : Int) (w : World) (h : ¬ (lo ≤ n ∧ n ≤ hi)) : Calls Try.prog 24 #[.int .i64 n, .int .i64 lo, .int .i64 hi] w (Ret w (.bool false)) := by
  by_cases h1 : lo ≤ n
  · have h2 : hi < n := by omega
    have h3 : decide (n ≤ hi) = false := by simp; omega
    clear h
    go_enter Try.func24, Try.ntmps24
    go_wp2
    go_ret
    exact ⟨rfl, Below.refl _ _⟩
  · have h2 : n < lo := by omega
    clear h h1
    go_enter Try.func24, Try.ntmps24
    go_wp2
    go_ret
    exact ⟨rfl, Below.refl _ _⟩
theorem between_b (n lo hi : Int) (b : Bool) (w : World) (h : b = (decide (lo ≤ n) && decide (n ≤ hi))) : Calls Try.prog 24 #[.int .i64 n, .int .i64 lo, .int .i64 hi] w (Ret w (.bool b)) := by
  subst h
  by_cases h1 : lo ≤ n ∧ n ≤ hi
  · rw [decide_eq_true h1.1, decide_eq_true h1.2]; exact between_t n lo hi w h1.1 h1.2
  · have e : (decide (lo ≤ n) && decide (n ≤ hi)) = false := by simp; omega
    rw [e]; exact between_f n lo hi w h1
theorem l1In_t (n lo hi : Int) (w : World) (h1 : lo ≤ n) (h2 : n ≤ hi) : Calls Try.prog 18 #[.int .i64 n, .int .i64 lo, .int .i64 hi] w (Ret w (.bool true)) := by
  go_enter Try.func18, Try.ntmps18
  go_wp2
  go_ret
  exact ⟨rfl, Below.refl _ _⟩
theorem l1In_f (n lo hi : Int) (w : World) (h : ¬ (lo ≤ n ∧ n ≤ hi)) : Calls Try.prog 18 #[.int .i64 n, .int .i64 lo, .int .i64 hi] w (Ret w (.bool false)) := by
  by_cases h1 : lo ≤ n
  · have h2 : hi < n := by omega
    have h3 : decide (n ≤ hi) = false := by simp; omega
    clear h
    go_enter Try.func18, Try.ntmps18
    go_wp2
    go_ret
    exact ⟨rfl, Below.refl _ _⟩
  · have h2 : n < lo := by omega
    clear h h1
    go_enter Try.func18, Try.ntmps18
    go_wp2
    go_ret
    exact ⟨rfl, Below.refl _ _⟩
theorem l1In_b (n lo hi : Int) (b : Bool) (w : World) (h : b = (decide (lo ≤ n) && decide (n ≤ hi))) : Calls Try.prog 18 #[.int .i64 n, .int .i64 lo, .int .i64 hi] w (Ret w (.bool b)) := by
  subst h
  by_cases h1 : lo ≤ n ∧ n ≤ hi
  · rw [decide_eq_true h1.1, decide_eq_true h1.2]; exact l1In_t n lo hi w h1.1 h1.2
  · have e : (decide (lo ≤ n) && decide (n ≤ hi)) = false := by simp; omega
    rw [e]; exact l1In_f n lo hi w h1
end Go.Proofs.Ytegnedpikpfjfaa

/- What the program's and the reference's first functions on cells do: walks. -/
namespace Go.Proofs.Ytegnedpikpfjfaa
open Go.RowKit
set_option linter.unusedVariables false
attribute [local go_sem ↓] Go.wp_at_zero Go.wp_at_succ

theorem onBoard_i (a b : Int) (w : World) : Calls Try.prog 22 #[.agg #[.int .i64 a, .int .i64 b]] w (Ret w (.bool (onB (a, b)))) := by
  by_cases h1 : 0 ≤ a ∧ a ≤ 7
  · have hv : onB (a, b) = (decide (0 ≤ b) && decide (b ≤ 7)) := by simp [onB, h1]
    have HV := Lib.hid hv
    clear hv
    go_enter Try.func22, Try.ntmps22
    go_wp2_with fail
    refine (between_t _ _ _ _ (by omega) (by omega)).mono ?_
    rintro e w1 ⟨rfl, hb1⟩
    have k2 : w1.cell? ⟨w.heap.size, 1, none⟩ = some (.int .i64 b) := by simpa using ((Blk.new w 29 #[.int .i64 a, .int .i64 b]).below hb1).cell 1
    go_wp2_with fail
    refine (between_b _ _ _ _ _ rfl).mono ?_
    rintro e w2 ⟨rfl, hb2⟩
    go_wp2_with fail
    go_ret
    exact ⟨by rw [HV.out]; rfl, (by (repeat (first | with_reducible exact Below.refl _ _ | with_reducible assumption | with_reducible apply bel_alloc | with_reducible apply bel_drew | with_reducible apply bel_drewN | ((with_reducible refine bel_set ?_ ?_); rotate_left; (simp <;> omega)) | (with_reducible refine bel_trans ?_ (by with_reducible assumption)))))⟩
  · have hv : onB (a, b) = false := by simp [onB]; omega
    have HV := Lib.hid hv
    clear hv
    go_enter Try.func22, Try.ntmps22
    go_wp2_with (go_at_call 24; refine (between_f _ _ _ _ h1).mono ?_; rintro e w1 ⟨rfl, hb1⟩)
    go_ret
    exact ⟨by rw [HV.out]; rfl, (by (repeat (first | with_reducible exact Below.refl _ _ | with_reducible assumption | with_reducible apply bel_alloc | with_reducible apply bel_drew | with_reducible apply bel_drewN | ((with_reducible refine bel_set ?_ ?_); rotate_left; (simp <;> omega)) | (with_reducible refine bel_trans ?_ (by with_reducible assumption)))))⟩
end Go.Proofs.Ytegnedpikpfjfaa

/- A move of the walk through a region that draws its order: an operation is taken first, its slot named. -/
namespace Go.Proofs.Ytegnedpikpfjfaa
section
variable {P : Program} {ops : Array Oper} {Q : Exit → Act → World → Prop} {md : Region.Mode} {S : World → Prop}
theorem wpT {i d : Nat} {oi : Oper} {v : Value} {fuel : Nat} {listed : Array Bool} {t : Array Value} {ds : List Deferred} {w : World} (hi : ops[i]? = some oi) (hd : oi.dst = some d)
    (hs : Region.noSelect ops = true) (hf : Region.free md ops listed i = true) (hr : (Region.ready md ops listed).contains i = true)
    (hQ : ∀ c a w, Q (.panic c) (a.put (some d) v) w → Q (.panic c) a w) (hy : YieldsIf P ops S oi v { tmps := t, defers := ds }) (hS : S w)
    (h : wpAnyH P md ops Q S fuel (listed.setIfInBounds i true) { tmps := t.setIfInBounds d v, defers := ds } w) : wpAnyH P md ops Q S (fuel + 1) listed { tmps := t, defers := ds } w :=
  wpAnyH_take hi hs hf hr (by rw [hd]; exact hQ) hy hS (by rw [hd]; exact h)
end
end Go.Proofs.Ytegnedpikpfjfaa

/- The order of cells and shapes: walks. -/
namespace Go.Proofs.Ytegnedpikpfjfaa
open Go.RowKit
set_option linter.unusedVariables false
attribute [local go_sem ↓] Go.wp_at_zero Go.wp_at_succ

theorem before_i (a b c d : Int) (w : World) : Calls Try.prog 23 #[.agg #[.int .i64 a, .int .i64 b], .agg #[.int .i64 c, .int .i64 d]] w (Ret w (.bool (befC (a, b) (c, d)))) := by
  by_cases h1 : b < d
  · have HV : Hid (befC (a, b) (c, d) = true) := by show befC (a, b) (c, d) = true; simp [befC, h1]
    go_enter Try.func23, Try.ntmps23
    go_wp2
    go_ret
    exact ⟨by rw [HV.out]; rfl, (by (repeat (first | with_reducible exact Below.refl _ _ | with_reducible assumption | with_reducible apply bel_alloc | with_reducible apply bel_drew | with_reducible apply bel_drewN | ((with_reducible refine bel_set ?_ ?_); rotate_left; (simp <;> omega)) | (with_reducible refine bel_trans ?_ (by with_reducible assumption)))))⟩
  · by_cases h2 : b = d
    · have HV : Hid (befC (a, b) (c, d) = decide (a < c)) := by show befC (a, b) (c, d) = decide (a < c); simp [befC, h2]
      have e1 : (b == d) = true := by simp [h2]
      have e2 : decide (b < d) = false := by simp [h1]
      clear h2
      go_enter Try.func23, Try.ntmps23
      go_wp2
      go_ret
      exact ⟨by rw [HV.out]; rfl, (by (repeat (first | with_reducible exact Below.refl _ _ | with_reducible assumption | with_reducible apply bel_alloc | with_reducible apply bel_drew | with_reducible apply bel_drewN | ((with_reducible refine bel_set ?_ ?_); rotate_left; (simp <;> omega)) | (with_reducible refine bel_trans ?_ (by with_reducible assumption)))))⟩
    · have HV : Hid (befC (a, b) (c, d) = false) := by show befC (a, b) (c, d) = false; simp [befC, h1, h2]
      have e1 : (b == d) = false := by simp [h2]
      have e2 : decide (b < d) = false := by simp [h1]
      clear h2
      go_enter Try.func23, Try.ntmps23
      go_wp2
      go_ret
      exact ⟨by rw [HV.out]; rfl, (by (repeat (first | with_reducible exact Below.refl _ _ | with_reducible assumption | with_reducible apply bel_alloc | with_reducible apply bel_drew | with_reducible apply bel_drewN | ((with_reducible refine bel_set ?_ ?_); rotate_left; (simp <;> omega)) | (with_reducible refine bel_trans ?_ (by with_reducible assumption)))))⟩
theorem l2Before_s (a b c d : Int) (w : World) : Calls Try.prog 17 #[.agg #[.int .i64 a, .int .i64 b], .agg #[.int .i64 c, .int .i64 d]] w (Ret w (.bool (befC (a, b) (c, d)))) := by
  by_cases h1 : b < d
  · have HV : Hid (befC (a, b) (c, d) = true) := by show befC (a, b) (c, d) = true; simp [befC, h1]
    go_enter Try.func17, Try.ntmps17
    go_wp2
    go_ret
    exact ⟨by rw [HV.out]; rfl, (by (repeat (first | with_reducible exact Below.refl _ _ | with_reducible assumption | with_reducible apply bel_alloc | with_reducible apply bel_drew | with_reducible apply bel_drewN | ((with_reducible refine bel_set ?_ ?_); rotate_left; (simp <;> omega)) | (with_reducible refine bel_trans ?_ (by with_reducible assumption)))))⟩
  · by_cases h2 : b = d
    · have HV : Hid (befC (a, b) (c, d) = decide (a < c)) := by show befC (a, b) (c, d) = decide (a < c); simp [befC, h2]
      have e1 : (b == d) = true := by simp [h2]
      have e2 : decide (b < d) = false := by simp [h1]
      clear h2
      go_enter Try.func17, Try.ntmps17
      go_wp2
      go_ret
      exact ⟨by rw [HV.out]; rfl, (by (repeat (first | with_reducible exact Below.refl _ _ | with_reducible assumption | with_reducible apply bel_alloc | with_reducible apply bel_drew | with_reducible apply bel_drewN | ((with_reducible refine bel_set ?_ ?_); rotate_left; (simp <;> omega)) | (with_reducible refine bel_trans ?_ (by with_reducible assumption)))))⟩
    · have HV : Hid (befC (a, b) (c, d) = false) := by show befC (a, b) (c, d) = false; simp [befC, h1, h2]
      have e1 : (b == d) = false := by simp [h2]
      have e2 : decide (b < d) = false := by simp [h1]
      clear h2
      go_enter Try.func17, Try.ntmps17
      go_wp2
      go_ret
      exact ⟨by rw [HV.out]; rfl, (by (repeat (first | with_reducible exact Below.refl _ _ | with_reducible assumption | with_reducible apply bel_alloc | with_reducible apply bel_drew | with_reducible apply bel_drewN | ((with_reducible refine bel_set ?_ ?_); rotate_left; (simp <;> omega)) | (with_reducible refine bel_trans ?_ (by with_reducible assumption)))))⟩

set_option maxHeartbeats 1600000 in
theorem IsShape_i (A : Option Addr) (n c : Nat) (xs : List C) (w : World) (hr : Rd w A (vC xs)) (hl : xs.length = n) (hn : n ≤ 1099511627776) :
    Calls Try.prog 15 #[.slice A n c] w (Ret w (.bool (isShape xs))) := by
  have HL := Lib.hid hl
  clear hl
  go_enter Try.func15, Try.ntmps15
  go_wp2
  go_loopw [7] (fun i wr => ∃ k : Nat, k ≤ n ∧ i = .int .i64 k ∧ shapeTo xs k = true ∧ Below w.heap.size w wr) (fun i _ => n - (intOf i).toNat)
  case atStart => exact ⟨0, Nat.zero_le _, rfl, rfl, Below.refl _ _⟩
  case round =>
    obtain ⟨k, hk, rfl, hgo, hb⟩ := hrel
    by_cases hlt : k < n
    · have hkx : k < xs.length := by rw [HL.out]; omega
      obtain ⟨g, off, rfl, hgw, c1, c2⟩ := RdC.at_ (hr.below hb) hkx
      have hs := shapeTo_succ xs k hkx
      have hno := isShape_no xs k hkx
      obtain ⟨⟨x, y⟩, hx⟩ : ∃ p, xs[k] = p := ⟨_, rfl⟩
      rw [hx] at c1 c2 hs hno
      have hi0 : (0 : Int) ≤ (k : Int) := by omega
      have hi1 : (k : Int) < (n : Int) := by omega
      have HS := Lib.hid hs
      have HNO := Lib.hid hno
      have HG := Lib.hid hgo
      have hrw := hr.below hb
      clear hs hno hgo hx
      go_upto_region 4 with fail
      go_cut [28] (fun s wx => s = .bool (!shapeAt xs k (x, y)) ∧ Below wr.heap.size wr wx)
      case first =>
        cases ho : onB (x, y) with
        | false =>
          have HV : Hid (shapeAt xs k (x, y) = false) := by unfold Hid shapeAt; rw [ho]; rfl
          have HO := Lib.hid ho
          generalize hW : wr.alloc (.cells #[.int .i64 x, .int .i64 y] 29) = W
          have hq := Blk.new wr 29 #[.int .i64 x, .int .i64 y]
          have hb2 : Below wr.heap.size wr (wr.alloc (.cells #[.int .i64 x, .int .i64 y] 29)) := (by (repeat (first | with_reducible exact Below.refl _ _ | with_reducible assumption | with_reducible apply bel_alloc | with_reducible apply bel_drew | with_reducible apply bel_drewN | ((with_reducible refine bel_set ?_ ?_); rotate_left; (simp <;> omega)) | (with_reducible refine bel_trans ?_ (by with_reducible assumption)))))
          rw [hW] at hq hb2
          clear hW ho
          have q1 : W.cell? ⟨wr.heap.size, 0, none⟩ = some (.int .i64 x) := by simpa using hq.cell 0
          have q2 : W.cell? ⟨wr.heap.size, 1, none⟩ = some (.int .i64 y) := by simpa using hq.cell 1
          refine wp_region_noPanic ?_
          refine wp_region_held_drew (S := (fun w' => w'.cell? ⟨wr.heap.size, 0, none⟩ = some (.int .i64 x) ∧ w'.cell? ⟨wr.heap.size, 1, none⟩ = some (.int .i64 y))) (by kernel_rfl) ?_ (fun hS => ?_)
          · ((go_split_ands; (try dsimp only); (repeat' (with_reducible apply And.intro)) <;> (repeat (first | with_reducible assumption | with_reducible apply keep_alloc | with_reducible apply keep_drew | with_reducible refine keep_below hb1 ?_ | ((with_reducible refine keep_set ?_ ?_); rotate_left; (simp <;> omega))))))
          refine wpT (i := 0) (v := ?_) rfl rfl (by kernel_rfl) (by kernel_rfl) (by kernel_rfl) (fun _ _ _ h => h) (Or.inl ⟨by rfl, ?_⟩) hS ?_
          rotate_left
          · (intro w hSw; (try dsimp only at hSw); go_simp; first | done | with_reducible rfl)
          simp only [List.setIfInBounds_toArray, List.set_cons_zero, List.set_cons_succ]
          refine wpAnyH_ready (rs := [1]) (by kernel_rfl) (by simp) ?_
          refine AllReadyH.cons rfl (fun K hK => ?_) AllReadyH.nil
          go_simp
          (go_at_call 22; refine (onBoard_i _ _ _).mono ?_; rw [HO.out]; rintro e w1 ⟨rfl, hb1⟩)
          try go_wp2_with fail
          refine hK.out _ _ ?_ (fun hS2 => ?_)
          · (clear hK K; ((go_split_ands; (try dsimp only); (repeat' (with_reducible apply And.intro)) <;> (repeat (first | with_reducible assumption | with_reducible apply keep_alloc | with_reducible apply keep_drew | with_reducible refine keep_below hb1 ?_ | ((with_reducible refine keep_set ?_ ?_); rotate_left; (simp <;> omega)))))))
          clear hS hK K
          have hS := hS2
          clear hS2
          refine wpT (i := 2) (v := ?_) rfl rfl (by kernel_rfl) (by kernel_rfl) (by kernel_rfl) (fun _ _ _ h => h) (Or.inl ⟨by rfl, ?_⟩) hS ?_
          rotate_left
          · (intro w hSw; (try dsimp only at hSw); go_simp; first | done | with_reducible rfl)
          simp only [List.setIfInBounds_toArray, List.set_cons_zero, List.set_cons_succ]
          refine wpT (i := 3) (v := ?_) rfl rfl (by kernel_rfl) (by kernel_rfl) (by kernel_rfl) (fun _ _ _ h => h) (Or.inl ⟨by rfl, ?_⟩) hS ?_
          rotate_left
          · (intro w hSw; (try dsimp only at hSw); go_simp; first | done | with_reducible rfl)
          simp only [List.setIfInBounds_toArray, List.set_cons_zero, List.set_cons_succ]
          refine wpT (i := 4) (v := undef) rfl rfl (by kernel_rfl) (by kernel_rfl) (by kernel_rfl) (fun _ _ _ h => h) (Or.inr ⟨by rfl, rfl⟩) hS ?_
          simp only [List.setIfInBounds_toArray, List.set_cons_zero, List.set_cons_succ]
          refine wpT (i := 5) (v := undef) rfl rfl (by kernel_rfl) (by kernel_rfl) (by kernel_rfl) (fun _ _ _ h => h) (Or.inr ⟨by rfl, rfl⟩) hS ?_
          simp only [List.setIfInBounds_toArray, List.set_cons_zero, List.set_cons_succ]
          refine wpT (i := 6) (v := undef) rfl rfl (by kernel_rfl) (by kernel_rfl) (by kernel_rfl) (fun _ _ _ h => h) (Or.inr ⟨by rfl, rfl⟩) hS ?_
          simp only [List.setIfInBounds_toArray, List.set_cons_zero, List.set_cons_succ]
          refine wpT (i := 7) (v := undef) rfl rfl (by kernel_rfl) (by kernel_rfl) (by kernel_rfl) (fun _ _ _ h => h) (Or.inr ⟨by rfl, rfl⟩) hS ?_
          simp only [List.setIfInBounds_toArray, List.set_cons_zero, List.set_cons_succ]
          refine wpT (i := 8) (v := undef) rfl rfl (by kernel_rfl) (by kernel_rfl) (by kernel_rfl) (fun _ _ _ h => h) (Or.inr ⟨by rfl, rfl⟩) hS ?_
          simp only [List.setIfInBounds_toArray, List.set_cons_zero, List.set_cons_succ]
          refine wpT (i := 9) (v := undef) rfl rfl (by kernel_rfl) (by kernel_rfl) (by kernel_rfl) (fun _ _ _ h => h) (Or.inr ⟨by rfl, rfl⟩) hS ?_
          simp only [List.setIfInBounds_toArray, List.set_cons_zero, List.set_cons_succ]
          refine wpT (i := 10) (v := undef) rfl rfl (by kernel_rfl) (by kernel_rfl) (by kernel_rfl) (fun _ _ _ h => h) (Or.inr ⟨by rfl, rfl⟩) hS ?_
          simp only [List.setIfInBounds_toArray, List.set_cons_zero, List.set_cons_succ]
          refine wpT (i := 11) (v := undef) rfl rfl (by kernel_rfl) (by kernel_rfl) (by kernel_rfl) (fun _ _ _ h => h) (Or.inr ⟨by rfl, rfl⟩) hS ?_
          simp only [List.setIfInBounds_toArray, List.set_cons_zero, List.set_cons_succ]
          refine wpT (i := 12) (v := undef) rfl rfl (by kernel_rfl) (by kernel_rfl) (by kernel_rfl) (fun _ _ _ h => h) (Or.inr ⟨by rfl, rfl⟩) hS ?_
          simp only [List.setIfInBounds_toArray, List.set_cons_zero, List.set_cons_succ]
          refine wpT (i := 13) (v := undef) rfl rfl (by kernel_rfl) (by kernel_rfl) (by kernel_rfl) (fun _ _ _ h => h) (Or.inr ⟨by rfl, rfl⟩) hS ?_
          simp only [List.setIfInBounds_toArray, List.set_cons_zero, List.set_cons_succ]
          refine wpT (i := 14) (v := undef) rfl rfl (by kernel_rfl) (by kernel_rfl) (by kernel_rfl) (fun _ _ _ h => h) (Or.inr ⟨by rfl, rfl⟩) hS ?_
          simp only [List.setIfInBounds_toArray, List.set_cons_zero, List.set_cons_succ]
          refine wpT (i := 15) (v := undef) rfl rfl (by kernel_rfl) (by kernel_rfl) (by kernel_rfl) (fun _ _ _ h => h) (Or.inr ⟨by rfl, rfl⟩) hS ?_
          simp only [List.setIfInBounds_toArray, List.set_cons_zero, List.set_cons_succ]
          refine wpT (i := 16) (v := ?_) rfl rfl (by kernel_rfl) (by kernel_rfl) (by kernel_rfl) (fun _ _ _ h => h) (Or.inl ⟨by rfl, ?_⟩) hS ?_
          rotate_left
          · (intro w hSw; (try dsimp only at hSw); go_simp; first | done | with_reducible rfl)
          simp only [List.setIfInBounds_toArray, List.set_cons_zero, List.set_cons_succ]
          refine wpAnyH_done (by kernel_rfl) ?_ _
          refine NoPanic.normal ?_
          go_wp2_with fail
          go_meet
          exact ⟨by rw [HV.out]; rfl, (by (repeat (first | with_reducible exact Below.refl _ _ | with_reducible assumption | with_reducible apply bel_alloc | with_reducible apply bel_drew | with_reducible apply bel_drewN | ((with_reducible refine bel_set ?_ ?_); rotate_left; (simp <;> omega)) | (with_reducible refine bel_trans ?_ (by with_reducible assumption)))))⟩
        | true =>
          by_cases hk0 : 0 < k
          · obtain ⟨j, hj⟩ : ∃ j, k = j + 1 := ⟨k - 1, by omega⟩
            have hkj : (k : Int) - 1 = (j : Int) := by omega
            have hj0 : (0 : Int) ≤ (j : Int) := by omega
            have hj1 : (j : Int) < (n : Int) := by omega
            have hjw : IntKind.i64.wrap (j : Int) = (j : Int) := IntWalk.i64_in _ (by omega)
            have hk2 : (0 : Int) < (k : Int) := by omega
            have hjx : j < xs.length := by omega
            have d1 : wr.cell? ⟨g, off + j * 2, none⟩ = some (.int .i64 xs[j].1) := by
              obtain ⟨g', off', e, _, h1, _⟩ := RdC.at_ hrw hjx
              simp only [Option.some.injEq, Addr.mk.injEq, and_true] at e
              obtain ⟨rfl, rfl⟩ := e
              exact h1
            have d2 : wr.cell? ⟨g, off + j * 2 + 1, none⟩ = some (.int .i64 xs[j].2) := by
              obtain ⟨g', off', e, _, _, h1⟩ := RdC.at_ hrw hjx
              simp only [Option.some.injEq, Addr.mk.injEq, and_true] at e
              obtain ⟨rfl, rfl⟩ := e
              exact h1
            obtain ⟨⟨x', y'⟩, hx'⟩ : ∃ p, xs[j] = p := ⟨_, rfl⟩
            rw [hx'] at d1 d2
            have HV : Hid (shapeAt xs k (x, y) = befC (x', y') (x, y)) := by
              unfold Hid shapeAt
              rw [ho, Bool.true_and, show (k == 0) = false from by simp; omega, Bool.false_or, show k - 1 = j from by omega, List.getD_eq_getElem?_getD, List.getElem?_eq_getElem hjx, hx']; rfl
            have HO := Lib.hid ho
            generalize hW : wr.alloc (.cells #[.int .i64 x, .int .i64 y] 29) = W
            have hq := Blk.new wr 29 #[.int .i64 x, .int .i64 y]
            have hb2 : Below wr.heap.size wr (wr.alloc (.cells #[.int .i64 x, .int .i64 y] 29)) := (by (repeat (first | with_reducible exact Below.refl _ _ | with_reducible assumption | with_reducible apply bel_alloc | with_reducible apply bel_drew | with_reducible apply bel_drewN | ((with_reducible refine bel_set ?_ ?_); rotate_left; (simp <;> omega)) | (with_reducible refine bel_trans ?_ (by with_reducible assumption)))))
            have q3 := keep_alloc (o := .cells #[.int .i64 x, .int .i64 y] 29) d1
            have q4 := keep_alloc (o := .cells #[.int .i64 x, .int .i64 y] 29) d2
            rw [hW] at hq hb2 q3 q4
            clear hW ho hx' hj
            have q1 : W.cell? ⟨wr.heap.size, 0, none⟩ = some (.int .i64 x) := by simpa using hq.cell 0
            have q2 : W.cell? ⟨wr.heap.size, 1, none⟩ = some (.int .i64 y) := by simpa using hq.cell 1
            refine wp_region_noPanic ?_
            refine wp_region_held_drew (S := (fun w' => w'.cell? ⟨wr.heap.size, 0, none⟩ = some (.int .i64 x) ∧ w'.cell? ⟨wr.heap.size, 1, none⟩ = some (.int .i64 y) ∧ w'.cell? ⟨g, off + j * 2, none⟩ = some (.int .i64 x') ∧ w'.cell? ⟨g, off + j * 2 + 1, none⟩ = some (.int .i64 y'))) (by kernel_rfl) ?_ (fun hS => ?_)
            · ((go_split_ands; (try dsimp only); (repeat' (with_reducible apply And.intro)) <;> (repeat (first | with_reducible assumption | with_reducible apply keep_alloc | with_reducible apply keep_drew | with_reducible refine keep_below hb1 ?_ | ((with_reducible refine keep_set ?_ ?_); rotate_left; (simp <;> omega))))))
            refine wpT (i := 0) (v := ?_) rfl rfl (by kernel_rfl) (by kernel_rfl) (by kernel_rfl) (fun _ _ _ h => h) (Or.inl ⟨by rfl, ?_⟩) hS ?_
            rotate_left
            · (intro w hSw; (try dsimp only at hSw); go_simp; first | done | with_reducible rfl)
            simp only [List.setIfInBounds_toArray, List.set_cons_zero, List.set_cons_succ]
            refine wpAnyH_ready (rs := [1]) (by kernel_rfl) (by simp) ?_
            refine AllReadyH.cons rfl (fun K hK => ?_) AllReadyH.nil
            go_simp
            (go_at_call 22; refine (onBoard_i _ _ _).mono ?_; rw [HO.out]; rintro e w1 ⟨rfl, hb1⟩)
            try go_wp2_with fail
            refine hK.out _ _ ?_ (fun hS2 => ?_)
            · (clear hK K; ((go_split_ands; (try dsimp only); (repeat' (with_reducible apply And.intro)) <;> (repeat (first | with_reducible assumption | with_reducible apply keep_alloc | with_reducible apply keep_drew | with_reducible refine keep_below hb1 ?_ | ((with_reducible refine keep_set ?_ ?_); rotate_left; (simp <;> omega)))))))
            clear hS hK K
            have hS := hS2
            clear hS2
            refine wpT (i := 2) (v := ?_) rfl rfl (by kernel_rfl) (by kernel_rfl) (by kernel_rfl) (fun _ _ _ h => h) (Or.inl ⟨by rfl, ?_⟩) hS ?_
            rotate_left
            · (intro w hSw; (try dsimp only at hSw); go_simp; first | done | with_reducible rfl)
            simp only [List.setIfInBounds_toArray, List.set_cons_zero, List.set_cons_succ]
            refine wpT (i := 3) (v := ?_) rfl rfl (by kernel_rfl) (by kernel_rfl) (by kernel_rfl) (fun _ _ _ h => h) (Or.inl ⟨by rfl, ?_⟩) hS ?_
            rotate_left
            · (intro w hSw; (try dsimp only at hSw); go_simp; first | done | with_reducible rfl)
            simp only [List.setIfInBounds_toArray, List.set_cons_zero, List.set_cons_succ]
            refine wpT (i := 4) (v := ?_) rfl rfl (by kernel_rfl) (by kernel_rfl) (by kernel_rfl) (fun _ _ _ h => h) (Or.inl ⟨by rfl, ?_⟩) hS ?_
            rotate_left
            · (intro w hSw; (try dsimp only at hSw); go_simp; first | done | with_reducible rfl)
            simp only [List.setIfInBounds_toArray, List.set_cons_zero, List.set_cons_succ]
            refine wpT (i := 5) (v := ?_) rfl rfl (by kernel_rfl) (by kernel_rfl) (by kernel_rfl) (fun _ _ _ h => h) (Or.inl ⟨by rfl, ?_⟩) hS ?_
            rotate_left
            · (intro w hSw; (try dsimp only at hSw); go_simp; first | done | with_reducible rfl)
            simp only [List.setIfInBounds_toArray, List.set_cons_zero, List.set_cons_succ]
            refine wpT (i := 6) (v := ?_) rfl rfl (by kernel_rfl) (by kernel_rfl) (by kernel_rfl) (fun _ _ _ h => h) (Or.inl ⟨by rfl, ?_⟩) hS ?_
            rotate_left
            · (intro w hSw; (try dsimp only at hSw); go_simp; first | done | with_reducible rfl)
            simp only [List.setIfInBounds_toArray, List.set_cons_zero, List.set_cons_succ]
            refine wpT (i := 7) (v := ?_) rfl rfl (by kernel_rfl) (by kernel_rfl) (by kernel_rfl) (fun _ _ _ h => h) (Or.inl ⟨by rfl, ?_⟩) hS ?_
            rotate_left
            · (intro w hSw; (try dsimp only at hSw); go_simp; first | done | with_reducible rfl)
            simp only [List.setIfInBounds_toArray, List.set_cons_zero, List.set_cons_succ]
            refine wpT (i := 8) (v := ?_) rfl rfl (by kernel_rfl) (by kernel_rfl) (by kernel_rfl) (fun _ _ _ h => h) (Or.inl ⟨by rfl, ?_⟩) hS ?_
            rotate_left
            · (intro w hSw; (try dsimp only at hSw); go_simp; first | done | with_reducible rfl)
            simp only [List.setIfInBounds_toArray, List.set_cons_zero, List.set_cons_succ]
            refine wpT (i := 9) (v := ?_) rfl rfl (by kernel_rfl) (by kernel_rfl) (by kernel_rfl) (fun _ _ _ h => h) (Or.inl ⟨by rfl, ?_⟩) hS ?_
            rotate_left
            · (intro w hSw; (try dsimp only at hSw); go_simp; first | done | with_reducible rfl)
            simp only [List.setIfInBounds_toArray, List.set_cons_zero, List.set_cons_succ]
            refine wpT (i := 10) (v := ?_) rfl rfl (by kernel_rfl) (by kernel_rfl) (by kernel_rfl) (fun _ _ _ h => h) (Or.inl ⟨by rfl, ?_⟩) hS ?_
            rotate_left
            · (intro w hSw; (try dsimp only at hSw); go_simp; first | done | with_reducible rfl)
            simp only [List.setIfInBounds_toArray, List.set_cons_zero, List.set_cons_succ]
            refine wpT (i := 11) (v := ?_) rfl rfl (by kernel_rfl) (by kernel_rfl) (by kernel_rfl) (fun _ _ _ h => h) (Or.inl ⟨by rfl, ?_⟩) hS ?_
            rotate_left
            · (intro w hSw; (try dsimp only at hSw); go_simp; first | done | with_reducible rfl)
            simp only [List.setIfInBounds_toArray, List.set_cons_zero, List.set_cons_succ]
            refine wpT (i := 12) (v := ?_) rfl rfl (by kernel_rfl) (by kernel_rfl) (by kernel_rfl) (fun _ _ _ h => h) (Or.inl ⟨by rfl, ?_⟩) hS ?_
            rotate_left
            · (intro w hSw; (try dsimp only at hSw); go_simp; first | done | with_reducible rfl)
            simp only [List.setIfInBounds_toArray, List.set_cons_zero, List.set_cons_succ]
            refine wpAnyH_ready (rs := [13]) (by kernel_rfl) (by simp) ?_
            refine AllReadyH.cons rfl (fun K hK => ?_) AllReadyH.nil
            go_simp
            (go_at_call 23; refine (before_i _ _ _ _ _).mono ?_; rintro e w2 ⟨rfl, hb3⟩)
            try go_wp2_with fail
            refine hK.out _ _ ?_ (fun hS2 => ?_)
            · (clear hK K; ((go_split_ands; (try dsimp only); (repeat' (with_reducible apply And.intro)) <;> (repeat (first | with_reducible assumption | with_reducible apply keep_alloc | with_reducible apply keep_drew | with_reducible refine keep_below hb3 ?_ | ((with_reducible refine keep_set ?_ ?_); rotate_left; (simp <;> omega)))))))
            clear hS hK K
            have hS := hS2
            clear hS2
            refine wpT (i := 14) (v := ?_) rfl rfl (by kernel_rfl) (by kernel_rfl) (by kernel_rfl) (fun _ _ _ h => h) (Or.inl ⟨by rfl, ?_⟩) hS ?_
            rotate_left
            · (intro w hSw; (try dsimp only at hSw); go_simp; first | done | with_reducible rfl)
            simp only [List.setIfInBounds_toArray, List.set_cons_zero, List.set_cons_succ]
            refine wpT (i := 15) (v := ?_) rfl rfl (by kernel_rfl) (by kernel_rfl) (by kernel_rfl) (fun _ _ _ h => h) (Or.inl ⟨by rfl, ?_⟩) hS ?_
            rotate_left
            · (intro w hSw; (try dsimp only at hSw); go_simp; first | done | with_reducible rfl)
            simp only [List.setIfInBounds_toArray, List.set_cons_zero, List.set_cons_succ]
            refine wpT (i := 16) (v := ?_) rfl rfl (by kernel_rfl) (by kernel_rfl) (by kernel_rfl) (fun _ _ _ h => h) (Or.inl ⟨by rfl, ?_⟩) hS ?_
            rotate_left
            · (intro w hSw; (try dsimp only at hSw); go_simp; first | done | with_reducible rfl)
            simp only [List.setIfInBounds_toArray, List.set_cons_zero, List.set_cons_succ]
            refine wpAnyH_done (by kernel_rfl) ?_ _
            refine NoPanic.normal ?_
            go_wp2_with fail
            go_meet
            exact ⟨by rw [HV.out], (by (repeat (first | with_reducible exact Below.refl _ _ | with_reducible assumption | with_reducible apply bel_alloc | with_reducible apply bel_drew | with_reducible apply bel_drewN | ((with_reducible refine bel_set ?_ ?_); rotate_left; (simp <;> omega)) | (with_reducible refine bel_trans ?_ (by with_reducible assumption)))))⟩
          · have hk3 : k = 0 := by omega
            have HV : Hid (shapeAt xs k (x, y) = true) := by unfold Hid shapeAt; rw [ho, hk3]; rfl
            have HO := Lib.hid ho
            have hk2 : decide ((0 : Int) < (k : Int)) = false := by simp; omega
            have hk4 : ¬ (0 : Int) < (k : Int) := by omega
            generalize hW : wr.alloc (.cells #[.int .i64 x, .int .i64 y] 29) = W
            have hq := Blk.new wr 29 #[.int .i64 x, .int .i64 y]
            have hb2 : Below wr.heap.size wr (wr.alloc (.cells #[.int .i64 x, .int .i64 y] 29)) := (by (repeat (first | with_reducible exact Below.refl _ _ | with_reducible assumption | with_reducible apply bel_alloc | with_reducible apply bel_drew | with_reducible apply bel_drewN | ((with_reducible refine bel_set ?_ ?_); rotate_left; (simp <;> omega)) | (with_reducible refine bel_trans ?_ (by with_reducible assumption)))))
            rw [hW] at hq hb2
            clear hW ho hk3
            have q1 : W.cell? ⟨wr.heap.size, 0, none⟩ = some (.int .i64 x) := by simpa using hq.cell 0
            have q2 : W.cell? ⟨wr.heap.size, 1, none⟩ = some (.int .i64 y) := by simpa using hq.cell 1
            refine wp_region_noPanic ?_
            refine wp_region_held_drew (S := (fun w' => w'.cell? ⟨wr.heap.size, 0, none⟩ = some (.int .i64 x) ∧ w'.cell? ⟨wr.heap.size, 1, none⟩ = some (.int .i64 y))) (by kernel_rfl) ?_ (fun hS => ?_)
            · ((go_split_ands; (try dsimp only); (repeat' (with_reducible apply And.intro)) <;> (repeat (first | with_reducible assumption | with_reducible apply keep_alloc | with_reducible apply keep_drew | with_reducible refine keep_below hb1 ?_ | ((with_reducible refine keep_set ?_ ?_); rotate_left; (simp <;> omega))))))
            refine wpT (i := 0) (v := ?_) rfl rfl (by kernel_rfl) (by kernel_rfl) (by kernel_rfl) (fun _ _ _ h => h) (Or.inl ⟨by rfl, ?_⟩) hS ?_
            rotate_left
            · (intro w hSw; (try dsimp only at hSw); go_simp; first | done | with_reducible rfl)
            simp only [List.setIfInBounds_toArray, List.set_cons_zero, List.set_cons_succ]
            refine wpAnyH_ready (rs := [1]) (by kernel_rfl) (by simp) ?_
            refine AllReadyH.cons rfl (fun K hK => ?_) AllReadyH.nil
            go_simp
            (go_at_call 22; refine (onBoard_i _ _ _).mono ?_; rw [HO.out]; rintro e w1 ⟨rfl, hb1⟩)
            try go_wp2_with fail
            refine hK.out _ _ ?_ (fun hS2 => ?_)
            · (clear hK K; ((go_split_ands; (try dsimp only); (repeat' (with_reducible apply And.intro)) <;> (repeat (first | with_reducible assumption | with_reducible apply keep_alloc | with_reducible apply keep_drew | with_reducible refine keep_below hb1 ?_ | ((with_reducible refine keep_set ?_ ?_); rotate_left; (simp <;> omega)))))))
            clear hS hK K
            have hS := hS2
            clear hS2
            refine wpT (i := 2) (v := ?_) rfl rfl (by kernel_rfl) (by kernel_rfl) (by kernel_rfl) (fun _ _ _ h => h) (Or.inl ⟨by rfl, ?_⟩) hS ?_
            rotate_left
            · (intro w hSw; (try dsimp only at hSw); go_simp; first | done | with_reducible rfl)
            simp only [List.setIfInBounds_toArray, List.set_cons_zero, List.set_cons_succ]
            refine wpT (i := 3) (v := ?_) rfl rfl (by kernel_rfl) (by kernel_rfl) (by kernel_rfl) (fun _ _ _ h => h) (Or.inl ⟨by rfl, ?_⟩) hS ?_
            rotate_left
            · (intro w hSw; (try dsimp only at hSw); go_simp; first | done | with_reducible rfl)
            simp only [List.setIfInBounds_toArray, List.set_cons_zero, List.set_cons_succ]
            refine wpT (i := 4) (v := ?_) rfl rfl (by kernel_rfl) (by kernel_rfl) (by kernel_rfl) (fun _ _ _ h => h) (Or.inl ⟨by rfl, ?_⟩) hS ?_
            rotate_left
            · (intro w hSw; (try dsimp only at hSw); go_simp; first | done | with_reducible rfl)
            simp only [List.setIfInBounds_toArray, List.set_cons_zero, List.set_cons_succ]
            refine wpT (i := 5) (v := ?_) rfl rfl (by kernel_rfl) (by kernel_rfl) (by kernel_rfl) (fun _ _ _ h => h) (Or.inl ⟨by rfl, ?_⟩) hS ?_
            rotate_left
            · (intro w hSw; (try dsimp only at hSw); go_simp; first | done | with_reducible rfl)
            simp only [List.setIfInBounds_toArray, List.set_cons_zero, List.set_cons_succ]
            refine wpT (i := 6) (v := ?_) rfl rfl (by kernel_rfl) (by kernel_rfl) (by kernel_rfl) (fun _ _ _ h => h) (Or.inl ⟨by rfl, ?_⟩) hS ?_
            rotate_left
            · (intro w hSw; (try dsimp only at hSw); go_simp; first | done | with_reducible rfl)
            simp only [List.setIfInBounds_toArray, List.set_cons_zero, List.set_cons_succ]
            refine wpT (i := 7) (v := undef) rfl rfl (by kernel_rfl) (by kernel_rfl) (by kernel_rfl) (fun _ _ _ h => h) (Or.inr ⟨by rfl, rfl⟩) hS ?_
            simp only [List.setIfInBounds_toArray, List.set_cons_zero, List.set_cons_succ]
            refine wpT (i := 8) (v := undef) rfl rfl (by kernel_rfl) (by kernel_rfl) (by kernel_rfl) (fun _ _ _ h => h) (Or.inr ⟨by rfl, rfl⟩) hS ?_
            simp only [List.setIfInBounds_toArray, List.set_cons_zero, List.set_cons_succ]
            refine wpT (i := 9) (v := undef) rfl rfl (by kernel_rfl) (by kernel_rfl) (by kernel_rfl) (fun _ _ _ h => h) (Or.inr ⟨by rfl, rfl⟩) hS ?_
            simp only [List.setIfInBounds_toArray, List.set_cons_zero, List.set_cons_succ]
            refine wpT (i := 10) (v := undef) rfl rfl (by kernel_rfl) (by kernel_rfl) (by kernel_rfl) (fun _ _ _ h => h) (Or.inr ⟨by rfl, rfl⟩) hS ?_
            simp only [List.setIfInBounds_toArray, List.set_cons_zero, List.set_cons_succ]
            refine wpT (i := 11) (v := undef) rfl rfl (by kernel_rfl) (by kernel_rfl) (by kernel_rfl) (fun _ _ _ h => h) (Or.inr ⟨by rfl, rfl⟩) hS ?_
            simp only [List.setIfInBounds_toArray, List.set_cons_zero, List.set_cons_succ]
            refine wpT (i := 12) (v := undef) rfl rfl (by kernel_rfl) (by kernel_rfl) (by kernel_rfl) (fun _ _ _ h => h) (Or.inr ⟨by rfl, rfl⟩) hS ?_
            simp only [List.setIfInBounds_toArray, List.set_cons_zero, List.set_cons_succ]
            refine wpT (i := 13) (v := undef) rfl rfl (by kernel_rfl) (by kernel_rfl) (by kernel_rfl) (fun _ _ _ h => h) (Or.inr ⟨by rfl, rfl⟩) hS ?_
            simp only [List.setIfInBounds_toArray, List.set_cons_zero, List.set_cons_succ]
            refine wpT (i := 14) (v := undef) rfl rfl (by kernel_rfl) (by kernel_rfl) (by kernel_rfl) (fun _ _ _ h => h) (Or.inr ⟨by rfl, rfl⟩) hS ?_
            simp only [List.setIfInBounds_toArray, List.set_cons_zero, List.set_cons_succ]
            refine wpT (i := 15) (v := ?_) rfl rfl (by kernel_rfl) (by kernel_rfl) (by kernel_rfl) (fun _ _ _ h => h) (Or.inl ⟨by rfl, ?_⟩) hS ?_
            rotate_left
            · (intro w hSw; (try dsimp only at hSw); go_simp; first | done | with_reducible rfl)
            simp only [List.setIfInBounds_toArray, List.set_cons_zero, List.set_cons_succ]
            refine wpT (i := 16) (v := ?_) rfl rfl (by kernel_rfl) (by kernel_rfl) (by kernel_rfl) (fun _ _ _ h => h) (Or.inl ⟨by rfl, ?_⟩) hS ?_
            rotate_left
            · (intro w hSw; (try dsimp only at hSw); go_simp; first | done | with_reducible rfl)
            simp only [List.setIfInBounds_toArray, List.set_cons_zero, List.set_cons_succ]
            refine wpAnyH_done (by kernel_rfl) ?_ _
            refine NoPanic.normal ?_
            go_wp2_with fail
            go_meet
            exact ⟨by rw [HV.out]; rfl, (by (repeat (first | with_reducible exact Below.refl _ _ | with_reducible assumption | with_reducible apply bel_alloc | with_reducible apply bel_drew | with_reducible apply bel_drewN | ((with_reducible refine bel_set ?_ ?_); rotate_left; (simp <;> omega)) | (with_reducible refine bel_trans ?_ (by with_reducible assumption)))))⟩
      case rest =>
        obtain ⟨rfl, hb3⟩ := hcut
        cases hg : shapeAt xs k (x, y) with
        | true =>
          have HN : Hid (shapeTo xs (k + 1) = true) := by show shapeTo xs (k + 1) = true; rw [HS.out, HG.out, hg]; rfl
          clear hg
          go_wp2
          exact ⟨⟨k + 1, by omega, by go_num, HN.out, (by (repeat (first | with_reducible exact Below.refl _ _ | with_reducible assumption | with_reducible apply bel_alloc | with_reducible apply bel_drew | with_reducible apply bel_drewN | ((with_reducible refine bel_set ?_ ?_); rotate_left; (simp <;> omega)) | (with_reducible refine bel_trans ?_ (by with_reducible assumption)))))⟩, by simp [intOf]; omega⟩
        | false =>
          have HN := Lib.hid (HNO.out hg)
          clear hg
          go_wp2
          go_ret
          exact ⟨by rw [HN.out]; rfl, (by (repeat (first | with_reducible exact Below.refl _ _ | with_reducible assumption | with_reducible apply bel_alloc | with_reducible apply bel_drew | with_reducible apply bel_drewN | ((with_reducible refine bel_set ?_ ?_); rotate_left; (simp <;> omega)) | (with_reducible refine bel_trans ?_ (by with_reducible assumption)))))⟩
    · have hkk : k = n := by omega
      subst hkk
      have hv : isShape xs = (decide ((1 : Int) ≤ (k : Int)) && decide ((k : Int) ≤ 8)) := by
        unfold isShape
        rw [HL.out, hgo]
        rw [Bool.true_and]
        congr 1 <;> (rw [decide_eq_decide]; omega)
      have HV := Lib.hid hv
      clear hgo hv
      go_wp2_with (go_at_call 24; refine (between_b _ _ _ (isShape xs) _ HV.out).mono ?_; rintro e w1 ⟨rfl, hb1⟩)
      go_ret
      exact ⟨rfl, (by (repeat (first | with_reducible exact Below.refl _ _ | with_reducible assumption | with_reducible apply bel_alloc | with_reducible apply bel_drew | with_reducible apply bel_drewN | ((with_reducible refine bel_set ?_ ?_); rotate_left; (simp <;> omega)) | (with_reducible refine bel_trans ?_ (by with_reducible assumption)))))⟩
end Go.Proofs.Ytegnedpikpfjfaa

/- A region that draws its order, whose operations read and whose callees may make memory of their own: one walk of the lexical order, in every world that is as the first one below its heap's end. -/
namespace Go.Proofs.Ytegnedpikpfjfaa
open Go.RowKit
section
variable {P : Program} {C : World → Prop} {K : Act → Prop} {a : Act} {o : Oper}
theorem wp_region_below {id : Nat} {Q : Exit → Act → World → Prop} {w : World} {l : List Oper} (hm : P.follows .mixedOrders = true) (hB : Region.lexB .any l.toArray = true)
    (h : wpQuiet P l.toArray (fun w' => Below w.heap.size w w') (fun a' => ∀ w', Below w.heap.size w w' → Q .normal a' w') l a) : (Code.region id l.toArray true).wp P Q a w :=
  wp_region_quiet (C := fun w' => Below w.heap.size w w') hm hB ⟨rfl, rfl, rfl, Nat.le_refl _, fun _ _ => rfl⟩ (by simpa using h)
theorem quietV {ops : Array Oper} {Q : Act → Prop} {rest : List Oper} {ts : Array Value} {ds : List Deferred} {v : Value} {d : Nat} (hw : Region.wanted o (yielded ops ts) = true) (hd : o.dst = some d) (h1 : ∀ w', C w' → o.quietAt P { tmps := ts, defers := ds } C w' v)
    (h2 : wpQuiet P ops C Q rest { tmps := ts.setIfInBounds d v, defers := ds }) : wpQuiet P ops C Q (o :: rest) { tmps := ts, defers := ds } :=
  wpQuiet_step fun K hK => by rw [if_pos hw]; exact ⟨v, h1, by rw [hd]; exact hK _ h2⟩
theorem quietB {v : Value} (h1 : ∀ w', C w' → o.quietAt P a C w' v) (h2 : K (a.put o.dst v)) : o.quiet P a C K := ⟨v, h1, h2⟩
theorem callsB {f : FuncId} {args : Array Value} {w w' : World} {v : Value} (h : Calls P f args w' (Ret w' v)) (hb : Below w.heap.size w w') :
    Calls P f args w' (fun e w'' => e = .returned v ∧ Below w.heap.size w w'') := h.mono fun _ _ ⟨he, h2⟩ => ⟨he, bel_trans hb h2⟩
theorem callsBB {f : FuncId} {args : Array Value} {w w' : World} {b b' : Bool} (h : Calls P f args w' (Ret w' (.bool b))) (e : b = b') (hb : Below w.heap.size w w') :
    Calls P f args w' (fun e w'' => e = .returned (.bool b') ∧ Below w.heap.size w w'') := by subst e; exact callsB h hb
theorem callsBI {f : FuncId} {args : Array Value} {w w' : World} {b b' : Int} (h : Calls P f args w' (Ret w' (.int .i64 b))) (e : b = b') (hb : Below w.heap.size w w') :
    Calls P f args w' (fun e w'' => e = .returned (.int .i64 b') ∧ Below w.heap.size w w'') := by subst e; exact callsB h hb
end
end Go.Proofs.Ytegnedpikpfjfaa
