/- Texts of this claim, one behind the other: part 1. -/
import Derived.WalkKit
import Derived.Below
import Derived.Laws.OwnMore
import Derived.Maps.AppendAt
import Derived.Deep.Draws
import Derived.Lib.Hide
import Derived.Test.YtoedmmhiinhljaaGreatDoorRows
import Derived.ProofKit
import Derived.OpenShut
import Derived.ShutString
import Derived.ChangeSame
import Derived.Carry
import Derived.WideKeyArgs
import Derived.Deep.Slices
import Derived.Deep.Fields
import Derived.ChangeSlices
import Derived.Laws.BitsLemmas
import Derived.Test.YtoedmmhiinhljaaGreatDoorProg
import Derived.WalkLawsBesides
import Derived.WalkSpells
import Derived.Outline
import Derived.BigQuiet
import Derived.Deep.QuietTactic
import Derived.Deep.RegionHeld3
import Derived.Deep.RegionWith
import Derived.Deep.DeepCutAuto
import Derived.Deep.CutBlock
import Derived.Deep.DrawnRows
import Derived.IntWalk
import Derived.StillTail
import Derived.OrdersHeld
import Derived.Laws.AppendOwn
/- Small predicates and lemmas on memory that the walks of this family share: a slice that reads as a list, frames, results. No program is in sight. -/
namespace Go.Proofs.YtoedmmhiinhljaaGreatDoor
open Go.RowKit
set_option linter.unusedVariables false

abbrev C := Int × Int

/-- The cells of a list of integers, of a list of pairs. -/
def vI (xs : List Int) : List Value := xs.map (.int .i64)
def vC : List C → List Value
  | [] => []
  | p :: t => .int .i64 p.1 :: .int .i64 p.2 :: vC t
def vB (xs : List UInt8) : List Value := xs.map fun b => .int .u8 b.toNat
theorem vB_length (xs : List UInt8) : (vB xs).length = xs.length := by simp [vB]
theorem vB_append (a b : List UInt8) : vB (a ++ b) = vB a ++ vB b := by simp [vB]
theorem vB_one (xs : List UInt8) : ∀ u ∈ vB xs, u.oneCell' = true := by simp [vB, Value.oneCell']
/-- A slice's header: address, length, capacity. -/
abbrev H := Option Addr × Nat × Nat
def hd (h : H) : Value := .slice h.1 h.2.1 h.2.2
def vS (hs : List H) : List Value := hs.map hd

theorem vI_length (xs : List Int) : (vI xs).length = xs.length := by simp [vI]
theorem vS_length (xs : List H) : (vS xs).length = xs.length := by simp [vS]
theorem vC_length (xs : List C) : (vC xs).length = xs.length * 2 := by induction xs with
  | nil => rfl
  | cons p t ih => simp only [vC, List.length_cons, ih]; omega
theorem vI_append (a b : List Int) : vI (a ++ b) = vI a ++ vI b := by simp [vI]
theorem vS_append (a b : List H) : vS (a ++ b) = vS a ++ vS b := by simp [vS]
theorem vC_append (a b : List C) : vC (a ++ b) = vC a ++ vC b := by
  induction a with
  | nil => rfl
  | cons p t ih => simp [vC, ih]
theorem vC_get1 (xs : List C) (k : Nat) (h : k < xs.length) : (vC xs)[k * 2]? = some (.int .i64 xs[k].1) := by
  induction xs generalizing k with
  | nil => simp at h
  | cons p t ih =>
    cases k with
    | zero => simp [vC]
    | succ k =>
      have := ih k (by simpa using h)
      rw [show (k + 1) * 2 = k * 2 + 1 + 1 from by omega]
      simpa [vC] using this
theorem vC_get2 (xs : List C) (k : Nat) (h : k < xs.length) : (vC xs)[k * 2 + 1]? = some (.int .i64 xs[k].2) := by
  induction xs generalizing k with
  | nil => simp at h
  | cons p t ih =>
    cases k with
    | zero => simp [vC]
    | succ k =>
      have := ih k (by simpa using h)
      rw [show (k + 1) * 2 + 1 = k * 2 + 1 + 1 + 1 from by omega]
      simpa [vC] using this
theorem vC_drop (xs : List C) (k : Nat) : vC (xs.drop k) = (vC xs).drop (k * 2) := by
  induction xs generalizing k with
  | nil => simp [vC]
  | cons p t ih =>
    cases k with
    | zero => simp
    | succ k => rw [show (k + 1) * 2 = k * 2 + 1 + 1 from by omega]; simp [vC, ih]
theorem vC_take (xs : List C) (k : Nat) : vC (xs.take k) = (vC xs).take (k * 2) := by
  induction xs generalizing k with
  | nil => simp [vC]
  | cons p t ih =>
    cases k with
    | zero => simp [vC]
    | succ k => rw [show (k + 1) * 2 = k * 2 + 1 + 1 from by omega]; simp [vC, ih]
theorem vI_drop (xs : List Int) (k : Nat) : vI (xs.drop k) = (vI xs).drop k := by simp [vI]
theorem vI_take (xs : List Int) (k : Nat) : vI (xs.take k) = (vI xs).take k := by simp [vI]
theorem vI_one (xs : List Int) : ∀ u ∈ vI xs, u.oneCell' = true := by simp [vI, Value.oneCell']
theorem vS_one (xs : List H) : ∀ u ∈ vS xs, u.oneCell' = true := by intro u h; simp only [vS, List.mem_map] at h; obtain ⟨x, _, rfl⟩ := h; rfl
theorem vC_one (xs : List C) : ∀ u ∈ vC xs, u.oneCell' = true := by
  induction xs with
  | nil => intro u h; cases h
  | cons p t ih =>
    intro u h
    simp only [vC, List.mem_cons] at h
    rcases h with rfl | rfl | h
    · rfl
    · rfl
    · exact ih u h

/-- The slice at address A reads, in world w, as the cells vs. -/
def Rd (w : World) (A : Option Addr) (vs : List Value) : Prop :=
  vs = [] ∨ ∃ g off, A = some ⟨g, off, none⟩ ∧ ∀ j u, vs[j]? = some u → w.cell? ⟨g, off + j, none⟩ = some u

section
variable {w w' : World} {A : Option Addr} {vs : List Value}
theorem Rd.none_ : Rd w A [] := .inl rfl
theorem Rd.keep (h : Rd w A vs) (hk : ∀ p : Addr, p.block < w.heap.size → w'.cell? p = w.cell? p) : Rd w' A vs := by
  rcases h with h | ⟨g, off, e, h⟩
  · exact .inl h
  · exact .inr ⟨g, off, e, fun j u hu => (hk _ (World.block_lt_of_cell? w _ (h j u hu))).trans (h j u hu)⟩
theorem Rd.below (h : Rd w A vs) (hb : Below w.heap.size w w') : Rd w' A vs := h.keep fun _ hp => hb.cell hp
theorem Rd.drew (h : Rd w A vs) : Rd w.drew A vs := h
theorem Rd.drewN (h : Rd w A vs) (k : Nat) : Rd (w.drewN k) A vs := h
theorem Rd.alloc (h : Rd w A vs) (o : Obj) : Rd (w.alloc o) A vs := h.keep fun p hp => World.cell?_alloc_lt w o p hp
theorem Rd.drop (h : Rd w A vs) (k cap : Nat) (hc : vs.length ≤ cap) : Rd w (if cap = k then A else A.map (·.add k)) (vs.drop k) := by
  rcases h with rfl | ⟨g, off, rfl, h⟩
  · simp [Rd]
  · by_cases hk : vs.length ≤ k
    · exact .inl (by simp [hk])
    · refine .inr ⟨g, off + k, ?_, fun j u hu => ?_⟩
      · rw [if_neg (by omega)]
        simp only [Option.map_some, Addr.add]
        split
        · subst_vars; rfl
        · rfl
      · rw [Nat.add_assoc]; exact h _ u (by rw [← hu, List.getElem?_drop])
theorem Rd.take (h : Rd w A vs) (k : Nat) : Rd w A (vs.take k) := by
  rcases h with rfl | ⟨g, off, rfl, h⟩
  · simp [Rd]
  · refine .inr ⟨g, off, rfl, fun j u hu => h j u ?_⟩
    rw [List.getElem?_take] at hu
    split at hu
    · exact hu
    · cases hu
theorem Rd.of_own {base e n c size : Nat} (h : w.ownsRow base e size (.slice A n c) n vs) : Rd w A vs := by
  rcases h.2 with ⟨hv, hn⟩ | ⟨g, cap, cur, hv, _, hg, _⟩
  · left
    have := h.1
    rw [hn] at this
    exact List.eq_nil_of_length_eq_zero (by omega)
  · right
    injection hv with hA
    subst hA
    refine ⟨g, 0, rfl, fun j u hu => ?_⟩
    have := h.cells (g := g) rfl j u hu
    have e : (⟨g, 0, none⟩ : Addr).add j = ⟨g, j, none⟩ := by unfold Addr.add; split <;> simp_all
    rw [e] at this
    simpa using this
end

theorem RdI.at_ {w : World} {A : Option Addr} {xs : List Int} {k : Nat} (h : Rd w A (vI xs)) (hk : k < xs.length) :
    ∃ g off, A = some ⟨g, off, none⟩ ∧ g < w.heap.size ∧ w.cell? ⟨g, off + k, none⟩ = some (.int .i64 xs[k]) := by
  rcases h with h | ⟨g, off, e, h⟩
  · have := congrArg List.length h
    rw [vI_length] at this
    simp at this
    subst this
    simp at hk
  · have := h k (.int .i64 xs[k]) (by simp [vI, hk])
    exact ⟨g, off, e, World.block_lt_of_cell? w _ this, this⟩
theorem RdS.at_ {w : World} {A : Option Addr} {xs : List H} {k : Nat} (h : Rd w A (vS xs)) (hk : k < xs.length) :
    ∃ g off, A = some ⟨g, off, none⟩ ∧ g < w.heap.size ∧ w.cell? ⟨g, off + k, none⟩ = some (.slice xs[k].1 xs[k].2.1 xs[k].2.2) := by
  rcases h with h | ⟨g, off, e, h⟩
  · have := congrArg List.length h
    rw [vS_length] at this
    simp at this
    subst this
    simp at hk
  · have := h k (hd xs[k]) (by simp [vS, hk])
    exact ⟨g, off, e, World.block_lt_of_cell? w _ this, this⟩
theorem RdC.at_ {w : World} {A : Option Addr} {xs : List C} {k : Nat} (h : Rd w A (vC xs)) (hk : k < xs.length) :
    ∃ g off, A = some ⟨g, off, none⟩ ∧ g < w.heap.size ∧ w.cell? ⟨g, off + k * 2, none⟩ = some (.int .i64 xs[k].1) ∧ w.cell? ⟨g, off + k * 2 + 1, none⟩ = some (.int .i64 xs[k].2) := by
  rcases h with h | ⟨g, off, e, h⟩
  · have := congrArg List.length h
    rw [vC_length] at this
    simp only [List.length_nil] at this
    omega
  · have h1 := h _ _ (vC_get1 xs k hk)
    have h2 := h _ _ (vC_get2 xs k hk)
    exact ⟨g, off, e, World.block_lt_of_cell? w _ h1, h1, by rw [Nat.add_assoc]; exact h2⟩

/-- A block that is known whole. -/
def Blk (w : World) (g : Nat) (t : TypeId) (cs : Array Value) : Prop := w.heap[g]? = some (.cells cs t (0, 0))
section
variable {w w' : World} {g : Nat} {t : TypeId} {cs : Array Value}
theorem Blk.lt (h : Blk w g t cs) : g < w.heap.size := by
  rcases Nat.lt_or_ge g w.heap.size with hlt | hge
  · exact hlt
  · unfold Blk at h; rw [Array.getElem?_eq_none hge] at h; cases h
theorem Blk.cell (h : Blk w g t cs) (i : Nat) : w.cell? ⟨g, i, none⟩ = cs[i]? := cell_of_row w g i cs t (0, 0) h
theorem Blk.frozen (h : Blk w g t cs) (i : Nat) : w.frozen? ⟨g, i, none⟩ = false := by
  unfold Blk at h
  simp [World.frozen?, h]
theorem Blk.new (w : World) (t : TypeId) (cs : Array Value) : Blk (w.alloc (.cells cs t)) w.heap.size t cs := heap_alloc_new w _
theorem Blk.drew (h : Blk w g t cs) : Blk w.drew g t cs := h
theorem Blk.drewN (h : Blk w g t cs) (n : Nat) : Blk (w.drewN n) g t cs := h
theorem Blk.alloc (h : Blk w g t cs) (o : Obj) : Blk (w.alloc o) g t cs := (Below.heap_alloc w o g h.lt).trans h
theorem Blk.set_ (h : Blk w g t cs) (i : Nat) (u : Value) : Blk (w.setCell ⟨g, i, none⟩ u) g t (cs.setIfInBounds i u) := by
  unfold Blk at h ⊢
  simp [World.setCell, Array.getElem?_modify, h]
theorem Blk.far (h : Blk w g t cs) {p : Addr} (hp : g ≠ p.block) (u : Value) : Blk (w.setCell p u) g t cs := (Below.heap_setCell w p u g hp).trans h
theorem Blk.below (h : Blk w g t cs) (hb : Below w.heap.size w w') : Blk w' g t cs := (hb.block g h.lt).trans h
theorem Blk.grown {row : Option Nat} (h : Blk w g t cs) (hb : w.grownBy w' row) (hg : some g ≠ row) : Blk w' g t cs := (hb.block g h.lt hg).trans h
end

section
variable {a w w' : World}
theorem bel_alloc (h : Below a.heap.size a w) (o : Obj) : Below a.heap.size a (w.alloc o) := h.alloc h.size o
theorem bel_drew (h : Below a.heap.size a w) : Below a.heap.size a w.drew := h.drew
theorem bel_drewN {n : Nat} (h : Below a.heap.size a w) : Below a.heap.size a (w.drewN n) := ⟨h.os, h.tape, h.output, h.size, h.block⟩
theorem bel_set {p : Addr} {u : Value} (h : Below a.heap.size a w) (hp : a.heap.size ≤ p.block) : Below a.heap.size a (w.setCell p u) := h.setCell hp u
theorem bel_trans (h : Below a.heap.size a w) (k : Below w.heap.size w w') : Below a.heap.size a w' := h.trans (k.mono h.size)
theorem bel_grown {row : Option Nat} (h : Below a.heap.size a w) (hg : w.grownBy w' row) (hr : ∀ k, row = some k → a.heap.size ≤ k) : Below a.heap.size a w' := h.grown hg h.size hr
end

theorem bcell {W w1 : World} (hb : Below W.heap.size W w1) : (∀ b o, b < W.heap.size → w1.cell? ⟨b, o, none⟩ = W.cell? ⟨b, o, none⟩) ∧ (∀ b o, b < W.heap.size → w1.frozen? ⟨b, o, none⟩ = W.frozen? ⟨b, o, none⟩) :=
  ⟨fun b o h => hb.cell (p := ⟨b, o, none⟩) h, fun b o h => hb.frozen (p := ⟨b, o, none⟩) h⟩
theorem keep_alloc {w : World} {o : Obj} {a : Addr} {v : Value} (h : w.cell? a = some v) : (w.alloc o).cell? a = some v := (World.cell?_alloc_lt w o a (World.block_lt_of_cell? w a h)).trans h
theorem keep_drew {w : World} {a : Addr} {v : Value} (h : w.cell? a = some v) : (w.drew).cell? a = some v := h
theorem keep_below {w w' : World} {a : Addr} {v : Value} (hb : Below w.heap.size w w') (h : w.cell? a = some v) : w'.cell? a = some v := (hb.cell (World.block_lt_of_cell? w a h)).trans h
theorem keep_grown {w w' : World} {row : Option Nat} {a : Addr} {v : Value} (hg : w.grownBy w' row) (h : w.cell? a = some v) (hne : some a.block ≠ row) : w'.cell? a = some v := hg.cell h hne
theorem keep_set {w : World} {p a : Addr} {u v : Value} (h : w.cell? a = some v) (hp : p ≠ a) : (w.setCell p u).cell? a = some v := (World.cell?_setCell_other w p a u hp).trans h

/-- append onto a row of the call's own, from a source that reads as a list (nil or not). -/
theorem run_append_of_nil {P : Program} (w : World) (base : Nat) (t ty e : TypeId) (i : TypeInfo) (size : Nat) (ht : P.underlying t = some (.slice e)) (hi : P.info? e = some i)
    (v : Value) (n : Nat) (xs : List Value) (hown : w.ownsRow base e size v n xs) (c : Nat) (A : Option Addr) : (Builtin.append_ #[t, t] ty #[v, .slice A 0 c]).run P w = .ok v w := by
  rcases A with _ | ad
  · rcases hown.2 with ⟨rfl, rfl⟩ | ⟨g, cap, cur, rfl, _, _, hnc, _⟩
    · simp [Builtin.append_, run_underlying ht, sizeOf, typeInfo, hi, Builtin.lenOf, Builtin.firstCells]
    · simp [Builtin.append_, run_underlying ht, sizeOf, typeInfo, hi, Builtin.lenOf, Builtin.firstCells, hnc, storeCells]
  · rcases hown.2 with ⟨rfl, rfl⟩ | ⟨g, cap, cur, rfl, _, _, hnc, _⟩
    · simp [Builtin.append_, run_underlying ht, sizeOf, typeInfo, hi, Builtin.lenOf, Builtin.firstCells, loadCells, loadCellsFrom]
    · simp [Builtin.append_, run_underlying ht, sizeOf, typeInfo, hi, Builtin.lenOf, Builtin.firstCells, hnc, storeCells, loadCells, loadCellsFrom]

/-- The block of a slice's address. -/
def ob (A : Option Addr) : Option Nat := A.map (·.block)
theorem ownBlock_slice (A : Option Addr) (n c : Nat) : (Value.slice A n c).ownBlock = ob A := by cases A <;> rfl

theorem own_form {w : World} {base e size n : Nat} {v : Value} {xs : List Value} (h : w.ownsRow base e size v n xs) : ∃ A c, v = .slice A n c := by
  rcases h.2 with ⟨rfl, rfl⟩ | ⟨g, cap, cur, rfl, _⟩
  · exact ⟨_, _, rfl⟩
  · exact ⟨_, _, rfl⟩
theorem own_lt {w : World} {base e size n c : Nat} {A : Option Addr} {xs : List Value} (h : w.ownsRow base e size (.slice A n c) n xs) : ∀ g, ob A = some g → base ≤ g ∧ g < w.heap.size := by
  intro g hg
  exact h.lt g (by rw [ownBlock_slice]; exact hg)

theorem run_app {P : Program} (w : World) (base : Nat) (t ty e : TypeId) (i : TypeInfo) (z : Value) (size bytes : Nat) (ht : P.underlying t = some (.slice e)) (hi : P.info? e = some i) (hz : i.zero = some z)
    (hsize : i.size = size) (hby : i.bytes = bytes) (hzs : z.cells.size = size) (hsz : 0 < size)
    (A : Option Addr) (n c : Nat) (xs : List Value) (hown : w.ownsRow base e size (.slice A n c) n xs)
    (A2 : Option Addr) (m c2 : Nat) (news : List Value) (hr : Rd w A2 news) (hl : news.length = m * size) (h1 : ∀ u ∈ news, u.oneCell' = true)
    (h63 : n + m ≤ maxLen) (hbytes : (n + m) * bytes ≤ 140737488355328) (hbase : base ≤ w.heap.size) :
    ∃ A' c' w', (Builtin.append_ #[t, t] ty #[.slice A n c, .slice A2 m c2]).run P w = .ok (.slice A' (n + m) c') w' ∧ w'.ownsRow base e size (.slice A' (n + m) c') (n + m) (xs ++ news) ∧ w.grownBy w' (ob A) ∧
      (ob A' = ob A ∨ ob A' = some w.heap.size) := by
  rcases hr with rfl | ⟨g, off, rfl, hc⟩
  · have hm : m = 0 := by
      simp only [List.length_nil] at hl
      rcases Nat.eq_zero_or_pos m with h0 | h0
      · exact h0
      · have := Nat.mul_pos h0 hsz; omega
    subst hm
    exact ⟨A, c, w, run_append_of_nil w base t ty e i size ht hi _ n xs hown c2 A2, by simpa using hown, World.grownBy.refl w _, .inl rfl⟩
  · have hcells : ∀ j u, news[j]? = some u → w.cell? ((⟨g, off, none⟩ : Addr).add j) = some u := by
      intro j u hu
      have e : (⟨g, off, none⟩ : Addr).add j = ⟨g, off + j, none⟩ := by unfold Addr.add; split <;> simp_all
      rw [e]; exact hc j u hu
    obtain ⟨v', w', hrun, h2, h3, _, h5⟩ := run_append_own_at (P := P) w base t ty e i z size bytes ht hi hz hsize hby hzs hsz _ n xs hown ⟨g, off, none⟩ m c2 news hl hcells h1 h63 hbytes hbase
    obtain ⟨A', c', rfl⟩ := own_form h2
    rw [ownBlock_slice] at h3 h5
    rw [ownBlock_slice] at h5
    exact ⟨A', c', w', hrun, h2, h3, h5⟩

theorem wp_app {P : Program} (w : World) {o : Oper} {a : Act} {K : Act → World → Prop} {Q : Exit → Act → World → Prop} (s x : Operand) (t : TypeId)
    (ho : o.op = .call { callee := .builtin .append, args := #[s, x], argTypes := #[t, t] })
    (base : Nat) (e : TypeId) (i : TypeInfo) (z : Value) (size bytes : Nat) (ht : P.underlying t = some (.slice e)) (hi : P.info? e = some i) (hz : i.zero = some z)
    (hsize : i.size = size) (hby : i.bytes = bytes) (hzs : z.cells.size = size) (hsz : 0 < size)
    (A : Option Addr) (n c : Nat) (xs : List Value) (hs : a.eval s = .slice A n c) (hown : w.ownsRow base e size (.slice A n c) n xs)
    (A2 : Option Addr) (m c2 : Nat) (news : List Value) (hx : a.eval x = .slice A2 m c2) (hr : Rd w A2 news) (hl : news.length = m * size) (h1 : ∀ u ∈ news, u.oneCell' = true)
    (h63 : n + m ≤ maxLen) (hbytes : (n + m) * bytes ≤ 140737488355328) (hbase : base ≤ w.heap.size)
    (h : ∀ A' c' w', w'.ownsRow base e size (.slice A' (n + m) c') (n + m) (xs ++ news) → w.grownBy w' (ob A) → (ob A' = ob A ∨ ob A' = some w.heap.size) → K (a.put o.dst (.slice A' (n + m) c')) w') :
    o.wp P a w K Q := by
  obtain ⟨A', c', w', hrun, h2, h3, h4⟩ := run_app (P := P) w base t o.type e i z size bytes ht hi hz hsize hby hzs hsz A n c xs hown A2 m c2 news hr hl h1 h63 hbytes hbase
  unfold Oper.wp execOp
  simp only [ho, resolve, invoke, builtin, Sem.run_bind, Sem.run_pure, Result.andThen_ok, List.map_toArray, List.map_cons, List.map_nil, hs, hx, hrun]
  exact h A' c' w' h2 h3 h4

theorem wpList_app {P : Program} (w : World) {ops : Array Oper} {rest : List Oper} {o : Oper} {a : Act} {Q : Exit → Act → World → Prop} (hgd : o.guard = none) (s x : Operand) (t : TypeId)
    (ho : o.op = .call { callee := .builtin .append, args := #[s, x], argTypes := #[t, t] })
    (base : Nat) (e : TypeId) (i : TypeInfo) (z : Value) (size bytes : Nat) (ht : P.underlying t = some (.slice e)) (hi : P.info? e = some i) (hz : i.zero = some z)
    (hsize : i.size = size) (hby : i.bytes = bytes) (hzs : z.cells.size = size) (hsz : 0 < size)
    (A : Option Addr) (n c : Nat) (xs : List Value) (hs : a.eval s = .slice A n c) (hown : w.ownsRow base e size (.slice A n c) n xs)
    (A2 : Option Addr) (m c2 : Nat) (news : List Value) (hx : a.eval x = .slice A2 m c2) (hr : Rd w A2 news) (hl : news.length = m * size) (h1 : ∀ u ∈ news, u.oneCell' = true)
    (h63 : n + m ≤ maxLen) (hbytes : (n + m) * bytes ≤ 140737488355328) (hbase : base ≤ w.heap.size)
    (h : ∀ A' c' w', w'.ownsRow base e size (.slice A' (n + m) c') (n + m) (xs ++ news) → w.grownBy w' (ob A) → (ob A' = ob A ∨ ob A' = some w.heap.size) → wpList P ops Q rest (a.put o.dst (.slice A' (n + m) c')) w') :
    wpList P ops Q (o :: rest) a w :=
  wpList_plain hgd fun _ hK => wp_app w s x t ho base e i z size bytes ht hi hz hsize hby hzs hsz A n c xs hs hown A2 m c2 news hx hr hl h1 h63 hbytes hbase fun A' c' w' h2 h3 h4 => hK _ _ (h A' c' w' h2 h3 h4)

theorem rd_new (w : World) (t : TypeId) (cs : Array Value) : Rd (w.alloc (.cells cs t)) (some ⟨w.heap.size, 0, none⟩) cs.toList :=
  .inr ⟨_, 0, rfl, fun j u hu => by rw [(Blk.new w t cs).cell]; simpa using hu⟩
theorem rd_newC (w : World) (t : TypeId) (x y : Int) : Rd (w.alloc (.cells #[.int .i64 x, .int .i64 y] t)) (some ⟨w.heap.size, 0, none⟩) (vC [(x, y)]) := rd_new w t _
theorem rd_newI (w : World) (t : TypeId) (x : Int) : Rd (w.alloc (.cells #[.int .i64 x] t)) (some ⟨w.heap.size, 0, none⟩) (vI [x]) := rd_new w t _
theorem rd_newS (w : World) (t : TypeId) (h : H) : Rd (w.alloc (.cells #[hd h] t)) (some ⟨w.heap.size, 0, none⟩) (vS [h]) := rd_new w t _
theorem own_new (w : World) (t : TypeId) (size n : Nat) (cs : Array Value) (hs : cs.size = n * size) (hm : n ≤ maxLen) {base : Nat} (hb : base ≤ w.heap.size) :
    (w.alloc (.cells cs t)).ownsRow base t size (.slice (some ⟨w.heap.size, 0, none⟩) n n) n cs.toList :=
  ⟨by simpa using hs, .inr ⟨_, n, cs, rfl, hb, heap_alloc_new w _, Nat.le_refl _, hm, hs, by rw [← hs, ← Array.length_toList, List.take_length]⟩⟩
theorem own_newC (w : World) (t : TypeId) (x y : Int) {base : Nat} (hb : base ≤ w.heap.size) :
    (w.alloc (.cells #[.int .i64 x, .int .i64 y] t)).ownsRow base t 2 (.slice (some ⟨w.heap.size, 0, none⟩) 1 1) 1 (vC [(x, y)]) := own_new w t 2 1 _ rfl (by simp [maxLen]) hb
/-- What is owned stays so where its block is as it was. -/
theorem own_keep {w w' : World} {base e size n c : Nat} {A : Option Addr} {xs : List Value} (h : w.ownsRow base e size (.slice A n c) n xs) (hb : Below w.heap.size w w') : w'.ownsRow base e size (.slice A n c) n xs := by
  refine ⟨h.1, ?_⟩
  rcases h.2 with hn | ⟨g, cap, cur, hv, hg, hgg, rest⟩
  · exact .inl hn
  · exact .inr ⟨g, cap, cur, hv, hg, by rw [hb.block g (Array.getElem?_eq_some_iff.1 hgg).1]; exact hgg, rest⟩
theorem own_set {w : World} {base e size n c : Nat} {A : Option Addr} {xs : List Value} (h : w.ownsRow base e size (.slice A n c) n xs) {p : Addr} (hp : ∀ g, ob A = some g → g ≠ p.block) (u : Value) : (w.setCell p u).ownsRow base e size (.slice A n c) n xs := by
  refine ⟨h.1, ?_⟩
  rcases h.2 with hn | ⟨g, cap, cur, hv, hg, hgg, rest⟩
  · exact .inl hn
  · refine .inr ⟨g, cap, cur, hv, hg, ?_, rest⟩
    injection hv with hA
    subst hA
    rw [Below.heap_setCell w p u g (hp g rfl)]; exact hgg
theorem own_base {w : World} {base base' e size n c : Nat} {A : Option Addr} {xs : List Value} (h : w.ownsRow base e size (.slice A n c) n xs) (hb : base' ≤ base) : w.ownsRow base' e size (.slice A n c) n xs := by
  refine ⟨h.1, ?_⟩
  rcases h.2 with hn | ⟨g, cap, cur, hv, hg, hgg, rest⟩
  · exact .inl hn
  · exact .inr ⟨g, cap, cur, hv, Nat.le_trans hb hg, hgg, rest⟩
theorem Rd.grown {w w' : World} {A : Option Addr} {vs : List Value} {row : Option Nat} (h : Rd w A vs) (hg : w.grownBy w' row) (hne : ∀ g, ob A = some g → some g ≠ row) : Rd w' A vs := by
  rcases h with h | ⟨g, off, rfl, h⟩
  · exact .inl h
  · exact .inr ⟨g, off, rfl, fun j u hu => (World.cell?_of_block (w := w) (hg.block g (World.block_lt_of_cell? w _ (h j u hu)) (hne g rfl))).trans (h j u hu)⟩
theorem bel_app {a w w' : World} {A : Option Addr} (h : Below a.heap.size a w) (hg : w.grownBy w' (ob A)) (hr : ∀ g, ob A = some g → a.heap.size ≤ g) : Below a.heap.size a w' := bel_grown h hg hr

/-- A pair laid ahead of a call and written behind it. -/
theorem blk_set2 {w w1 : World} {t : TypeId} {x y u v : Value} (hb : Below (w.alloc (.cells #[x, y] t)).drew.heap.size (w.alloc (.cells #[x, y] t)).drew w1) :
    Blk ((w1.setCell ⟨w.heap.size, 0, none⟩ u).setCell ⟨w.heap.size, 1, none⟩ v) w.heap.size t #[u, v] := by
  have h := (((Blk.new w t #[x, y]).drew.below hb).set_ 0 u).set_ 1 v
  simpa using h

/-- A result that is no memory; nothing that was there has turned. -/
def Ret (w : World) (v : Value) (e : Ending) (w' : World) : Prop := e = .returned v ∧ Below w.heap.size w w'
/-- A result that is a slice of the call's own: its cells are vs. -/
def RetS (w : World) (E sz : Nat) (vs : List Value) (e : Ending) (w' : World) : Prop :=
  ∃ A n c, e = .returned (.slice A n c) ∧ w'.ownsRow w.heap.size E sz (.slice A n c) n vs ∧ Below w.heap.size w w'
/-- The same beside a second result. -/
def RetS2 (w : World) (E sz : Nat) (vs : List Value) (v : Value) (e : Ending) (w' : World) : Prop :=
  ∃ A n c, e = .returned (.tuple #[.slice A n c, v]) ∧ w'.ownsRow w.heap.size E sz (.slice A n c) n vs ∧ Below w.heap.size w w'

theorem ret_bool {a b : Bool} (h : a = b) : Ending.returned (.bool a) = .returned (.bool b) := by rw [h]
theorem ret_int {k : IntKind} {a b : Int} (h : a = b) : Ending.returned (.int k a) = .returned (.int k b) := by rw [h]
theorem ret_str {a b : ByteArray} (h : a = b) : Ending.returned (.string a) = .returned (.string b) := by rw [h]

theorem own_len {w : World} {base e size n : Nat} {v : Value} {xs : List Value} (h : w.ownsRow base e size v n xs) : xs.length = n * size := h.1
theorem own_nil (w : World) (base e size : Nat) : w.ownsRow base e size (.slice none 0 0) 0 [] := World.ownsRow_nil w base e size
end Go.Proofs.YtoedmmhiinhljaaGreatDoor

/- The row's last step, out of 'Below': all that was there reads as it did. -/
namespace Go.Proofs.YtoedmmhiinhljaaGreatDoor
open Go.RowKit Go.WideShapes Go.ChangeShapes
set_option linter.unusedVariables false
theorem own_prog : ownKnob Tryz.prog.godebug = none := by kernel_rfl
section
variable {H : Type} {enc : TypeId × Value → H} {P : Program}
theorem post_of_below {f : Func} {s : ChangeSpec} {apart fresh handsOn again : Bool} {W W' : World} {args : Array Value} {v : Value} {ds gs : List (DataW H)} {before pa pv : List MemPlace}
    (hW : DataW.Whole enc P f.params.toList s.vars apart W args.toList ds gs before)
    (hres : ∀ (b : Nat) (sp : Nat → Bool) (hd : Bool), DataW.TrodAll enc P W' b sp hd f.resultTypes.toList (v.resultList f.resultTypes.size) (s.fn H (ds ++ gs)).results [])
    (hargs : ∀ sp : Nat → Bool, (∀ p ∈ before, sp p.block = true) → DataW.TrodAll enc P W' 0 sp true f.params.toList args.toList (s.fn H (ds ++ gs)).args pa)
    (hvars : ∀ sp : Nat → Bool, (∀ p ∈ before, sp p.block = true) → DataW.TrodVars enc P W' sp s.vars (s.fn H (ds ++ gs)).vars pv)
    (hps : before = pa ++ pv) (hb : Below W.heap.size W W')
    (hok : ∀ (j : Nat) (t : TypeId) (r : Value), f.resultTypes[j]? = some t → (v.resultList f.resultTypes.size)[j]? = some r → Value.okWide P W' .any 0 t r) :
    s.post enc P f apart fresh handsOn again W args v W' := by
  have hlt : ∀ p ∈ before, p.block < W.heap.size := fun p hp => hW.lt p hp
  have hold : ∀ p ∈ before, (fun b => decide (b < W.heap.size)) p.block = true := fun p hp => by simpa using hlt p hp
  refine ⟨ds, gs, before, [], pa, pv, hW, hres _ _ _, hargs _ hold, hvars _ hold, World.keptBut_mono (fun p hp => ⟨hp, ?_⟩) (hb.frame (· ∈ before)), fun _ => ?_⟩
  · rw [hps, List.mem_append] at hp
    exact Or.inr hp
  · obtain ⟨_, _, _, _, _, hz, hn⟩ := hW
    refine ⟨hok, _, _, ([] ++ pa) ++ pv, ⟨[] ++ pa, pv, trodAll_append (hargs _ (fun _ _ => rfl)) (hres _ _ _), hvars _ (fun _ _ => rfl), rfl, ?_, ?_⟩, ?_⟩
    · intro b off hp
      have hin : MemPlace.cell b off ∈ before := by rw [hps]; simpa using hp
      rw [hb.frozen (hlt _ hin)]
      exact hz b off hin
    · intro ha
      have := hn ha
      rw [hps] at this
      simpa using this
    · intro p hp _
      rw [hps]
      simpa using hp

theorem trodAll_stays (hl : laidOutB P = true) {W W' : World} {sp' : Nat → Bool} : ∀ (ts : List TypeId) (vs : List Value) (ds : List (DataW H)) (ps : List MemPlace), (ts.all fun t => P.readableRec t && decide (t < P.types.size)) = true →
    DataW.TrodAll enc P W 0 (fun _ => true) true ts vs ds ps → (∀ p ∈ ps, W.sameAt W' p) → (∀ p ∈ ps, sp' p.block = true) → DataW.TrodAll enc P W' 0 sp' true ts vs ds ps
  | [], vs, ds, ps, _, h, _, _ => by
    obtain ⟨rfl, rfl, rfl⟩ := trodAll_nil h
    rfl
  | t :: ts, vs, ds, ps, ht, h, h1, h2 => by
    obtain ⟨v, vs', d, ds', p, q, rfl, rfl, rfl, ha, hb⟩ := trodAll_cons h
    simp only [List.all_cons, Bool.and_eq_true, decide_eq_true_eq] at ht
    exact ⟨p, q, WideElems.Trod_stays hl ht.1.1 ht.1.2 ha (fun x hx => h1 x (by simp [hx])) (fun x hx => h2 x (by simp [hx])),
      trodAll_stays hl ts vs' ds' q ht.2 hb (fun x hx => h1 x (by simp [hx])) (fun x hx => h2 x (by simp [hx])), rfl⟩

/-- The row's step for a law: it returned true, and nothing that was there has turned. -/
theorem post_law {f : Func} {s : ChangeSpec} {apart fresh handsOn again : Bool} {W W' : World} {args : Array Value} {ds : List (DataW H)} {before : List MemPlace} {tb : TypeId}
    (hl : laidOutB P = true) (hty : (f.params.toList.all fun t => P.readableRec t && decide (t < P.types.size)) = true) (hres : f.resultTypes = #[tb]) (htb : P.underlying tb = some .bool) (hsv : s.vars = [])
    (hW : DataW.Whole enc P f.params.toList s.vars apart W args.toList ds [] before) (hA : DataW.TrodAll enc P W 0 (fun _ => true) true f.params.toList args.toList ds before)
    (hfn : s.fn H (ds ++ []) = { results := [.lit (.bool true)], args := ds }) (hb : Below W.heap.size W W') :
    s.post enc P f apart fresh handsOn again W args (.bool true) W' := by
  have hlt : ∀ p ∈ before, p.block < W.heap.size := fun p hp => hW.lt p hp
  refine post_of_below (pa := before) (pv := []) hW ?_ ?_ ?_ (by simp) hb ?_
  · intro b sp hd
    rw [hfn, hres]
    exact trodAll_cons_mk (shut_bool htb _) trodAll_mk0
  · intro sp hsp
    rw [hfn]
    exact trodAll_stays hl _ _ _ _ hty hA (fun p hp => hb.same (hlt p hp)) hsp
  · intro sp hsp
    rw [hfn, hsv]
    rfl
  · exact ok_one hres rfl (okWide_bool_mk htb _)
end

theorem laid_prog : laidOutB Tryz.prog = true := by kernel_rfl
theorem cellsI : Tryz.prog.cellsOf 3 = 1 := by kernel_rfl

section
variable {H : Type} {enc : TypeId × Value → H}
set_option maxRecDepth 100000 in
/-- An argument that is a slice of integers. -/
theorem openI {W : World} {r : Reach} {b0 : Nat} {t : TypeId} (ht : Tryz.prog.underlying t = some (.slice 3)) {base : Nat} {spare : Nat → Bool} {held : Bool} {v : Value} {d : DataW H} {p : List MemPlace} (hv : Value.okWide Tryz.prog W r b0 t v) (h : DataW.Trod enc Tryz.prog W base spare held t v d p) :
    ∃ A n c xs, v = .slice A n c ∧ Rd W A (vI xs) ∧ xs.length = n ∧ n ≤ maxLen := by
  obtain ⟨a0, len, cap, rfl⟩ := okWide_slice ht hv
  obtain ⟨fuel, hf⟩ := h
  rcases open_ints ht Tryz.underlying3 cellsI hf with ⟨hcs, hx⟩ | ⟨a, len', cap', zs, hcs, _, hl, hm, hz, hx, hcell, hwz⟩
  · simp [Value.cells] at hcs
    obtain ⟨rfl, rfl, rfl⟩ := hcs
    exact ⟨none, 0, 0, [], rfl, .inl rfl, rfl, Nat.zero_le _⟩
  · simp [Value.cells] at hcs
    obtain ⟨rfl, rfl, rfl⟩ := hcs
    have hzl : len ≤ zs.length := by rw [hz]; split <;> omega
    refine ⟨_, _, _, zs.take len, rfl, ?_, by rw [List.length_take]; omega, by omega⟩
    by_cases h0 : 0 < zs.length
    · obtain ⟨b, off, rfl, hc⟩ := ints_at hcell h0
      refine .inr ⟨b, off, rfl, fun j u hu => ?_⟩
      simp only [vI, List.getElem?_map, Option.map_eq_some_iff] at hu
      obtain ⟨x, hx, rfl⟩ := hu
      have hjl : j < len := by
        rcases Nat.lt_or_ge j len with h | h
        · exact h
        · rw [List.getElem?_eq_none (by rw [List.length_take]; omega)] at hx; cases hx
      rw [List.getElem?_take_of_lt hjl] at hx
      rw [hc j (by omega), List.getD_eq_getElem?_getD, hx]
      rfl
    · left
      rw [List.eq_nil_of_length_eq_zero (by omega : zs.length = 0)]
      simp [vI]
end
end Go.Proofs.YtoedmmhiinhljaaGreatDoor

/- Regions, masks and motions of a grid: plain functions. No program is in sight. -/
namespace Go.Proofs.YtoedmmhiinhljaaGreatDoor
open Go.RowKit
set_option linter.unusedVariables false
/-- A region that is right. -/
def isReg (W : Int) (rows : List Int) : Bool :=
  ((decide (1 ≤ W) && decide (W ≤ 6)) && (decide (1 ≤ (rows.length : Int)) && decide ((rows.length : Int) ≤ 6))) && rows.all (fun x => decide (0 ≤ x) && decide (x < 2 ^ W.toNat))
theorem isReg_yes {W : Int} {rows : List Int} (h : isReg W rows = true) :
    ∃ n : Nat, W = (n : Int) ∧ 1 ≤ n ∧ n ≤ 6 ∧ 1 ≤ rows.length ∧ rows.length ≤ 6 ∧ ∀ k (hk : k < rows.length), ∃ q : Nat, rows[k] = (q : Int) ∧ q < 2 ^ n := by
  unfold isReg at h
  simp only [Bool.and_eq_true, decide_eq_true_eq, List.all_eq_true] at h
  obtain ⟨⟨⟨h1, h2⟩, h3, h4⟩, h5⟩ := h
  refine ⟨W.toNat, by omega, by omega, by omega, by omega, by omega, fun k hk => ?_⟩
  obtain ⟨h6, h7⟩ := h5 _ (List.getElem_mem hk)
  obtain ⟨q, hq⟩ := Int.eq_ofNat_of_zero_le h6
  rw [hq] at h7
  exact ⟨q, hq, by exact_mod_cast h7⟩
/-- The mask of the rows below k. -/
def mkTo (n : Nat) (rows : List Int) : Nat → Nat
  | 0 => 0
  | k + 1 => mkTo n rows k + (rows.getD k 0).toNat * 2 ^ (k * n)
theorem mkTo_lt {n : Nat} {rows : List Int} (h : ∀ k (hk : k < rows.length), ∃ q : Nat, rows[k] = (q : Int) ∧ q < 2 ^ n) : ∀ k, k ≤ rows.length → mkTo n rows k < 2 ^ (k * n)
  | 0, _ => by simp [mkTo]
  | k + 1, hk => by
    have h1 := mkTo_lt h k (by omega)
    obtain ⟨q, hq, hlt⟩ := h k (by omega)
    have e : (rows.getD k 0).toNat = q := by rw [List.getD_eq_getElem?_getD, List.getElem?_eq_getElem (by omega), Option.getD_some, hq]; rfl
    show mkTo n rows k + _ < _
    rw [e, Nat.succ_mul, Nat.pow_add]
    have : q + 1 ≤ 2 ^ n := hlt
    calc mkTo n rows k + q * 2 ^ (k * n) < 2 ^ (k * n) + q * 2 ^ (k * n) := by omega
      _ = (q + 1) * 2 ^ (k * n) := by rw [Nat.succ_mul]; omega
      _ ≤ 2 ^ n * 2 ^ (k * n) := Nat.mul_le_mul_right _ this
      _ = 2 ^ (k * n) * 2 ^ n := Nat.mul_comm _ _
/-- A bit that is not there is added. -/
theorem or_bit {a d : Nat} (ha : a < 2 ^ 62) (hd : d < 62) (h : a.testBit d = false) : a ||| 2 ^ d = a + 2 ^ d := by
  have hp : 2 ^ d < 2 ^ 62 := Nat.pow_lt_pow_right (by decide) hd
  have h0 : BitVec.ofNat 64 a &&& BitVec.ofNat 64 (2 ^ d) = 0#64 := by
    apply BitVec.eq_of_toNat_eq
    rw [BitVec.toNat_and, BitVec.toNat_ofNat, BitVec.toNat_ofNat, Nat.mod_eq_of_lt (by omega), Nat.mod_eq_of_lt (by omega)]
    apply Nat.eq_of_testBit_eq
    intro i
    rw [Nat.testBit_and, Nat.testBit_two_pow]
    by_cases e : d = i
    · subst e; simp [h]
    · simp [e]
  have h1 := congrArg BitVec.toNat (BitVec.add_eq_or_of_and_eq_zero _ _ h0)
  rw [BitVec.toNat_add, BitVec.toNat_or, BitVec.toNat_ofNat, BitVec.toNat_ofNat, Nat.mod_eq_of_lt (by omega : a < 2 ^ 64), Nat.mod_eq_of_lt (by omega : 2 ^ d < 2 ^ 64), Nat.mod_eq_of_lt (by omega)] at h1
  exact h1.symm
theorem wraps_i64 (n : Int) (h₀ : 0 ≤ n) (h₁ : n < 2 ^ 63) : IntKind.i64.wrap n = n := by rw [IntKind.wrap_i64]; omega
theorem i64_or (a b : Nat) (ha : a < 2 ^ 63) (hb : b < 2 ^ 63) : bits .or .i64 (a : Int) (b : Int) = ((a ||| b : Nat) : Int) := (bits_nat .i64 63 (by decide) wraps_i64 a b ha hb).2
theorem i64_and (a b : Nat) (ha : a < 2 ^ 63) (hb : b < 2 ^ 63) : bits .and .i64 (a : Int) (b : Int) = ((a &&& b : Nat) : Int) := (bits_nat .i64 63 (by decide) wraps_i64 a b ha hb).1
theorem or_high {a b i : Nat} (ha : a < 2 ^ i) : a ||| b * 2 ^ i = a + b * 2 ^ i := by
  rw [Nat.or_comm, Nat.mul_comm, Nat.add_comm]
  exact (Nat.two_pow_add_eq_or_of_lt ha b).symm
theorem bit_and (m k : Nat) : m / 2 ^ k % 2 = (m.testBit k).toNat := by
  rw [Nat.testBit_eq_decide_div_mod_eq]
  rcases Nat.mod_two_eq_zero_or_one (m / 2 ^ k) with h | h <;> simp [h]
/-- A quarter turn: width, height, place. -/
abbrev Q4 := Int × Int × Int × Int
def quarter (q : Q4) : Q4 := (q.2.1, q.1, q.2.1 - 1 - q.2.2.2, q.2.2.1)
def rot : Nat → Q4 → Q4
  | 0, q => q
  | k + 1, q => quarter (rot k q)
def okQ (q : Q4) : Prop := 1 ≤ q.1 ∧ q.1 ≤ 6 ∧ 1 ≤ q.2.1 ∧ q.2.1 ≤ 6 ∧ 0 ≤ q.2.2.1 ∧ q.2.2.1 < q.1 ∧ 0 ≤ q.2.2.2 ∧ q.2.2.2 < q.2.1
theorem okQ_quarter {q : Q4} (h : okQ q) : okQ (quarter q) := by
  unfold okQ quarter at *
  simp only
  omega
theorem okQ_rot {q : Q4} (h : okQ q) : ∀ k, okQ (rot k q)
  | 0 => h
  | k + 1 => okQ_quarter (okQ_rot h k)
/-- Where a motion carries a place. -/
def startQ (w h x y : Int) (m : Nat) : Q4 := (w, h, if 4 ≤ m then w - 1 - x else x, y)
def carry (w h x y : Int) (m : Nat) : Q4 := rot (m % 4) (startQ w h x y m)
theorem okQ_start {w h x y : Int} (m : Nat) (hq : okQ (w, h, x, y)) : okQ (startQ w h x y m) := by
  unfold okQ startQ at *
  simp only at hq ⊢
  split <;> omega
/-- The number of the place where a motion carries place i of a grid. -/
def pos (n h m i : Nat) : Nat := ((carry n h ((i % n : Nat) : Int) ((i / n : Nat) : Int) m).2.2.2 * n + (carry n h ((i % n : Nat) : Int) ((i / n : Nat) : Int) m).2.2.1).toNat
def goesM (n h m : Nat) : Bool := m % 2 == 0 || n == h
def posOk (n h m : Nat) : Bool := !goesM n h m || ((List.range (n * h)).map (pos n h m)).Nodup && (List.range (n * h)).all fun i => decide (pos n h m i < n * h)
theorem posOk_all : ((List.range 7).all fun n => (List.range 7).all fun h => (List.range 8).all fun m => n == 0 || h == 0 || posOk n h m) = true := by decide +kernel
theorem pos_ok {n h m : Nat} (hn : 1 ≤ n ∧ n ≤ 6) (hh : 1 ≤ h ∧ h ≤ 6) (hm : m < 8) (hg : goesM n h m = true) :
    (∀ i, i < n * h → pos n h m i < n * h) ∧ ∀ i j, i < n * h → j < n * h → pos n h m i = pos n h m j → i = j := by
  have h0 := posOk_all
  simp only [List.all_eq_true, List.mem_range, Bool.or_eq_true, beq_iff_eq] at h0
  have h1 := h0 n (by omega) h (by omega) m hm
  have h2 : posOk n h m = true := by
    rcases h1 with (h1 | h1) | h1
    · omega
    · omega
    · exact h1
  unfold posOk at h2
  rw [hg] at h2
  simp only [Bool.not_true, Bool.false_or, Bool.and_eq_true, decide_eq_true_eq, List.all_eq_true, List.mem_range] at h2
  refine ⟨h2.2, fun i j hi hj e => ?_⟩
  have hp := List.pairwise_iff_getElem.1 h2.1
  rcases Nat.lt_trichotomy i j with hij | hij | hij
  · exact absurd e (by have := hp i j (by simpa using hi) (by simpa using hj) hij; simpa using this)
  · exact hij
  · exact absurd e.symm (by have := hp j i (by simpa using hj) (by simpa using hi) hij; simpa using this)
/-- The mask that a motion makes of the places below k. -/
def turnTo (n h m mask : Nat) : Nat → Nat
  | 0 => 0
  | k + 1 => turnTo n h m mask k + (if mask.testBit k then 2 ^ pos n h m k else 0)
theorem turn_bits {n h m mask : Nat} (hp : ∀ i j, i < n * h → j < n * h → pos n h m i = pos n h m j → i = j) (hl : ∀ i, i < n * h → pos n h m i < n * h) (h36 : n * h ≤ 36) :
    ∀ k, k ≤ n * h → turnTo n h m mask k < 2 ^ (n * h) ∧ ∀ j, (turnTo n h m mask k).testBit j = true → ∃ i, i < k ∧ mask.testBit i = true ∧ pos n h m i = j
  | 0, _ => ⟨by simp [turnTo]; exact Nat.pow_pos (by decide), fun j hj => by simp [turnTo] at hj⟩
  | k + 1, hk => by
    obtain ⟨h1, h2⟩ := turn_bits hp hl h36 k (by omega)
    have h62 : (2 : Nat) ^ (n * h) ≤ 2 ^ 36 := Nat.pow_le_pow_right (by decide) h36
    by_cases hb : mask.testBit k = true
    · have hk2 := hl k (by omega)
      have hnb : (turnTo n h m mask k).testBit (pos n h m k) = false := by
        cases e : (turnTo n h m mask k).testBit (pos n h m k) with
        | false => rfl
        | true =>
          obtain ⟨i, hi, _, hpi⟩ := h2 _ e
          have := hp i k (by omega) (by omega) hpi
          omega
      have e : turnTo n h m mask (k + 1) = turnTo n h m mask k ||| 2 ^ pos n h m k := by
        show turnTo n h m mask k + _ = _
        rw [if_pos hb, or_bit (by omega) (by omega) hnb]
      rw [e]
      refine ⟨Nat.or_lt_two_pow h1 (Nat.pow_lt_pow_right (by decide) hk2), fun j hj => ?_⟩
      rw [Nat.testBit_or, Bool.or_eq_true, Nat.testBit_two_pow] at hj
      rcases hj with hj | hj
      · obtain ⟨i, hi, h3⟩ := h2 j hj
        exact ⟨i, by omega, h3⟩
      · exact ⟨k, by omega, hb, by simpa using hj⟩
    · have e : turnTo n h m mask (k + 1) = turnTo n h m mask k := by
        show turnTo n h m mask k + _ = _
        rw [if_neg hb, Nat.add_zero]
      rw [e]
      refine ⟨h1, fun j hj => ?_⟩
      obtain ⟨i, hi, h3⟩ := h2 j hj
      exact ⟨i, by omega, h3⟩
theorem turn_or {n h m mask : Nat} (hp : ∀ i j, i < n * h → j < n * h → pos n h m i = pos n h m j → i = j) (hl : ∀ i, i < n * h → pos n h m i < n * h) (h36 : n * h ≤ 36) {k : Nat} (hk : k < n * h) (hb : mask.testBit k = true) :
    turnTo n h m mask (k + 1) = turnTo n h m mask k ||| 2 ^ pos n h m k := by
  obtain ⟨h1, h2⟩ := turn_bits hp hl h36 k (mask := mask) (by omega)
  have h62 : (2 : Nat) ^ (n * h) ≤ 2 ^ 36 := Nat.pow_le_pow_right (by decide) h36
  have hk2 := hl k hk
  have hnb : (turnTo n h m mask k).testBit (pos n h m k) = false := by
    cases e : (turnTo n h m mask k).testBit (pos n h m k) with
    | false => rfl
    | true =>
      obtain ⟨i, hi, _, hpi⟩ := h2 _ e
      have := hp i k (by omega) (by omega) hpi
      omega
  show turnTo n h m mask k + _ = _
  rw [if_pos hb, or_bit (by omega) (by omega) hnb]
end Go.Proofs.YtoedmmhiinhljaaGreatDoor

/- append at this translation's element types: cells, integers. -/
namespace Go.Proofs.YtoedmmhiinhljaaGreatDoor
open Go.RowKit
set_option linter.unusedVariables false

theorem infoC : (Tryz.prog.info? 66).map (fun i => (i.zero, i.size, i.bytes)) = some (some (.agg #[.int .i64 0, .int .i64 0]), 2, 16) := by kernel_rfl
theorem infoI : (Tryz.prog.info? 3).map (fun i => (i.zero, i.size, i.bytes)) = some (some (.int .i64 0), 1, 8) := by kernel_rfl

/-- Two cells are equal where both numbers are. -/
theorem eq_cell (w : World) (a b c d : Int) : (binOp .eql 66 (.agg #[.int .i64 a, .int .i64 b]) (.agg #[.int .i64 c, .int .i64 d])).run Tryz.prog w = .ok (.bool (a == c && b == d)) w := by
  simp [go_sem]
  by_cases h1 : a = c <;> by_cases h2 : b = d <;> simp [h1, h2]
theorem neq_cell (w : World) (a b c d : Int) : (binOp .neq 66 (.agg #[.int .i64 a, .int .i64 b]) (.agg #[.int .i64 c, .int .i64 d])).run Tryz.prog w = .ok (.bool (!(a == c && b == d))) w := by
  simp [go_sem]
  by_cases h1 : a = c <;> by_cases h2 : b = d <;> simp [h1, h2]
attribute [go_sem ↓ 2000] eq_cell neq_cell

section
variable (w : World) {ops : Array Oper} {rest : List Oper} {o : Oper} {a : Act} {Q : Exit → Act → World → Prop}
theorem app_C (hgd : o.guard = none) (s x : Operand) (ho : o.op = .call { callee := .builtin .append, args := #[s, x], argTypes := #[51, 51] })
    (base : Nat) (A : Option Addr) (n c : Nat) (l : List C) (hs : a.eval s = .slice A n c) (hown : w.ownsRow base 66 2 (.slice A n c) n (vC l))
    (A2 : Option Addr) (m c2 : Nat) (l2 : List C) (hx : a.eval x = .slice A2 m c2) (hr : Rd w A2 (vC l2)) (hl : l2.length = m) (hb : n + m ≤ 1099511627776) (hbase : base ≤ w.heap.size)
    (h : ∀ A' c' w', w'.ownsRow base 66 2 (.slice A' (n + m) c') (n + m) (vC (l ++ l2)) → w.grownBy w' (ob A) → (ob A' = ob A ∨ ob A' = some w.heap.size) → wpList Tryz.prog ops Q rest (a.put o.dst (.slice A' (n + m) c')) w') :
    wpList Tryz.prog ops Q (o :: rest) a w := by
  obtain ⟨i0, hi, hz0, hz1, hz2⟩ := info_parts infoC
  refine wpList_app w hgd s x _ ho base _ i0 _ 2 16 Tryz.underlying51 hi hz0 hz1 hz2 rfl (by omega) A n c _ hs hown A2 m c2 _ hx hr (by rw [vC_length, hl]) (vC_one _) (by unfold maxLen; omega) (by omega) hbase ?_
  intro A' c' w' h1
  rw [← vC_append] at h1
  exact h A' c' w' h1
theorem app_I (hgd : o.guard = none) (s x : Operand) (ho : o.op = .call { callee := .builtin .append, args := #[s, x], argTypes := #[22, 22] })
    (base : Nat) (A : Option Addr) (n c : Nat) (l : List Int) (hs : a.eval s = .slice A n c) (hown : w.ownsRow base 3 1 (.slice A n c) n (vI l))
    (A2 : Option Addr) (m c2 : Nat) (l2 : List Int) (hx : a.eval x = .slice A2 m c2) (hr : Rd w A2 (vI l2)) (hl : l2.length = m) (hb : n + m ≤ 1099511627776) (hbase : base ≤ w.heap.size)
    (h : ∀ A' c' w', w'.ownsRow base 3 1 (.slice A' (n + m) c') (n + m) (vI (l ++ l2)) → w.grownBy w' (ob A) → (ob A' = ob A ∨ ob A' = some w.heap.size) → wpList Tryz.prog ops Q rest (a.put o.dst (.slice A' (n + m) c')) w') :
    wpList Tryz.prog ops Q (o :: rest) a w := by
  obtain ⟨i0, hi, hz0, hz1, hz2⟩ := info_parts infoI
  refine wpList_app w hgd s x _ ho base _ i0 _ 1 8 Tryz.underlying22 hi hz0 hz1 hz2 rfl (by omega) A n c _ hs hown A2 m c2 _ hx hr (by rw [vI_length, hl]; omega) (vI_one _) (by unfold maxLen; omega) (by omega) hbase ?_
  intro A' c' w' h1
  rw [← vI_append] at h1
  exact h A' c' w' h1
end
end Go.Proofs.YtoedmmhiinhljaaGreatDoor

/- Blocks of integers and of cells: made, written element by element, owned. -/
namespace Go.Proofs.YtoedmmhiinhljaaGreatDoor
open Go.RowKit
set_option linter.unusedVariables false

theorem vI_set (xs : List Int) (k : Nat) (v : Int) : (vI xs).toArray.setIfInBounds k (.int .i64 v) = (vI (xs.set k v)).toArray := by
  simp [vI, List.map_set]
theorem vS_set (xs : List H) (k : Nat) (v : H) : (vS xs).toArray.setIfInBounds k (hd v) = (vS (xs.set k v)).toArray := by
  simp [vS, List.map_set]
theorem vC_set_list (xs : List C) (k : Nat) (v : C) : ((vC xs).set (k * 2) (.int .i64 v.1)).set (k * 2 + 1) (.int .i64 v.2) = vC (xs.set k v) := by
  induction xs generalizing k with
  | nil => simp [vC]
  | cons p t ih =>
    cases k with
    | zero => simp [vC]
    | succ k =>
      rw [show (k + 1) * 2 = k * 2 + 1 + 1 from by omega]
      simp [vC, ih k]
theorem vC_set (xs : List C) (k : Nat) (v : C) : ((vC xs).toArray.setIfInBounds (k * 2) (.int .i64 v.1)).setIfInBounds (k * 2 + 1) (.int .i64 v.2) = (vC (xs.set k v)).toArray := by
  rw [← vC_set_list]; simp

section
variable {w w' : World} {g : Nat} {t : TypeId}
theorem blkI_cell {ys : List Int} (h : Blk w g t (vI ys).toArray) {k : Nat} (hk : k < ys.length) : w.cell? ⟨g, k, none⟩ = some (.int .i64 ys[k]) := by
  rw [h.cell k]; simp [vI, hk]
theorem blkC_cell {ys : List C} (h : Blk w g t (vC ys).toArray) {k : Nat} (hk : k < ys.length) : w.cell? ⟨g, k * 2, none⟩ = some (.int .i64 ys[k].1) ∧ w.cell? ⟨g, k * 2 + 1, none⟩ = some (.int .i64 ys[k].2) := by
  rw [h.cell, h.cell]
  exact ⟨by simpa using vC_get1 ys k hk, by simpa using vC_get2 ys k hk⟩
theorem blkS_cell {ys : List H} (h : Blk w g t (vS ys).toArray) {k : Nat} (hk : k < ys.length) : w.cell? ⟨g, k, none⟩ = some (.slice ys[k].1 ys[k].2.1 ys[k].2.2) := by
  rw [h.cell k]; simp [vS, hd, hk]
theorem blkI_set {ys : List Int} (h : Blk w g t (vI ys).toArray) (k : Nat) (v : Int) : Blk (w.setCell ⟨g, k, none⟩ (.int .i64 v)) g t (vI (ys.set k v)).toArray := by
  rw [← vI_set]; exact h.set_ k _
theorem blkS_set {ys : List H} (h : Blk w g t (vS ys).toArray) (k : Nat) (a : Option Addr) (n c : Nat) : Blk (w.setCell ⟨g, k, none⟩ (.slice a n c)) g t (vS (ys.set k (a, n, c))).toArray := by
  rw [← vS_set]; exact h.set_ k _
theorem blkC_set {ys : List C} (h : Blk w g t (vC ys).toArray) (k : Nat) (a b : Int) : Blk ((w.setCell ⟨g, k * 2, none⟩ (.int .i64 a)).setCell ⟨g, k * 2 + 1, none⟩ (.int .i64 b)) g t (vC (ys.set k (a, b))).toArray := by
  rw [← vC_set]; exact (h.set_ (k * 2) _).set_ (k * 2 + 1) _
theorem own_blk {cs : Array Value} (h : Blk w g t cs) {base size n : Nat} (hs : cs.size = n * size) (hb : base ≤ g) (hm : n ≤ maxLen) : w.ownsRow base t size (.slice (some ⟨g, 0, none⟩) n n) n cs.toList :=
  ⟨by simpa using hs, .inr ⟨g, n, cs, rfl, hb, h, Nat.le_refl _, hm, hs, by rw [← hs, ← Array.length_toList, List.take_length]⟩⟩
theorem own_at {base size n c : Nat} {A : Option Addr} {xs : List Value} (h : w.ownsRow base t size (.slice A n c) n xs) (hn : 0 < n) : ∃ g, A = some ⟨g, 0, none⟩ ∧ base ≤ g ∧ g < w.heap.size := by
  rcases h.2 with ⟨_, rfl⟩ | ⟨g, cap, cur, hv, hb, hg, _⟩
  · omega
  · injection hv with hA
    exact ⟨g, hA, hb, (Array.getElem?_eq_some_iff.1 hg).1⟩
theorem grown_set {a w : World} {row : Option Nat} (h : a.grownBy w row) {p : Addr} (hp : row = some p.block) (u : Value) : a.grownBy (w.setCell p u) row :=
  ⟨h.os, h.tape, h.output, by simpa [World.setCell] using h.size, fun k hk hne => by
    rw [Below.heap_setCell w p u k (by rintro rfl; exact hne hp.symm)]; exact h.block k hk hne⟩
theorem grown_drewN {a w : World} {row : Option Nat} (h : a.grownBy w row) (n : Nat) : a.grownBy (w.drewN n) row := ⟨h.os, h.tape, h.output, h.size, h.block⟩
theorem grown_below {a w w' : World} {row : Option Nat} (h : a.grownBy w row) (hb : Below w.heap.size w w') : a.grownBy w' row :=
  ⟨hb.os.trans h.os, hb.tape.trans h.tape, hb.output.trans h.output, Nat.le_trans h.size hb.size, fun k hk hne => (hb.block k (Nat.lt_of_lt_of_le hk h.size)).trans (h.block k hk hne)⟩
end

/-- Zeros. -/
def zeI (n : Nat) : List Int := List.replicate n 0
def zeC (n : Nat) : List C := List.replicate n (0, 0)
def zeS (n : Nat) : List H := List.replicate n (none, 0, 0)
theorem zeI_length (n : Nat) : (zeI n).length = n := by simp [zeI]
theorem zeC_length (n : Nat) : (zeC n).length = n := by simp [zeC]
theorem zeS_length (n : Nat) : (zeS n).length = n := by simp [zeS]
theorem vC_zeros (n : Nat) : (madeCells #[.int .i64 0, .int .i64 0] (n * 2)).toList = vC (zeC n) := by
  have h : ∀ m, m ≤ n → ((List.range (m * 2)).map fun i => (#[Value.int .i64 0, .int .i64 0] : Array Value)[i % 2]!) = vC (zeC m) := by
    intro m
    induction m with
    | zero => intro _; rfl
    | succ m ih =>
      intro hm
      rw [show (m + 1) * 2 = m * 2 + 1 + 1 from by omega, List.range_succ, List.range_succ]
      simp only [List.map_append, ih (by omega), List.map_cons, List.map_nil, List.append_assoc, List.cons_append, List.nil_append]
      have e : zeC (m + 1) = zeC m ++ [(0, 0)] := by simp [zeC, List.replicate_succ']
      rw [e, vC_append]
      congr 1
      rw [show m * 2 % 2 = 0 from by omega, show (m * 2 + 1) % 2 = 1 from by omega]
      rfl
  simpa [madeCells] using h n (Nat.le_refl _)
theorem mk_I (w : World) (n : Nat) (hn : n ≤ 1048576) : (Instr.makeSlice 22 (.int .i64 (n : Int)) (.int .i64 (n : Int))).run Tryz.prog w = .ok (.slice (some ⟨w.heap.size, 0, none⟩) n n) (w.alloc (.cells (vI (zeI n)).toArray 3)) := by
  obtain ⟨i0, hi, hz0, hz1, hz2⟩ := info_parts infoI
  have h := run_make (P := Tryz.prog) w 22 3 i0 _ Tryz.underlying22 hi hz0 .i64 .i64 (n : Int) (n : Int) (by omega) (Int.le_refl _) (by rw [hz2]; omega) (by omega)
  rw [h, hz1]
  have e : madeCells (Value.int .i64 0).cells ((n : Int).toNat * 1) = (vI (zeI n)).toArray := by
    apply Array.ext'
    rw [show (Value.int .i64 0).cells = #[.int .i64 0] from rfl, toList_madeCells_one]
    simp [vI, zeI]
  rw [e]
  simp
theorem mk_C (w : World) (n : Nat) (hn : n ≤ 1048576) : (Instr.makeSlice 51 (.int .i64 (n : Int)) (.int .i64 (n : Int))).run Tryz.prog w = .ok (.slice (some ⟨w.heap.size, 0, none⟩) n n) (w.alloc (.cells (vC (zeC n)).toArray 66)) := by
  obtain ⟨i0, hi, hz0, hz1, hz2⟩ := info_parts infoC
  have h := run_make (P := Tryz.prog) w 51 66 i0 _ Tryz.underlying51 hi hz0 .i64 .i64 (n : Int) (n : Int) (by omega) (Int.le_refl _) (by rw [hz2]; omega) (by omega)
  rw [h, hz1]
  have e : madeCells (Value.agg #[.int .i64 0, .int .i64 0]).cells ((n : Int).toNat * 2) = (vC (zeC n)).toArray := by
    apply Array.ext'
    rw [show (Value.agg #[.int .i64 0, .int .i64 0]).cells = #[.int .i64 0, .int .i64 0] from rfl, ← vC_zeros]
    simp
  rw [e]
  simp
/-- What has been copied so far, and zeros behind it. -/
theorem fill_step {α : Type} (xs : List α) (z : α) (k : Nat) (hk : k < xs.length) : (xs.take k ++ List.replicate (xs.length - k) z).set k xs[k] = xs.take (k + 1) ++ List.replicate (xs.length - (k + 1)) z := by
  rw [List.set_append_right _ _ (by rw [List.length_take]; omega), List.length_take, Nat.min_eq_left (by omega), Nat.sub_self,
    show xs.length - k = (xs.length - (k + 1)) + 1 from by omega, List.replicate_succ, List.set_cons_zero, List.take_succ_eq_append_getElem hk, List.append_assoc]
  rfl
theorem fill_len {α : Type} (xs : List α) (z : α) (k : Nat) (hk : k ≤ xs.length) : (xs.take k ++ List.replicate (xs.length - k) z).length = xs.length := by simp; omega
theorem fill_end {α : Type} (xs : List α) (z : α) : (xs.take xs.length ++ List.replicate (xs.length - xs.length) z) = xs := by simp

/-- k, k + 1, .. -/
def io (k : Int) (n : Nat) : List Int := (List.range n).map fun (i : Nat) => k + (i : Int)
theorem io_length (k : Int) (n : Nat) : (io k n).length = n := by simp [io]
theorem io_succ (k : Int) (n : Nat) : io k (n + 1) = io k n ++ [k + n] := by simp [io, List.range_succ]
theorem io_get (k : Int) (n i : Nat) (h : i < (io k n).length) : (io k n)[i] = k + i := by simp [io]
theorem mark_step (k : Int) (xs : List Int) (j : Nat) (hj : j < xs.length) : (io k j ++ xs.drop j).set j (k + j) = io k (j + 1) ++ xs.drop (j + 1) := by
  rw [List.set_append_right _ _ (by rw [io_length]; omega), io_length, Nat.sub_self, io_succ, List.append_assoc, List.drop_eq_getElem_cons hj]
  rfl
end Go.Proofs.YtoedmmhiinhljaaGreatDoor

/- Whether a number lies between two others: the program's and the reference's function. -/
namespace Go.Proofs.YtoedmmhiinhljaaGreatDoor
open Go.RowKit
set_option linter.unusedVariables false
theorem between_t (n lo hi : Int) (w : World) (h1 : lo ≤ n) (h2 : n ≤ hi) : Calls Tryz.prog 62 #[.int .i64 n, .int .i64 lo, .int .i64 hi] w (Ret w (.bool true)) := by
  go_enter Tryz.func62, Tryz.ntmps62
  go_wp2
  go_ret
  exact ⟨rfl, Below.refl _ _⟩
theorem between_f (n lo hi : Int) (w : World) (h : ¬ (lo ≤ n ∧ n ≤ hi)) : Calls Tryz.prog 62 #[.int .i64 n, .int .i64 lo, .int .i64 hi] w (Ret w (.bool false)) := by
  by_cases h1 : lo ≤ n
  · have h2 : hi < n := by omega
    have h3 : decide (n ≤ hi) = false := by simp; omega
    clear h
    go_enter Tryz.func62, Tryz.ntmps62
    go_wp2
    go_ret
    exact ⟨rfl, Below.refl _ _⟩
  · have h2 : n < lo := by omega
    clear h h1
    go_enter Tryz.func62, Tryz.ntmps62
    go_wp2
    go_ret
    exact ⟨rfl, Below.refl _ _⟩
theorem between_b (n lo hi : Int) (b : Bool) (w : World) (h : b = (decide (lo ≤ n) && decide (n ≤ hi))) : Calls Tryz.prog 62 #[.int .i64 n, .int .i64 lo, .int .i64 hi] w (Ret w (.bool b)) := by
  subst h
  by_cases h1 : lo ≤ n ∧ n ≤ hi
  · rw [decide_eq_true h1.1, decide_eq_true h1.2]; exact between_t n lo hi w h1.1 h1.2
  · have e : (decide (lo ≤ n) && decide (n ≤ hi)) = false := by simp; omega
    rw [e]; exact between_f n lo hi w h1
theorem l1In_t (n lo hi : Int) (w : World) (h1 : lo ≤ n) (h2 : n ≤ hi) : Calls Tryz.prog 35 #[.int .i64 n, .int .i64 lo, .int .i64 hi] w (Ret w (.bool true)) := by
  go_enter Tryz.func35, Tryz.ntmps35
  go_wp2
  go_ret
  exact ⟨rfl, Below.refl _ _⟩
theorem l1In_f (n lo hi : Int) (w : World) (h : ¬ (lo ≤ n ∧ n ≤ hi)) : Calls Tryz.prog 35 #[.int .i64 n, .int .i64 lo, .int .i64 hi] w (Ret w (.bool false)) := by
  by_cases h1 : lo ≤ n
  · have h2 : hi < n := by omega
    have h3 : decide (n ≤ hi) = false := by simp; omega
    clear h
    go_enter Tryz.func35, Tryz.ntmps35
    go_wp2
    go_ret
    exact ⟨rfl, Below.refl _ _⟩
  · have h2 : n < lo := by omega
    clear h h1
    go_enter Tryz.func35, Tryz.ntmps35
    go_wp2
    go_ret
    exact ⟨rfl, Below.refl _ _⟩
theorem l1In_b (n lo hi : Int) (b : Bool) (w : World) (h : b = (decide (lo ≤ n) && decide (n ≤ hi))) : Calls Tryz.prog 35 #[.int .i64 n, .int .i64 lo, .int .i64 hi] w (Ret w (.bool b)) := by
  subst h
  by_cases h1 : lo ≤ n ∧ n ≤ hi
  · rw [decide_eq_true h1.1, decide_eq_true h1.2]; exact l1In_t n lo hi w h1.1 h1.2
  · have e : (decide (lo ≤ n) && decide (n ≤ hi)) = false := by simp; omega
    rw [e]; exact l1In_f n lo hi w h1
end Go.Proofs.YtoedmmhiinhljaaGreatDoor

/- A region that draws its order, whose operations read and whose callees may make memory of their own: one walk of the lexical order, in every world that is as the first one below its heap's end. -/
namespace Go.Proofs.YtoedmmhiinhljaaGreatDoor
open Go.RowKit
section
variable {P : Program} {C : World → Prop} {K : Act → Prop} {a : Act} {o : Oper}
theorem wp_region_below {id : Nat} {Q : Exit → Act → World → Prop} {w : World} {l : List Oper} (hm : P.follows .mixedOrders = true) (hB : Region.lexB .any l.toArray = true)
    (h : wpQuiet P l.toArray (fun w' => Below w.heap.size w w') (fun a' => ∀ w', Below w.heap.size w w' → Q .normal a' w') l a) : (Code.region id l.toArray true).wp P Q a w :=
  wp_region_quiet (C := fun w' => Below w.heap.size w w') hm hB ⟨rfl, rfl, rfl, Nat.le_refl _, fun _ _ => rfl⟩ (by simpa using h)
theorem quietV {ops : Array Oper} {Q : Act → Prop} {rest : List Oper} {ts : Array Value} {ds : List Deferred} {v : Value} {d : Nat} (hw : Region.wanted o (yielded ops ts) = true) (hd : o.dst = some d) (h1 : ∀ w', C w' → o.quietAt P { tmps := ts, defers := ds } C w' v)
    (h2 : wpQuiet P ops C Q rest { tmps := ts.setIfInBounds d v, defers := ds }) : wpQuiet P ops C Q (o :: rest) { tmps := ts, defers := ds } :=
  wpQuiet_step fun K hK => by rw [if_pos hw]; exact ⟨v, h1, by rw [hd]; exact hK _ h2⟩
theorem quietB {v : Value} (h1 : ∀ w', C w' → o.quietAt P a C w' v) (h2 : K (a.put o.dst v)) : o.quiet P a C K := ⟨v, h1, h2⟩
theorem callsB {f : FuncId} {args : Array Value} {w w' : World} {v : Value} (h : Calls P f args w' (Ret w' v)) (hb : Below w.heap.size w w') :
    Calls P f args w' (fun e w'' => e = .returned v ∧ Below w.heap.size w w'') := h.mono fun _ _ ⟨he, h2⟩ => ⟨he, bel_trans hb h2⟩
theorem callsBB {f : FuncId} {args : Array Value} {w w' : World} {b b' : Bool} (h : Calls P f args w' (Ret w' (.bool b))) (e : b = b') (hb : Below w.heap.size w w') :
    Calls P f args w' (fun e w'' => e = .returned (.bool b') ∧ Below w.heap.size w w'') := by subst e; exact callsB h hb
theorem callsBI {f : FuncId} {args : Array Value} {w w' : World} {b b' : Int} (h : Calls P f args w' (Ret w' (.int .i64 b))) (e : b = b') (hb : Below w.heap.size w w') :
    Calls P f args w' (fun e w'' => e = .returned (.int .i64 b') ∧ Below w.heap.size w w'') := by subst e; exact callsB h hb
end
end Go.Proofs.YtoedmmhiinhljaaGreatDoor

/- Whether a region is right: both sides. -/
namespace Go.Proofs.YtoedmmhiinhljaaGreatDoor
open Go.RowKit
set_option linter.unusedVariables false
attribute [local go_sem ↓] Go.wp_at_zero Go.wp_at_succ
def vR (W : Int) (A : Option Addr) (n c : Nat) : Value := .agg #[.int .i64 W, .slice A n c]
def sideB (x : Int) : Bool := decide (1 ≤ x) && decide (x ≤ 6)
def okRow (W x : Int) : Bool := decide (0 ≤ x) && decide (x < 2 ^ W.toNat)
theorem isReg_eq (W : Int) (rows : List Int) : isReg W rows = ((sideB W && sideB (rows.length : Int)) && rows.all (okRow W)) := rfl
theorem all_dropI {P : Int → Bool} {F : List Int} {k : Nat} (h : k < F.length) : (F.drop k).all P = (P F[k] && (F.drop (k + 1)).all P) := by
  rw [List.drop_eq_getElem_cons h]
  rfl
theorem isSide_i (x : Int) (w : World) : Calls Tryz.prog 60 #[.int .i64 x] w (Ret w (.bool (sideB x))) := by
  go_enter Tryz.func60, Tryz.ntmps60
  go_wp2_with fail
  refine (between_b _ _ _ _ _ (rfl : sideB x = _)).mono ?_
  rintro e w1 ⟨rfl, hb⟩
  go_wp2_with fail
  go_ret
  exact ⟨rfl, hb⟩
set_option maxHeartbeats 800000 in
theorem IsRegion_i (W : Int) (A : Option Addr) (n c : Nat) (rows : List Int) (w : World) (hr : Rd w A (vI rows)) (hl : rows.length = n) :
    Calls Tryz.prog 44 #[.agg #[.int .i64 W, .slice A n c]] w (Ret w (.bool (isReg W rows))) := by
  have HL := Lib.hid hl
  have hE := isReg_eq W rows
  rw [hl] at hE
  cases h1 : sideB W with
  | false =>
    rw [h1] at hE
    have HV : Hid (isReg W rows = false) := hE
    have H1 := Lib.hid h1
    clear hE h1 hl
    go_enter Tryz.func44, Tryz.ntmps44
    go_wp2_with fail
    refine (isSide_i _ _).mono ?_
    rw [H1.out]
    rintro e w1 ⟨rfl, hb1⟩
    go_wp2_with fail
    go_ret
    exact ⟨by rw [HV.out]; rfl, (by (repeat (first | with_reducible exact Below.refl _ _ | with_reducible assumption | with_reducible apply bel_alloc | with_reducible apply bel_drew | with_reducible apply bel_drewN | ((with_reducible refine bel_set ?_ ?_); rotate_left; (simp <;> omega)) | (with_reducible refine bel_trans ?_ (by with_reducible assumption)))))⟩
  | true =>
    cases h2 : sideB (n : Int) with
    | false =>
      rw [h1, h2] at hE
      have HV : Hid (isReg W rows = false) := hE
      have H1 := Lib.hid h1
      have H2 := Lib.hid h2
      clear hE h1 h2 hl
      go_enter Tryz.func44, Tryz.ntmps44
      go_wp2_with fail
      refine (isSide_i _ _).mono ?_
      rw [H1.out]
      rintro e w1 ⟨rfl, hb1⟩
      have c1 : w1.cell? ⟨w.heap.size, 1, none⟩ = some (.slice A n c) := by simpa using ((Blk.new w 29 #[.int .i64 W, .slice A n c]).below hb1).cell 1
      go_wp2_with fail
      refine (isSide_i _ _).mono ?_
      rw [H2.out]
      rintro e w2 ⟨rfl, hb2⟩
      go_wp2_with fail
      go_ret
      exact ⟨by rw [HV.out]; rfl, (by (repeat (first | with_reducible exact Below.refl _ _ | with_reducible assumption | with_reducible apply bel_alloc | with_reducible apply bel_drew | with_reducible apply bel_drewN | ((with_reducible refine bel_set ?_ ?_); rotate_left; (simp <;> omega)) | (with_reducible refine bel_trans ?_ (by with_reducible assumption)))))⟩
    | true =>
      rw [h1, h2] at hE
      have HV : Hid (isReg W rows = (rows.drop 0).all (okRow W)) := hE
      have H1 := Lib.hid h1
      have H2 := Lib.hid h2
      have hW : 1 ≤ W ∧ W ≤ 6 := by simpa [sideB] using h1
      have hN : 1 ≤ n ∧ n ≤ 6 := by have : 1 ≤ (n : Int) ∧ (n : Int) ≤ 6 := by simpa [sideB] using h2
                                    omega
      obtain ⟨hW1, hW2⟩ := hW
      obtain ⟨hN1, hN2⟩ := hN
      clear hE h1 h2 hl
      go_enter Tryz.func44, Tryz.ntmps44
      go_wp2_with fail
      refine (isSide_i _ _).mono ?_
      rw [H1.out]
      rintro e w1 ⟨rfl, hb1⟩
      have c1 : w1.cell? ⟨w.heap.size, 1, none⟩ = some (.slice A n c) := by simpa using ((Blk.new w 29 #[.int .i64 W, .slice A n c]).below hb1).cell 1
      go_wp2_with fail
      refine (isSide_i _ _).mono ?_
      rw [H2.out]
      rintro e w2 ⟨rfl, hb2⟩
      have hB2 : Blk w2 w.heap.size 29 #[.int .i64 W, .slice A n c] := ((Blk.new w 29 #[.int .i64 W, .slice A n c]).below hb1).below hb2
      have HB2 := Lib.hid hB2
      have hr2 : Rd w2 A (vI rows) := ((hr.alloc _).below hb1).below hb2
      have HR2 := Lib.hid hr2
      have c2 : w2.cell? ⟨w.heap.size, 1, none⟩ = some (.slice A n c) := by simpa using hB2.cell 1
      clear hB2 hr2 c1
      go_wp2_with fail
      go_loopw [19] (fun i wr => ∃ k : Nat, k ≤ n ∧ i = .int .i64 k ∧ (rows.drop 0).all (okRow W) = (rows.drop k).all (okRow W) ∧ Below w2.heap.size w2 wr) (fun i _ => n - (intOf i).toNat)
      case atStart => exact ⟨0, Nat.zero_le _, rfl, rfl, Below.refl _ _⟩
      case round =>
        obtain ⟨k, hk, rfl, hall, hb⟩ := hrel
        clear c2
        by_cases hlt : k < n
        · have hkl : k < rows.length := by rw [HL.out]; exact hlt
          have hk0 : (0 : Int) ≤ (k : Int) := by omega
          have hk1 : (k : Int) < (n : Int) := by omega
          obtain ⟨g, off, rfl, hg, d1⟩ := RdI.at_ (HR2.out.below hb) hkl
          have d2 : wr.cell? ⟨w.heap.size, 0, none⟩ = some (.int .i64 W) := by simpa using (HB2.out.below hb).cell 0
          rw [all_dropI hkl] at hall
          obtain ⟨x, hx⟩ : ∃ x, rows[k] = x := ⟨_, rfl⟩
          rw [hx] at hall d1
          obtain ⟨p, hp⟩ : ∃ p : Int, (2 : Int) ^ W.toNat = p := ⟨_, rfl⟩
          have hp0 : 2 ≤ p ∧ p ≤ 64 := by
            rcases (by omega : W = 1 ∨ W = 2 ∨ W = 3 ∨ W = 4 ∨ W = 5 ∨ W = 6) with rfl | rfl | rfl | rfl | rfl | rfl <;> (simp at hp; omega)
          obtain ⟨hp2, hp64⟩ := hp0
          have hpw : IntKind.i64.wrap p = p := Go.IntWalk.i64_in p (by omega)
          have ho : okRow W x = (decide (0 ≤ x) && decide (x < p)) := by unfold okRow; rw [hp]
          rw [ho] at hall
          clear hx ho
          by_cases hx0 : x < 0
          · rw [show decide (0 ≤ x) = false from by simp; omega, Bool.false_and, Bool.false_and] at hall
            have HF : Hid (isReg W rows = false) := by rw [HV.out, hall]; rfl
            clear hall hp
            go_wp2
            go_ret
            exact ⟨by rw [HF.out]; rfl, (by (repeat (first | with_reducible exact Below.refl _ _ | with_reducible assumption | with_reducible apply bel_alloc | with_reducible apply bel_drew | with_reducible apply bel_drewN | ((with_reducible refine bel_set ?_ ?_); rotate_left; (simp <;> omega)) | (with_reducible refine bel_trans ?_ (by with_reducible assumption)))))⟩
          · by_cases hxp : x < p
            · rw [show decide (0 ≤ x) = true from by simp; omega, show decide (x < p) = true from by simpa using hxp, Bool.true_and, Bool.true_and] at hall
              have HA := Lib.hid hall
              have hge : ¬ (p ≤ x) := by omega
              clear hall
              go_wp2
              exact ⟨⟨k + 1, by omega, by go_num, HA.out, (by (repeat (first | with_reducible exact Below.refl _ _ | with_reducible assumption | with_reducible apply bel_alloc | with_reducible apply bel_drew | with_reducible apply bel_drewN | ((with_reducible refine bel_set ?_ ?_); rotate_left; (simp <;> omega)) | (with_reducible refine bel_trans ?_ (by with_reducible assumption)))))⟩, by simp [intOf]; omega⟩
            · rw [show decide (x < p) = false from by simpa using hxp, Bool.and_false, Bool.false_and] at hall
              have HF : Hid (isReg W rows = false) := by rw [HV.out, hall]; rfl
              have hge : p ≤ x := by omega
              clear hall
              go_wp2
              go_ret
              exact ⟨by rw [HF.out]; rfl, (by (repeat (first | with_reducible exact Below.refl _ _ | with_reducible assumption | with_reducible apply bel_alloc | with_reducible apply bel_drew | with_reducible apply bel_drewN | ((with_reducible refine bel_set ?_ ?_); rotate_left; (simp <;> omega)) | (with_reducible refine bel_trans ?_ (by with_reducible assumption)))))⟩
        · have hkn : k = n := by omega
          subst hkn
          rw [List.drop_of_length_le (l := rows) (i := k) (by rw [HL.out]; omega)] at hall
          have HF : Hid (isReg W rows = true) := by rw [HV.out, hall]; rfl
          have hk1 : ¬ (k : Int) < (k : Int) := by omega
          clear hall
          go_wp2
          go_ret
          exact ⟨by rw [HF.out]; rfl, (by (repeat (first | with_reducible exact Below.refl _ _ | with_reducible assumption | with_reducible apply bel_alloc | with_reducible apply bel_drew | with_reducible apply bel_drewN | ((with_reducible refine bel_set ?_ ?_); rotate_left; (simp <;> omega)) | (with_reducible refine bel_trans ?_ (by with_reducible assumption)))))⟩
set_option maxHeartbeats 800000 in
theorem IsRegion_s (W : Int) (A : Option Addr) (n c : Nat) (rows : List Int) (w : World) (hr : Rd w A (vI rows)) (hl : rows.length = n) :
    Calls Tryz.prog 17 #[.agg #[.int .i64 W, .slice A n c]] w (Ret w (.bool (isReg W rows))) := by
  have HL := Lib.hid hl
  have hE := isReg_eq W rows
  rw [hl] at hE
  cases h1 : sideB W with
  | false =>
    rw [h1] at hE
    have HV : Hid (isReg W rows = false) := hE
    have H1 := Lib.hid h1
    clear hE h1 hl
    go_enter Tryz.func17, Tryz.ntmps17
    go_wp2_with fail
    refine (l1In_b _ _ _ _ _ (rfl : sideB _ = _)).mono ?_
    rw [H1.out]
    rintro e w1 ⟨rfl, hb1⟩
    go_wp2_with fail
    go_ret
    exact ⟨by rw [HV.out]; rfl, (by (repeat (first | with_reducible exact Below.refl _ _ | with_reducible assumption | with_reducible apply bel_alloc | with_reducible apply bel_drew | with_reducible apply bel_drewN | ((with_reducible refine bel_set ?_ ?_); rotate_left; (simp <;> omega)) | (with_reducible refine bel_trans ?_ (by with_reducible assumption)))))⟩
  | true =>
    cases h2 : sideB (n : Int) with
    | false =>
      rw [h1, h2] at hE
      have HV : Hid (isReg W rows = false) := hE
      have H1 := Lib.hid h1
      have H2 := Lib.hid h2
      clear hE h1 h2 hl
      go_enter Tryz.func17, Tryz.ntmps17
      go_wp2_with fail
      refine (l1In_b _ _ _ _ _ (rfl : sideB _ = _)).mono ?_
      rw [H1.out]
      rintro e w1 ⟨rfl, hb1⟩
      have c1 : w1.cell? ⟨w.heap.size, 1, none⟩ = some (.slice A n c) := by simpa using ((Blk.new w 29 #[.int .i64 W, .slice A n c]).below hb1).cell 1
      go_wp2_with fail
      refine (l1In_b _ _ _ _ _ (rfl : sideB _ = _)).mono ?_
      rw [H2.out]
      rintro e w2 ⟨rfl, hb2⟩
      go_wp2_with fail
      go_ret
      exact ⟨by rw [HV.out]; rfl, (by (repeat (first | with_reducible exact Below.refl _ _ | with_reducible assumption | with_reducible apply bel_alloc | with_reducible apply bel_drew | with_reducible apply bel_drewN | ((with_reducible refine bel_set ?_ ?_); rotate_left; (simp <;> omega)) | (with_reducible refine bel_trans ?_ (by with_reducible assumption)))))⟩
    | true =>
      rw [h1, h2] at hE
      have HV : Hid (isReg W rows = (rows.drop 0).all (okRow W)) := hE
      have H1 := Lib.hid h1
      have H2 := Lib.hid h2
      have hW : 1 ≤ W ∧ W ≤ 6 := by simpa [sideB] using h1
      have hN : 1 ≤ n ∧ n ≤ 6 := by have : 1 ≤ (n : Int) ∧ (n : Int) ≤ 6 := by simpa [sideB] using h2
                                    omega
      obtain ⟨hW1, hW2⟩ := hW
      obtain ⟨hN1, hN2⟩ := hN
      clear hE h1 h2 hl
      go_enter Tryz.func17, Tryz.ntmps17
      go_wp2_with fail
      refine (l1In_b _ _ _ _ _ (rfl : sideB _ = _)).mono ?_
      rw [H1.out]
      rintro e w1 ⟨rfl, hb1⟩
      have c1 : w1.cell? ⟨w.heap.size, 1, none⟩ = some (.slice A n c) := by simpa using ((Blk.new w 29 #[.int .i64 W, .slice A n c]).below hb1).cell 1
      go_wp2_with fail
      refine (l1In_b _ _ _ _ _ (rfl : sideB _ = _)).mono ?_
      rw [H2.out]
      rintro e w2 ⟨rfl, hb2⟩
      have hB2 : Blk w2 w.heap.size 29 #[.int .i64 W, .slice A n c] := ((Blk.new w 29 #[.int .i64 W, .slice A n c]).below hb1).below hb2
      have HB2 := Lib.hid hB2
      have hr2 : Rd w2 A (vI rows) := ((hr.alloc _).below hb1).below hb2
      have HR2 := Lib.hid hr2
      have c2 : w2.cell? ⟨w.heap.size, 1, none⟩ = some (.slice A n c) := by simpa using hB2.cell 1
      clear hB2 hr2 c1
      go_wp2_with fail
      go_loopw [3] (fun i wr => ∃ k : Nat, k ≤ n ∧ i = .int .i64 k ∧ (rows.drop 0).all (okRow W) = (rows.drop k).all (okRow W) ∧ Below w2.heap.size w2 wr) (fun i _ => n - (intOf i).toNat)
      case atStart => exact ⟨0, Nat.zero_le _, rfl, rfl, Below.refl _ _⟩
      case round =>
        obtain ⟨k, hk, rfl, hall, hb⟩ := hrel
        clear c2
        have d3 : wr.cell? ⟨w.heap.size, 1, none⟩ = some (.slice A n c) := by simpa using (HB2.out.below hb).cell 1
        have hgw := (HB2.out.below hb).lt
        by_cases hlt : k < n
        · have hkl : k < rows.length := by rw [HL.out]; exact hlt
          have hk0 : (0 : Int) ≤ (k : Int) := by omega
          have hk1 : (k : Int) < (n : Int) := by omega
          obtain ⟨g, off, rfl, hg, d1⟩ := RdI.at_ (HR2.out.below hb) hkl
          have d2 : wr.cell? ⟨w.heap.size, 0, none⟩ = some (.int .i64 W) := by simpa using (HB2.out.below hb).cell 0
          rw [all_dropI hkl] at hall
          obtain ⟨x, hx⟩ : ∃ x, rows[k] = x := ⟨_, rfl⟩
          rw [hx] at hall d1
          obtain ⟨p, hp⟩ : ∃ p : Int, (2 : Int) ^ W.toNat = p := ⟨_, rfl⟩
          have hp0 : 2 ≤ p ∧ p ≤ 64 := by
            rcases (by omega : W = 1 ∨ W = 2 ∨ W = 3 ∨ W = 4 ∨ W = 5 ∨ W = 6) with rfl | rfl | rfl | rfl | rfl | rfl <;> (simp at hp; omega)
          obtain ⟨hp2, hp64⟩ := hp0
          have hpw : IntKind.i64.wrap p = p := Go.IntWalk.i64_in p (by omega)
          have ho : okRow W x = (decide (0 ≤ x) && decide (x < p)) := by unfold okRow; rw [hp]
          rw [ho] at hall
          clear hx ho
          by_cases hx0 : x < 0
          · rw [show decide (0 ≤ x) = false from by simp; omega, Bool.false_and, Bool.false_and] at hall
            have HF : Hid (isReg W rows = false) := by rw [HV.out, hall]; rfl
            have hx0d : decide (x < 0) = true := by simpa using hx0
            clear hall hp hx0
            go_wp2_with fail
            (refine wp_region_below (by kernel_rfl) (by kernel_rfl) ?_; (repeat (first | go_big_quiet_skip | (refine quietV (v := ?_) (by rfl) rfl (fun w' hbw => ?_) ?_; rotate_left; ((try dsimp only at hbw); have hbc := (bcell hbw).1; have hbf := (bcell hbw).2; go_simp; first | done | with_reducible rfl | fail); simp only [List.setIfInBounds_toArray, List.set_cons_zero, List.set_cons_succ]))); refine wpQuiet_nil ?_; intro wq hbq)
            go_wp2_with fail
            go_ret
            exact ⟨by rw [HF.out]; rfl, (by (repeat (first | with_reducible exact Below.refl _ _ | with_reducible assumption | with_reducible apply bel_alloc | with_reducible apply bel_drew | with_reducible apply bel_drewN | ((with_reducible refine bel_set ?_ ?_); rotate_left; (simp <;> omega)) | (with_reducible refine bel_trans ?_ (by with_reducible assumption)))))⟩
          · by_cases hxp : x < p
            · rw [show decide (0 ≤ x) = true from by simp; omega, show decide (x < p) = true from by simpa using hxp, Bool.true_and, Bool.true_and] at hall
              have HA := Lib.hid hall
              have hge : decide (p ≤ x) = false := by simp; omega
              have hx0d : decide (x < 0) = false := by simpa using hx0
              clear hall
              go_wp2_with fail
              (refine wp_region_below (by kernel_rfl) (by kernel_rfl) ?_; (repeat (first | go_big_quiet_skip | (refine quietV (v := ?_) (by rfl) rfl (fun w' hbw => ?_) ?_; rotate_left; ((try dsimp only at hbw); have hbc := (bcell hbw).1; have hbf := (bcell hbw).2; go_simp; first | done | with_reducible rfl | fail); simp only [List.setIfInBounds_toArray, List.set_cons_zero, List.set_cons_succ]))); refine wpQuiet_nil ?_; intro wq hbq)
              go_wp2_with fail
              exact ⟨⟨k + 1, by omega, by go_num, HA.out, (by (repeat (first | with_reducible exact Below.refl _ _ | with_reducible assumption | with_reducible apply bel_alloc | with_reducible apply bel_drew | with_reducible apply bel_drewN | ((with_reducible refine bel_set ?_ ?_); rotate_left; (simp <;> omega)) | (with_reducible refine bel_trans ?_ (by with_reducible assumption)))))⟩, by simp [intOf]; omega⟩
            · rw [show decide (x < p) = false from by simpa using hxp, Bool.and_false, Bool.false_and] at hall
              have HF : Hid (isReg W rows = false) := by rw [HV.out, hall]; rfl
              have hge : decide (p ≤ x) = true := by simp; omega
              have hx0d : decide (x < 0) = false := by simpa using hx0
              clear hall
              go_wp2_with fail
              (refine wp_region_below (by kernel_rfl) (by kernel_rfl) ?_; (repeat (first | go_big_quiet_skip | (refine quietV (v := ?_) (by rfl) rfl (fun w' hbw => ?_) ?_; rotate_left; ((try dsimp only at hbw); have hbc := (bcell hbw).1; have hbf := (bcell hbw).2; go_simp; first | done | with_reducible rfl | fail); simp only [List.setIfInBounds_toArray, List.set_cons_zero, List.set_cons_succ]))); refine wpQuiet_nil ?_; intro wq hbq)
              go_wp2_with fail
              go_ret
              exact ⟨by rw [HF.out]; rfl, (by (repeat (first | with_reducible exact Below.refl _ _ | with_reducible assumption | with_reducible apply bel_alloc | with_reducible apply bel_drew | with_reducible apply bel_drewN | ((with_reducible refine bel_set ?_ ?_); rotate_left; (simp <;> omega)) | (with_reducible refine bel_trans ?_ (by with_reducible assumption)))))⟩
        · have hkn : k = n := by omega
          subst hkn
          rw [List.drop_of_length_le (l := rows) (i := k) (by rw [HL.out]; omega)] at hall
          have HF : Hid (isReg W rows = true) := by rw [HV.out, hall]; rfl
          have hk1 : ¬ (k : Int) < (k : Int) := by omega
          clear hall
          go_wp2
          go_ret
          exact ⟨by rw [HF.out]; rfl, (by (repeat (first | with_reducible exact Below.refl _ _ | with_reducible assumption | with_reducible apply bel_alloc | with_reducible apply bel_drew | with_reducible apply bel_drewN | ((with_reducible refine bel_set ?_ ?_); rotate_left; (simp <;> omega)) | (with_reducible refine bel_trans ?_ (by with_reducible assumption)))))⟩
end Go.Proofs.YtoedmmhiinhljaaGreatDoor

/- The mask of a region: both sides. -/
namespace Go.Proofs.YtoedmmhiinhljaaGreatDoor
open Go.RowKit
set_option linter.unusedVariables false
attribute [local go_sem ↓] Go.wp_at_zero Go.wp_at_succ
def maskV (W : Int) (rows : List Int) : Nat := if isReg W rows then mkTo W.toNat rows rows.length else 0
/-- One row more of a mask: the numbers that the walk meets. -/
theorem mask_step {m : Nat} {rows : List Int} (hm : m ≤ 6) (h6 : rows.length ≤ 6) (h : ∀ k (hk : k < rows.length), ∃ q : Nat, rows[k] = (q : Int) ∧ q < 2 ^ m) {k : Nat} (hk : k < rows.length) :
    ∃ q s t v : Nat, rows[k] = (q : Int) ∧ (k : Int) * (m : Int) = (s : Int) ∧ s ≤ 36 ∧ (q : Int) * 2 ^ s = (t : Int) ∧ t < 2 ^ 36 ∧ v = mkTo m rows (k + 1) ∧ v < 2 ^ 36 ∧ mkTo m rows k + t = v ∧ bits .or .i64 (mkTo m rows k : Nat) (t : Int) = (v : Int) := by
  obtain ⟨q, hq, hlt⟩ := h k hk
  have h1 := mkTo_lt h k (by omega)
  have h2 := mkTo_lt h (k + 1) (by omega)
  have h3 : (k + 1) * m ≤ 6 * 6 := Nat.mul_le_mul (by omega) hm
  have h4 : 2 ^ ((k + 1) * m) ≤ 2 ^ 36 := Nat.pow_le_pow_right (by decide) h3
  have e : mkTo m rows (k + 1) = mkTo m rows k + q * 2 ^ (k * m) := by
    show mkTo m rows k + (rows.getD k 0).toNat * 2 ^ (k * m) = _
    rw [List.getD_eq_getElem?_getD, List.getElem?_eq_getElem hk, Option.getD_some, hq]
    rfl
  have h5 : k * m ≤ 36 := by rw [Nat.succ_mul] at h3; omega
  refine ⟨q, k * m, q * 2 ^ (k * m), mkTo m rows (k + 1), hq, by simp, h5, by simp, by omega, rfl, by omega, e.symm, ?_⟩
  rw [i64_or _ _ (by omega) (by omega), or_high h1, e]
theorem wrapN {v : Nat} (h : v < 2 ^ 36) : IntKind.i64.wrap (v : Int) = (v : Int) := Go.IntWalk.i64_in _ (by omega)
set_option maxHeartbeats 800000 in
theorem mask_i (W : Int) (A : Option Addr) (n c : Nat) (rows : List Int) (w : World) (hr : Rd w A (vI rows)) (hl : rows.length = n) (hv : isReg W rows = true) :
    Calls Tryz.prog 32 #[.agg #[.int .i64 W, .slice A n c]] w (Ret w (.int .i64 (maskV W rows : Nat))) := by
  obtain ⟨m, rfl, hm1, hm6, hn1, hn6, hrow⟩ := isReg_yes hv
  have HV : Hid (maskV (m : Int) rows = mkTo m rows rows.length) := by show maskV _ rows = _; unfold maskV; rw [if_pos hv]; rfl
  have HL := Lib.hid hl
  have HROW := Lib.hid hrow
  rw [hl] at hn6 hn1
  clear hv hl hrow
  go_enter Tryz.func32, Tryz.ntmps32
  go_wp2
  go_loopw [9, 3] (fun i t wr => ∃ k v : Nat, k ≤ n ∧ i = .int .i64 k ∧ t = .int .i64 v ∧ v = mkTo m rows k ∧ Below (w.alloc (.cells #[.int .i64 (m : Int), .slice A n c] 29)).heap.size (w.alloc (.cells #[.int .i64 (m : Int), .slice A n c] 29)) wr) (fun i _ _ => n - (intOf i).toNat)
  case atStart => exact ⟨0, 0, Nat.zero_le _, rfl, rfl, rfl, Below.refl _ _⟩
  case round =>
    obtain ⟨k, v, hk, rfl, rfl, hv, hb⟩ := hrel
    by_cases hlt : k < n
    · have hkl : k < rows.length := by rw [HL.out]; exact hlt
      have hk0 : (0 : Int) ≤ (k : Int) := by omega
      have hk1 : (k : Int) < (n : Int) := by omega
      have hB := (Blk.new w 29 #[.int .i64 (m : Int), .slice A n c]).below hb
      have d0 : wr.cell? ⟨w.heap.size, 0, none⟩ = some (.int .i64 (m : Int)) := by simpa using hB.cell 0
      have hgw := hB.lt
      obtain ⟨g, off, rfl, hg, d1⟩ := RdI.at_ ((hr.alloc _).below hb) hkl
      obtain ⟨q, s, t, v', e1, e2, e3, e4, e5, e6, e7, e8, e9⟩ := mask_step hm6 (by rw [HL.out]; exact hn6) HROW.out hkl
      rw [e1] at d1
      rw [← hv] at e8 e9
      have HE := Lib.hid e6
      have s0 : (0 : Int) ≤ (s : Int) := by omega
      have s1 : (s : Int) ≤ 64 := by omega
      have w1 := wrapN e5
      clear e1 e6 hv hB
      go_wp2
      exact ⟨⟨k + 1, v', by omega, by go_num, rfl, HE.out, hb⟩, by simp [intOf]; omega⟩
    · have hkn : k = n := by omega
      subst hkn
      rw [← HL.out] at hv
      have HE := Lib.hid hv
      have hk1 : ¬ (k : Int) < (k : Int) := by omega
      clear hv
      go_wp2
      go_ret
      exact ⟨by rw [HV.out, ← HE.out]; rfl, (by (repeat (first | with_reducible exact Below.refl _ _ | with_reducible assumption | with_reducible apply bel_alloc | with_reducible apply bel_drew | with_reducible apply bel_drewN | ((with_reducible refine bel_set ?_ ?_); rotate_left; (simp <;> omega)) | (with_reducible refine bel_trans ?_ (by with_reducible assumption)))))⟩
set_option maxHeartbeats 1600000 in
theorem MaskOf_s (W : Int) (A : Option Addr) (n c : Nat) (rows : List Int) (w : World) (hr : Rd w A (vI rows)) (hl : rows.length = n) :
    Calls Tryz.prog 38 #[.agg #[.int .i64 W, .slice A n c]] w (Ret w (.int .i64 (maskV W rows : Nat))) := by
  cases hv : isReg W rows with
  | false =>
    have HV : Hid (maskV W rows = 0) := by show maskV _ rows = _; unfold maskV; rw [hv]; rfl
    have HL := Lib.hid hl
    have HF := Lib.hid hv
    clear hv hl
    go_enter Tryz.func38, Tryz.ntmps38
    go_wp2_with fail
    go_loopw [4, 3] (fun i t wr => i = .int .i64 0 ∧ t = .int .i64 0 ∧ Below (w.alloc (.cells #[.int .i64 W, .slice A n c] 29)).heap.size (w.alloc (.cells #[.int .i64 W, .slice A n c] 29)) wr) (fun _ _ _ => 0)
    case atStart => exact ⟨rfl, rfl, Below.refl _ _⟩
    case round =>
      obtain ⟨rfl, rfl, hb⟩ := hrel
      have hB := (Blk.new w 29 #[.int .i64 W, .slice A n c]).below hb
      have d0 : wr.cell? ⟨w.heap.size, 0, none⟩ = some (.int .i64 W) := by simpa using hB.cell 0
      have d1 : wr.cell? ⟨w.heap.size, 1, none⟩ = some (.slice A n c) := by simpa using hB.cell 1
      have hrw := Lib.hid ((hr.alloc _).below hb)
      clear hB
      by_cases hn : n = 0
      · have hn1 : ¬ (0 : Int) < (n : Int) := by omega
        go_wp2_with fail
        go_ret
        exact ⟨by rw [HV.out]; rfl, (by (repeat (first | with_reducible exact Below.refl _ _ | with_reducible assumption | with_reducible apply bel_alloc | with_reducible apply bel_drew | with_reducible apply bel_drewN | ((with_reducible refine bel_set ?_ ?_); rotate_left; (simp <;> omega)) | (with_reducible refine bel_trans ?_ (by with_reducible assumption)))))⟩
      · have hn1 : (0 : Int) < (n : Int) := by omega
        go_wp2_with fail
        refine (IsRegion_s _ _ _ _ rows _ hrw.out HL.out).mono ?_
        rw [HF.out]
        rintro e w1 ⟨rfl, hb1⟩
        go_wp2_with fail
        go_ret
        exact ⟨by rw [HV.out]; rfl, (by (repeat (first | with_reducible exact Below.refl _ _ | with_reducible assumption | with_reducible apply bel_alloc | with_reducible apply bel_drew | with_reducible apply bel_drewN | ((with_reducible refine bel_set ?_ ?_); rotate_left; (simp <;> omega)) | (with_reducible refine bel_trans ?_ (by with_reducible assumption)))))⟩
  | true =>
    have HT := Lib.hid hv
    obtain ⟨m, rfl, hm1, hm6, hn1, hn6, hrow⟩ := isReg_yes hv
    have HV : Hid (maskV (m : Int) rows = mkTo m rows rows.length) := by show maskV _ rows = _; unfold maskV; rw [if_pos hv]; rfl
    have HL := Lib.hid hl
    have HROW := Lib.hid hrow
    rw [hl] at hn6 hn1
    clear hv hl hrow
    go_enter Tryz.func38, Tryz.ntmps38
    go_wp2
    go_loopw [4, 3] (fun i t wr => ∃ k v : Nat, k ≤ n ∧ i = .int .i64 k ∧ t = .int .i64 v ∧ v = mkTo m rows k ∧ Below (w.alloc (.cells #[.int .i64 (m : Int), .slice A n c] 29)).heap.size (w.alloc (.cells #[.int .i64 (m : Int), .slice A n c] 29)) wr) (fun i _ _ => n - (intOf i).toNat)
    case atStart => exact ⟨0, 0, Nat.zero_le _, rfl, rfl, rfl, Below.refl _ _⟩
    case round =>
      obtain ⟨k, v, hk, rfl, rfl, hv, hb⟩ := hrel
      have hB := (Blk.new w 29 #[.int .i64 (m : Int), .slice A n c]).below hb
      have d0 : wr.cell? ⟨w.heap.size, 0, none⟩ = some (.int .i64 (m : Int)) := by simpa using hB.cell 0
      have d1' : wr.cell? ⟨w.heap.size, 1, none⟩ = some (.slice A n c) := by simpa using hB.cell 1
      have hgw := hB.lt
      have hrw := (hr.alloc _).below hb
      clear hB
      by_cases hlt : k < n
      · have hkl : k < rows.length := by rw [HL.out]; exact hlt
        have hk0 : (0 : Int) ≤ (k : Int) := by omega
        have hk1 : (k : Int) < (n : Int) := by omega
        have HRW := Lib.hid hrw
        obtain ⟨g, off, hA, hg, d1⟩ := RdI.at_ hrw hkl
        subst hA
        obtain ⟨q, s, t, v', e1, e2, e3, e4, e5, e6, e7, e8, e9⟩ := mask_step hm6 (by rw [HL.out]; exact hn6) HROW.out hkl
        rw [e1] at d1
        rw [← hv] at e8
        have HE := Lib.hid e6
        have s0 : (0 : Int) ≤ (s : Int) := by omega
        have s1 : (s : Int) ≤ 64 := by omega
        have w1 := wrapN e5
        have w2 := wrapN e7
        have w3 : IntKind.i64.wrap (s : Int) = (s : Int) := Go.IntWalk.i64_in _ (by omega)
        have e10 : (v : Int) + (t : Int) = (v' : Int) := by omega
        clear e1 e6 hv e9 e8 hrw
        go_wp2_with fail
        refine (IsRegion_s _ _ _ _ rows _ HRW.out HL.out).mono ?_
        rw [HT.out]
        rintro e w4 ⟨rfl, hb4⟩
        have y0 := keep_below hb4 d0
        have y1 := keep_below hb4 d1'
        have y2 := keep_below hb4 d1
        have hgw4 : w.heap.size < w4.heap.size := Nat.lt_of_lt_of_le hgw hb4.size
        have hg4 : g < w4.heap.size := Nat.lt_of_lt_of_le hg hb4.size
        go_wp2_with fail
        (refine wp_region_below (by kernel_rfl) (by kernel_rfl) ?_; (repeat (first | go_big_quiet_skip | (refine quietV (v := ?_) (by rfl) rfl (fun w' hbw => ?_) ?_; rotate_left; ((try dsimp only at hbw); have hbc := (bcell hbw).1; have hbf := (bcell hbw).2; go_simp; first | done | with_reducible rfl | fail); simp only [List.setIfInBounds_toArray, List.set_cons_zero, List.set_cons_succ]))); refine wpQuiet_nil ?_; intro wq hbq)
        go_wp2_with fail
        exact ⟨⟨k + 1, v', by omega, by go_num, rfl, HE.out, (by (repeat (first | with_reducible exact Below.refl _ _ | with_reducible assumption | with_reducible apply bel_alloc | with_reducible apply bel_drew | with_reducible apply bel_drewN | ((with_reducible refine bel_set ?_ ?_); rotate_left; (simp <;> omega)) | (with_reducible refine bel_trans ?_ (by with_reducible assumption)))))⟩, by simp [intOf]; omega⟩
      · have hkn : k = n := by omega
        subst hkn
        rw [← HL.out] at hv
        have HE := Lib.hid hv
        have hk1 : ¬ (k : Int) < (k : Int) := by omega
        clear hv hrw
        go_wp2
        go_ret
        exact ⟨by rw [HV.out, ← HE.out]; rfl, (by (repeat (first | with_reducible exact Below.refl _ _ | with_reducible assumption | with_reducible apply bel_alloc | with_reducible apply bel_drew | with_reducible apply bel_drewN | ((with_reducible refine bel_set ?_ ?_); rotate_left; (simp <;> omega)) | (with_reducible refine bel_trans ?_ (by with_reducible assumption)))))⟩
end Go.Proofs.YtoedmmhiinhljaaGreatDoor

/- Where motions carry places: both sides. -/
namespace Go.Proofs.YtoedmmhiinhljaaGreatDoor
open Go.RowKit
set_option linter.unusedVariables false
attribute [local go_sem ↓] Go.wp_at_zero Go.wp_at_succ
theorem rot_step (j : Nat) (q : Q4) {a b x y : Int} (h : rot j q = (a, b, x, y)) : rot (j + 1) q = (b, a, b - 1 - y, x) := by
  show quarter (rot j q) = _
  rw [h]; rfl
/-- The turning loop of carryPlace. -/
theorem carry_small {w h x y : Int} (hq : okQ (w, h, x, y)) (m : Nat) : okQ (carry w h x y m) := okQ_rot (okQ_start m hq) _
set_option maxHeartbeats 1600000 in
theorem carryPlace_i (a b x y : Int) (m : Nat) (w : World) (hq : okQ (a, b, x, y)) (hm : m < 8) :
    Calls Tryz.prog 64 #[.int .i64 a, .int .i64 b, .agg #[.int .i64 x, .int .i64 y], .int .i64 (m : Int)] w (Ret w (.agg #[.int .i64 (carry a b x y m).2.2.1, .int .i64 (carry a b x y m).2.2.2])) := by
  obtain ⟨r, hr⟩ : ∃ r, m % 4 = r := ⟨_, rfl⟩
  have hr4 : r < 4 := by omega
  have hmr : (m : Int) % 4 = (r : Int) := by omega
  have hm0 : (0 : Int) ≤ (m : Int) := by omega
  have hm7 : (m : Int) ≤ 7 := by omega
  obtain ⟨h1, h2, h3, h4, h5, h6, h7, h8⟩ := id hq
  simp only at h1 h2 h3 h4 h5 h6 h7 h8
  have hok := okQ_start m hq
  have HC : Hid (carry a b x y m = rot r (startQ a b x y m)) := by show carry a b x y m = _; unfold carry; rw [hr]
  obtain ⟨x1, hx1⟩ : ∃ x1, (if 4 ≤ m then a - 1 - x else x) = x1 := ⟨_, rfl⟩
  have hst : startQ a b x y m = (a, b, x1, y) := by unfold startQ; rw [hx1]
  rw [hst] at hok
  have HST := Lib.hid hst
  have HOK := Lib.hid hok
  clear hst hok hr hq
  by_cases h4m : 4 ≤ m
  · rw [if_pos h4m] at hx1
    have h4i : (m : Int) ≥ 4 := by omega
    go_enter Tryz.func64, Tryz.ntmps64
    go_wp2
    go_loopw [19, 0, 1] (fun e19 e0 e1 wr => ∃ (j : Nat) (a' b' x' y' : Int), j ≤ r ∧ e19 = .int .i64 j ∧ e0 = .int .i64 a' ∧ e1 = .int .i64 b' ∧ rot j (startQ a b x y m) = (a', b', x', y') ∧ Blk wr w.heap.size 66 #[.int .i64 x', .int .i64 y'] ∧ Blk wr (w.heap.size + 1) 66 #[.int .i64 0, .int .i64 0] ∧ Below w.heap.size w wr) (fun e19 _ _ _ => r - (intOf e19).toNat)
    case atStart =>
      subst hx1
      have hb1 : Blk ((w.alloc (.cells #[.int .i64 (a - 1 - x), .int .i64 y] 66)).alloc (.cells #[.int .i64 0, .int .i64 0] 66)) w.heap.size 66 #[.int .i64 (a - 1 - x), .int .i64 y] := (Blk.new w 66 #[.int .i64 (a - 1 - x), .int .i64 y]).alloc _
      have hb2 : Blk ((w.alloc (.cells #[.int .i64 (a - 1 - x), .int .i64 y] 66)).alloc (.cells #[.int .i64 0, .int .i64 0] 66)) (w.heap.size + 1) 66 #[.int .i64 0, .int .i64 0] := by
        have h := Blk.new (w.alloc (.cells #[.int .i64 (a - 1 - x), .int .i64 y] 66)) 66 #[.int .i64 0, .int .i64 0]
        rw [show (w.alloc (.cells #[.int .i64 (a - 1 - x), .int .i64 y] 66)).heap.size = w.heap.size + 1 from by simp] at h
        exact h
      exact ⟨0, a, b, a - 1 - x, y, Nat.zero_le _, rfl, rfl, rfl, HST.out, hb1, hb2, (by (repeat (first | with_reducible exact Below.refl _ _ | with_reducible assumption | with_reducible apply bel_alloc | with_reducible apply bel_drew | with_reducible apply bel_drewN | ((with_reducible refine bel_set ?_ ?_); rotate_left; (simp <;> omega)) | (with_reducible refine bel_trans ?_ (by with_reducible assumption)))))⟩
    case round =>
      obtain ⟨j, a', b', x', y', hj, rfl, rfl, rfl, hrot, hB, hB2, hb⟩ := hrel
      have ho : okQ (a', b', x', y') := by rw [← hrot, HST.out]; exact okQ_rot HOK.out j
      obtain ⟨k1, k2, k3, k4, k5, k6, k7, k8⟩ := ho
      simp only at k1 k2 k3 k4 k5 k6 k7 k8
      have c0 : wr.cell? ⟨w.heap.size, 0, none⟩ = some (.int .i64 x') := by simpa using hB.cell 0
      have c1 : wr.cell? ⟨w.heap.size, 1, none⟩ = some (.int .i64 y') := by simpa using hB.cell 1
      have f0 := hB.frozen 0
      have f1 := hB.frozen 1
      have d0 : wr.cell? ⟨w.heap.size + 1, 0, none⟩ = some (.int .i64 0) := by simpa using hB2.cell 0
      have d1 : wr.cell? ⟨w.heap.size + 1, 1, none⟩ = some (.int .i64 0) := by simpa using hB2.cell 1
      have fd0 := hB2.frozen 0
      have fd1 := hB2.frozen 1
      by_cases hlt : j < r
      · have hj1 : (j : Int) < (r : Int) := by omega
        have HR := Lib.hid (rot_step j _ hrot)
        have hS : Blk ((wr.setCell ⟨w.heap.size, 0, none⟩ (.int .i64 (b' - 1 - y'))).setCell ⟨w.heap.size, 1, none⟩ (.int .i64 x')) w.heap.size 66 #[.int .i64 (b' - 1 - y'), .int .i64 x'] := by simpa using (hB.set_ 0 (.int .i64 (b' - 1 - y'))).set_ 1 (.int .i64 x')
        have hS2 : Blk ((wr.setCell ⟨w.heap.size, 0, none⟩ (.int .i64 (b' - 1 - y'))).setCell ⟨w.heap.size, 1, none⟩ (.int .i64 x')) (w.heap.size + 1) 66 #[.int .i64 0, .int .i64 0] := (hB2.far (by simp) _).far (by simp) _
        have HS := Lib.hid hS
        have HS2 := Lib.hid hS2
        clear hrot hB hB2 hS hS2
        go_wp2
        exact ⟨⟨j + 1, b', a', b' - 1 - y', x', by omega, by go_num, rfl, rfl, HR.out, HS.out, HS2.out, (by (repeat (first | with_reducible exact Below.refl _ _ | with_reducible assumption | with_reducible apply bel_alloc | with_reducible apply bel_drew | with_reducible apply bel_drewN | ((with_reducible refine bel_set ?_ ?_); rotate_left; (simp <;> omega)) | (with_reducible refine bel_trans ?_ (by with_reducible assumption)))))⟩, by simp [intOf]; omega⟩
      · have hjr : j = r := by omega
        subst hjr
        have HV : Hid (carry a b x y m = (a', b', x', y')) := by show carry a b x y m = _; rw [HC.out, hrot]
        have hj1 : ¬ (j : Int) < (j : Int) := by omega
        clear hrot hB hB2
        go_wp2
        exact bodyPost_ret (v := .agg #[.int .i64 x', .int .i64 y']) (by simp [results, Tryz.results64, go_sem, d0, d1]) rfl ⟨by rw [HV.out], (by (repeat (first | with_reducible exact Below.refl _ _ | with_reducible assumption | with_reducible apply bel_alloc | with_reducible apply bel_drew | with_reducible apply bel_drewN | ((with_reducible refine bel_set ?_ ?_); rotate_left; (simp <;> omega)) | (with_reducible refine bel_trans ?_ (by with_reducible assumption)))))⟩
  · rw [if_neg h4m] at hx1
    subst hx1
    have h4i : ¬ (m : Int) ≥ 4 := by omega
    go_enter Tryz.func64, Tryz.ntmps64
    go_wp2
    go_loopw [19, 0, 1] (fun e19 e0 e1 wr => ∃ (j : Nat) (a' b' x' y' : Int), j ≤ r ∧ e19 = .int .i64 j ∧ e0 = .int .i64 a' ∧ e1 = .int .i64 b' ∧ rot j (startQ a b x y m) = (a', b', x', y') ∧ Blk wr w.heap.size 66 #[.int .i64 x', .int .i64 y'] ∧ Blk wr (w.heap.size + 1) 66 #[.int .i64 0, .int .i64 0] ∧ Below w.heap.size w wr) (fun e19 _ _ _ => r - (intOf e19).toNat)
    case atStart =>
      have hb1 : Blk ((w.alloc (.cells #[.int .i64 x, .int .i64 y] 66)).alloc (.cells #[.int .i64 0, .int .i64 0] 66)) w.heap.size 66 #[.int .i64 x, .int .i64 y] := (Blk.new w 66 #[.int .i64 x, .int .i64 y]).alloc _
      have hb2 : Blk ((w.alloc (.cells #[.int .i64 x, .int .i64 y] 66)).alloc (.cells #[.int .i64 0, .int .i64 0] 66)) (w.heap.size + 1) 66 #[.int .i64 0, .int .i64 0] := by
        have h := Blk.new (w.alloc (.cells #[.int .i64 x, .int .i64 y] 66)) 66 #[.int .i64 0, .int .i64 0]
        rw [show (w.alloc (.cells #[.int .i64 x, .int .i64 y] 66)).heap.size = w.heap.size + 1 from by simp] at h
        exact h
      exact ⟨0, a, b, x, y, Nat.zero_le _, rfl, rfl, rfl, HST.out, hb1, hb2, (by (repeat (first | with_reducible exact Below.refl _ _ | with_reducible assumption | with_reducible apply bel_alloc | with_reducible apply bel_drew | with_reducible apply bel_drewN | ((with_reducible refine bel_set ?_ ?_); rotate_left; (simp <;> omega)) | (with_reducible refine bel_trans ?_ (by with_reducible assumption)))))⟩
    case round =>
      obtain ⟨j, a', b', x', y', hj, rfl, rfl, rfl, hrot, hB, hB2, hb⟩ := hrel
      have ho : okQ (a', b', x', y') := by rw [← hrot, HST.out]; exact okQ_rot HOK.out j
      obtain ⟨k1, k2, k3, k4, k5, k6, k7, k8⟩ := ho
      simp only at k1 k2 k3 k4 k5 k6 k7 k8
      have c0 : wr.cell? ⟨w.heap.size, 0, none⟩ = some (.int .i64 x') := by simpa using hB.cell 0
      have c1 : wr.cell? ⟨w.heap.size, 1, none⟩ = some (.int .i64 y') := by simpa using hB.cell 1
      have f0 := hB.frozen 0
      have f1 := hB.frozen 1
      have d0 : wr.cell? ⟨w.heap.size + 1, 0, none⟩ = some (.int .i64 0) := by simpa using hB2.cell 0
      have d1 : wr.cell? ⟨w.heap.size + 1, 1, none⟩ = some (.int .i64 0) := by simpa using hB2.cell 1
      have fd0 := hB2.frozen 0
      have fd1 := hB2.frozen 1
      by_cases hlt : j < r
      · have hj1 : (j : Int) < (r : Int) := by omega
        have HR := Lib.hid (rot_step j _ hrot)
        have hS : Blk ((wr.setCell ⟨w.heap.size, 0, none⟩ (.int .i64 (b' - 1 - y'))).setCell ⟨w.heap.size, 1, none⟩ (.int .i64 x')) w.heap.size 66 #[.int .i64 (b' - 1 - y'), .int .i64 x'] := by simpa using (hB.set_ 0 (.int .i64 (b' - 1 - y'))).set_ 1 (.int .i64 x')
        have hS2 : Blk ((wr.setCell ⟨w.heap.size, 0, none⟩ (.int .i64 (b' - 1 - y'))).setCell ⟨w.heap.size, 1, none⟩ (.int .i64 x')) (w.heap.size + 1) 66 #[.int .i64 0, .int .i64 0] := (hB2.far (by simp) _).far (by simp) _
        have HS := Lib.hid hS
        have HS2 := Lib.hid hS2
        clear hrot hB hB2 hS hS2
        go_wp2
        exact ⟨⟨j + 1, b', a', b' - 1 - y', x', by omega, by go_num, rfl, rfl, HR.out, HS.out, HS2.out, (by (repeat (first | with_reducible exact Below.refl _ _ | with_reducible assumption | with_reducible apply bel_alloc | with_reducible apply bel_drew | with_reducible apply bel_drewN | ((with_reducible refine bel_set ?_ ?_); rotate_left; (simp <;> omega)) | (with_reducible refine bel_trans ?_ (by with_reducible assumption)))))⟩, by simp [intOf]; omega⟩
      · have hjr : j = r := by omega
        subst hjr
        have HV : Hid (carry a b x y m = (a', b', x', y')) := by show carry a b x y m = _; rw [HC.out, hrot]
        have hj1 : ¬ (j : Int) < (j : Int) := by omega
        clear hrot hB hB2
        go_wp2
        exact bodyPost_ret (v := .agg #[.int .i64 x', .int .i64 y']) (by simp [results, Tryz.results64, go_sem, d0, d1]) rfl ⟨by rw [HV.out], (by (repeat (first | with_reducible exact Below.refl _ _ | with_reducible assumption | with_reducible apply bel_alloc | with_reducible apply bel_drew | with_reducible apply bel_drewN | ((with_reducible refine bel_set ?_ ?_); rotate_left; (simp <;> omega)) | (with_reducible refine bel_trans ?_ (by with_reducible assumption)))))⟩
end Go.Proofs.YtoedmmhiinhljaaGreatDoor

/- Where motions carry places: the reference. -/
namespace Go.Proofs.YtoedmmhiinhljaaGreatDoor
open Go.RowKit
set_option linter.unusedVariables false
attribute [local go_sem ↓] Go.wp_at_zero Go.wp_at_succ
set_option maxHeartbeats 1600000 in
theorem l23Place_even (a b x y : Int) (m : Nat) (w : World) (hq : okQ (a, b, x, y)) (hm : m < 8) (hg : m % 2 = 0) :
    Calls Tryz.prog 56 #[.int .i64 a, .int .i64 b, .int .i64 x, .int .i64 y, .int .i64 (m : Int)] w (Ret w (.tuple #[.int .i64 (carry a b x y m).2.2.1, .int .i64 (carry a b x y m).2.2.2, .bool true])) := by
  obtain ⟨r, hr⟩ : ∃ r, m % 4 = r := ⟨_, rfl⟩
  have hr4 : r < 4 := by omega
  have hmr : (m : Int) % 4 = (r : Int) := by omega
  have hm0 : (0 : Int) ≤ (m : Int) := by omega
  have hm7 : (m : Int) ≤ 7 := by omega
  obtain ⟨h1, h2, h3, h4, h5, h6, h7, h8⟩ := id hq
  simp only at h1 h2 h3 h4 h5 h6 h7 h8
  have hok := okQ_start m hq
  have HC : Hid (carry a b x y m = rot r (startQ a b x y m)) := by show carry a b x y m = _; unfold carry; rw [hr]
  obtain ⟨x1, hx1⟩ : ∃ x1, (if 4 ≤ m then a - 1 - x else x) = x1 := ⟨_, rfl⟩
  have hst : startQ a b x y m = (a, b, x1, y) := by unfold startQ; rw [hx1]
  rw [hst] at hok
  have HST := Lib.hid hst
  have HOK := Lib.hid hok
  clear hst hok hr hq
  have hm2 : (m : Int) % 2 = 0 := by omega
  clear hg
  by_cases h4m : 4 ≤ m
  · rw [if_pos h4m] at hx1
    have h4i : (m : Int) ≥ 4 := by omega
    go_enter Tryz.func56, Tryz.ntmps56
    go_wp2
    go_loopw [13, 0, 1, 2, 3] (fun e13 e0 e1 e2 e3 wr => ∃ (j : Nat) (a' b' x' y' : Int), j ≤ r ∧ e13 = .int .i64 j ∧ e0 = .int .i64 a' ∧ e1 = .int .i64 b' ∧ e2 = .int .i64 x' ∧ e3 = .int .i64 y' ∧ rot j (startQ a b x y m) = (a', b', x', y') ∧ Below w.heap.size w wr) (fun e13 _ _ _ _ _ => r - (intOf e13).toNat)
    case atStart => exact ⟨0, a, b, x1, y, Nat.zero_le _, rfl, rfl, rfl, by rw [← hx1], rfl, HST.out, Below.refl _ _⟩
    case round =>
      obtain ⟨j, a', b', x', y', hj, rfl, rfl, rfl, rfl, rfl, hrot, hb⟩ := hrel
      have ho : okQ (a', b', x', y') := by rw [← hrot, HST.out]; exact okQ_rot HOK.out j
      obtain ⟨k1, k2, k3, k4, k5, k6, k7, k8⟩ := ho
      simp only at k1 k2 k3 k4 k5 k6 k7 k8
      by_cases hlt : j < r
      · have hj1 : (j : Int) < (r : Int) := by omega
        have HR := Lib.hid (rot_step j _ hrot)
        clear hrot
        go_wp2
        exact ⟨⟨j + 1, b', a', b' - 1 - y', x', by omega, by go_num, rfl, rfl, rfl, rfl, HR.out, hb⟩, by simp [intOf]; omega⟩
      · have hjr : j = r := by omega
        subst hjr
        have HV : Hid (carry a b x y m = (a', b', x', y')) := by show carry a b x y m = _; rw [HC.out, hrot]
        have hj1 : ¬ (j : Int) < (j : Int) := by omega
        clear hrot
        go_wp2
        exact bodyPost_ret (v := .tuple #[.int .i64 x', .int .i64 y', .bool true]) (by simp [results, Tryz.results56, go_sem]) rfl ⟨by rw [HV.out], hb⟩
  · rw [if_neg h4m] at hx1
    subst hx1
    have h4i : ¬ (m : Int) ≥ 4 := by omega
    go_enter Tryz.func56, Tryz.ntmps56
    go_wp2
    go_loopw [13, 0, 1, 2, 3] (fun e13 e0 e1 e2 e3 wr => ∃ (j : Nat) (a' b' x' y' : Int), j ≤ r ∧ e13 = .int .i64 j ∧ e0 = .int .i64 a' ∧ e1 = .int .i64 b' ∧ e2 = .int .i64 x' ∧ e3 = .int .i64 y' ∧ rot j (startQ a b x y m) = (a', b', x', y') ∧ Below w.heap.size w wr) (fun e13 _ _ _ _ _ => r - (intOf e13).toNat)
    case atStart => exact ⟨0, a, b, x, y, Nat.zero_le _, rfl, rfl, rfl, rfl, rfl, HST.out, Below.refl _ _⟩
    case round =>
      obtain ⟨j, a', b', x', y', hj, rfl, rfl, rfl, rfl, rfl, hrot, hb⟩ := hrel
      have ho : okQ (a', b', x', y') := by rw [← hrot, HST.out]; exact okQ_rot HOK.out j
      obtain ⟨k1, k2, k3, k4, k5, k6, k7, k8⟩ := ho
      simp only at k1 k2 k3 k4 k5 k6 k7 k8
      by_cases hlt : j < r
      · have hj1 : (j : Int) < (r : Int) := by omega
        have HR := Lib.hid (rot_step j _ hrot)
        clear hrot
        go_wp2
        exact ⟨⟨j + 1, b', a', b' - 1 - y', x', by omega, by go_num, rfl, rfl, rfl, rfl, HR.out, hb⟩, by simp [intOf]; omega⟩
      · have hjr : j = r := by omega
        subst hjr
        have HV : Hid (carry a b x y m = (a', b', x', y')) := by show carry a b x y m = _; rw [HC.out, hrot]
        have hj1 : ¬ (j : Int) < (j : Int) := by omega
        clear hrot
        go_wp2
        exact bodyPost_ret (v := .tuple #[.int .i64 x', .int .i64 y', .bool true]) (by simp [results, Tryz.results56, go_sem]) rfl ⟨by rw [HV.out], hb⟩
set_option maxHeartbeats 1600000 in
theorem l23Place_square (a b x y : Int) (m : Nat) (w : World) (hq : okQ (a, b, x, y)) (hm : m < 8) (hg : m % 2 = 1 ∧ a = b) :
    Calls Tryz.prog 56 #[.int .i64 a, .int .i64 b, .int .i64 x, .int .i64 y, .int .i64 (m : Int)] w (Ret w (.tuple #[.int .i64 (carry a b x y m).2.2.1, .int .i64 (carry a b x y m).2.2.2, .bool true])) := by
  obtain ⟨hg1, rfl⟩ := hg
  obtain ⟨r, hr⟩ : ∃ r, m % 4 = r := ⟨_, rfl⟩
  have hr4 : r < 4 := by omega
  have hmr : (m : Int) % 4 = (r : Int) := by omega
  have hm0 : (0 : Int) ≤ (m : Int) := by omega
  have hm7 : (m : Int) ≤ 7 := by omega
  obtain ⟨h1, h2, h3, h4, h5, h6, h7, h8⟩ := id hq
  simp only at h1 h2 h3 h4 h5 h6 h7 h8
  have hok := okQ_start m hq
  have HC : Hid (carry a a x y m = rot r (startQ a a x y m)) := by show carry a a x y m = _; unfold carry; rw [hr]
  obtain ⟨x1, hx1⟩ : ∃ x1, (if 4 ≤ m then a - 1 - x else x) = x1 := ⟨_, rfl⟩
  have hst : startQ a a x y m = (a, a, x1, y) := by unfold startQ; rw [hx1]
  rw [hst] at hok
  have HST := Lib.hid hst
  have HOK := Lib.hid hok
  clear hst hok hr hq
  have hm2 : (m : Int) % 2 = 1 := by omega
  clear hg1
  by_cases h4m : 4 ≤ m
  · rw [if_pos h4m] at hx1
    have h4i : (m : Int) ≥ 4 := by omega
    go_enter Tryz.func56, Tryz.ntmps56
    go_wp2
    go_loopw [13, 0, 1, 2, 3] (fun e13 e0 e1 e2 e3 wr => ∃ (j : Nat) (a' b' x' y' : Int), j ≤ r ∧ e13 = .int .i64 j ∧ e0 = .int .i64 a' ∧ e1 = .int .i64 b' ∧ e2 = .int .i64 x' ∧ e3 = .int .i64 y' ∧ rot j (startQ a a x y m) = (a', b', x', y') ∧ Below w.heap.size w wr) (fun e13 _ _ _ _ _ => r - (intOf e13).toNat)
    case atStart => exact ⟨0, a, a, x1, y, Nat.zero_le _, rfl, rfl, rfl, by rw [← hx1], rfl, HST.out, Below.refl _ _⟩
    case round =>
      obtain ⟨j, a', b', x', y', hj, rfl, rfl, rfl, rfl, rfl, hrot, hb⟩ := hrel
      have ho : okQ (a', b', x', y') := by rw [← hrot, HST.out]; exact okQ_rot HOK.out j
      obtain ⟨k1, k2, k3, k4, k5, k6, k7, k8⟩ := ho
      simp only at k1 k2 k3 k4 k5 k6 k7 k8
      by_cases hlt : j < r
      · have hj1 : (j : Int) < (r : Int) := by omega
        have HR := Lib.hid (rot_step j _ hrot)
        clear hrot
        go_wp2
        exact ⟨⟨j + 1, b', a', b' - 1 - y', x', by omega, by go_num, rfl, rfl, rfl, rfl, HR.out, hb⟩, by simp [intOf]; omega⟩
      · have hjr : j = r := by omega
        subst hjr
        have HV : Hid (carry a a x y m = (a', b', x', y')) := by show carry a a x y m = _; rw [HC.out, hrot]
        have hj1 : ¬ (j : Int) < (j : Int) := by omega
        clear hrot
        go_wp2
        exact bodyPost_ret (v := .tuple #[.int .i64 x', .int .i64 y', .bool true]) (by simp [results, Tryz.results56, go_sem]) rfl ⟨by rw [HV.out], hb⟩
  · rw [if_neg h4m] at hx1
    subst hx1
    have h4i : ¬ (m : Int) ≥ 4 := by omega
    go_enter Tryz.func56, Tryz.ntmps56
    go_wp2
    go_loopw [13, 0, 1, 2, 3] (fun e13 e0 e1 e2 e3 wr => ∃ (j : Nat) (a' b' x' y' : Int), j ≤ r ∧ e13 = .int .i64 j ∧ e0 = .int .i64 a' ∧ e1 = .int .i64 b' ∧ e2 = .int .i64 x' ∧ e3 = .int .i64 y' ∧ rot j (startQ a a x y m) = (a', b', x', y') ∧ Below w.heap.size w wr) (fun e13 _ _ _ _ _ => r - (intOf e13).toNat)
    case atStart => exact ⟨0, a, a, x, y, Nat.zero_le _, rfl, rfl, rfl, rfl, rfl, HST.out, Below.refl _ _⟩
    case round =>
      obtain ⟨j, a', b', x', y', hj, rfl, rfl, rfl, rfl, rfl, hrot, hb⟩ := hrel
      have ho : okQ (a', b', x', y') := by rw [← hrot, HST.out]; exact okQ_rot HOK.out j
      obtain ⟨k1, k2, k3, k4, k5, k6, k7, k8⟩ := ho
      simp only at k1 k2 k3 k4 k5 k6 k7 k8
      by_cases hlt : j < r
      · have hj1 : (j : Int) < (r : Int) := by omega
        have HR := Lib.hid (rot_step j _ hrot)
        clear hrot
        go_wp2
        exact ⟨⟨j + 1, b', a', b' - 1 - y', x', by omega, by go_num, rfl, rfl, rfl, rfl, HR.out, hb⟩, by simp [intOf]; omega⟩
      · have hjr : j = r := by omega
        subst hjr
        have HV : Hid (carry a a x y m = (a', b', x', y')) := by show carry a a x y m = _; rw [HC.out, hrot]
        have hj1 : ¬ (j : Int) < (j : Int) := by omega
        clear hrot
        go_wp2
        exact bodyPost_ret (v := .tuple #[.int .i64 x', .int .i64 y', .bool true]) (by simp [results, Tryz.results56, go_sem]) rfl ⟨by rw [HV.out], hb⟩
theorem l23Place_no (a b x y : Int) (m : Nat) (w : World) (hm : m < 8) (hg : m % 2 = 1) (hab : a ≠ b) :
    Calls Tryz.prog 56 #[.int .i64 a, .int .i64 b, .int .i64 x, .int .i64 y, .int .i64 (m : Int)] w (Ret w (.tuple #[.int .i64 0, .int .i64 0, .bool false])) := by
  have hm2 : (m : Int) % 2 = 1 := by omega
  have hm0 : (0 : Int) ≤ (m : Int) := by omega
  have e : (a == b) = false := beq_eq_false_iff_ne.2 hab
  clear hab
  go_enter Tryz.func56, Tryz.ntmps56
  go_wp2
  exact bodyPost_ret (v := .tuple #[.int .i64 0, .int .i64 0, .bool false]) (by simp [results, Tryz.results56, go_sem]) rfl ⟨rfl, (by (repeat (first | with_reducible exact Below.refl _ _ | with_reducible assumption | with_reducible apply bel_alloc | with_reducible apply bel_drew | with_reducible apply bel_drewN | ((with_reducible refine bel_set ?_ ?_); rotate_left; (simp <;> omega)) | (with_reducible refine bel_trans ?_ (by with_reducible assumption)))))⟩
end Go.Proofs.YtoedmmhiinhljaaGreatDoor

/- What a motion makes of a mask: the reference. -/
namespace Go.Proofs.YtoedmmhiinhljaaGreatDoor
open Go.RowKit
set_option linter.unusedVariables false
attribute [local go_sem ↓] Go.wp_at_zero Go.wp_at_succ
theorem l23Place_go (a b x y : Int) (m : Nat) (w : World) (hq : okQ (a, b, x, y)) (hm : m < 8) (hg : m % 2 = 0 ∨ a = b) :
    Calls Tryz.prog 56 #[.int .i64 a, .int .i64 b, .int .i64 x, .int .i64 y, .int .i64 (m : Int)] w (Ret w (.tuple #[.int .i64 (carry a b x y m).2.2.1, .int .i64 (carry a b x y m).2.2.2, .bool true])) := by
  rcases Nat.mod_two_eq_zero_or_one m with h | h
  · exact l23Place_even a b x y m w hq hm h
  · rcases hg with h2 | h2
    · omega
    · exact l23Place_square a b x y m w hq hm ⟨h, h2⟩
theorem grid_ok {n h k : Nat} (hn : 1 ≤ n ∧ n ≤ 6) (hh : 1 ≤ h ∧ h ≤ 6) (hk : k < n * h) : okQ ((n : Int), (h : Int), ((k % n : Nat) : Int), ((k / n : Nat) : Int)) := by
  have h1 : k % n < n := Nat.mod_lt _ (by omega)
  have h2 : k / n < h := Nat.div_lt_of_lt_mul hk
  generalize k % n = a at h1
  generalize k / n = b at h2
  unfold okQ
  simp only
  omega
theorem bit_test (m k : Nat) (hm : m < 2 ^ 62) : (bits .and .i64 ((m : Int) / 2 ^ k) 1 == 1) = m.testBit k := by
  have e : ((m : Int) / 2 ^ k) = ((m / 2 ^ k : Nat) : Int) := by simp
  have hle := Nat.div_le_self m (2 ^ k)
  have h1 := i64_and (m / 2 ^ k) 1 (by omega) (by decide)
  rw [e, show (1 : Int) = ((1 : Nat) : Int) from rfl, h1, Nat.and_one_is_mod, bit_and]
  cases m.testBit k <;> rfl
theorem pos_int {n h m : Nat} {x y : Int} (hq : okQ ((n : Int), (h : Int), x, y)) : (carry n h x y m).2.2.2 * (n : Int) + (carry n h x y m).2.2.1 = (((carry n h x y m).2.2.2 * n + (carry n h x y m).2.2.1).toNat : Int) := by
  have h1 := carry_small hq m
  unfold okQ at h1
  obtain ⟨_, _, _, _, h5, _, h7, _⟩ := h1
  have : 0 ≤ (carry n h x y m).2.2.2 * (n : Int) := Int.mul_nonneg h7 (by omega)
  omega
theorem l23Place_q (a b x y : Int) (m : Nat) (w : World) (hq : okQ (a, b, x, y)) (hm : m < 8) (hg : m % 2 = 0 ∨ a = b) {a' b' x' y' : Int} (he : carry a b x y m = (a', b', x', y')) :
    Calls Tryz.prog 56 #[.int .i64 a, .int .i64 b, .int .i64 x, .int .i64 y, .int .i64 (m : Int)] w (Ret w (.tuple #[.int .i64 x', .int .i64 y', .bool true])) := by
  have h := l23Place_go a b x y m w hq hm hg
  rw [he] at h
  exact h
set_option maxHeartbeats 1600000 in
theorem l23Turn_s (n : Nat) (A : Option Addr) (h c : Nat) (rows : List Int) (mask m : Nat) (w : World) (hr : Rd w A (vI rows)) (hl : rows.length = h) (hn : 1 ≤ n ∧ n ≤ 6) (hh : 1 ≤ h ∧ h ≤ 6) (hm : m < 8) (hg : goesM n h m = true) (hmask : mask < 2 ^ 62) :
    Calls Tryz.prog 37 #[.agg #[.int .i64 (n : Int), .slice A h c], .int .i64 (mask : Int), .int .i64 (m : Int)] w (Ret w (.tuple #[.int .i64 (turnTo n h m mask (n * h) : Nat), .bool true])) := by
  obtain ⟨hp1, hp2⟩ := pos_ok hn hh hm hg
  have hg2 : m % 2 = 0 ∨ (n : Int) = (h : Int) := by
    unfold goesM at hg
    simp only [Bool.or_eq_true, beq_iff_eq] at hg
    omega
  obtain ⟨N, hN⟩ : ∃ N, n * h = N := ⟨_, rfl⟩
  have h36 : n * h ≤ 6 * 6 := Nat.mul_le_mul hn.2 hh.2
  have hNi : (n : Int) * (h : Int) = (N : Int) := by rw [← hN]; simp
  have HP1 := Lib.hid hp1
  have HP2 := Lib.hid hp2
  have HG := Lib.hid hg2
  have HN := Lib.hid hN
  have hN36 : N ≤ 36 := by omega
  obtain ⟨hn1, hn6⟩ := hn
  obtain ⟨hh1, hh6⟩ := hh
  clear hp1 hp2 hg2 hg hl hN h36
  go_enter Tryz.func37, Tryz.ntmps37
  go_wp2
  go_loopw [9, 8] (fun i t wr => ∃ k v : Nat, k ≤ N ∧ i = .int .i64 k ∧ t = .int .i64 v ∧ v = turnTo n h m mask k ∧ Below (w.alloc (.cells #[.int .i64 (n : Int), .slice A h c] 29)).heap.size (w.alloc (.cells #[.int .i64 (n : Int), .slice A h c] 29)) wr) (fun i _ _ => N - (intOf i).toNat)
  case atStart => exact ⟨0, 0, Nat.zero_le _, rfl, rfl, rfl, Below.refl _ _⟩
  case round =>
    obtain ⟨k, v, hk, rfl, rfl, hv, hb⟩ := hrel
    have hB := (Blk.new w 29 #[.int .i64 (n : Int), .slice A h c]).below hb
    have d0 : wr.cell? ⟨w.heap.size, 0, none⟩ = some (.int .i64 (n : Int)) := by simpa using hB.cell 0
    have d1 : wr.cell? ⟨w.heap.size, 1, none⟩ = some (.slice A h c) := by simpa using hB.cell 1
    have hgw := hB.lt
    clear hB
    by_cases hlt : k < N
    · have hk0 : (0 : Int) ≤ (k : Int) := by omega
      have hk1 : (k : Int) < (N : Int) := by omega
      have hkn : k < n * h := by rw [HN.out]; exact hlt
      have hgrid := Lib.hid (grid_ok ⟨hn1, hn6⟩ ⟨hh1, hh6⟩ hkn)
      obtain ⟨xk, hxk⟩ : ∃ xk, k % n = xk := ⟨_, rfl⟩
      obtain ⟨yk, hyk⟩ : ∃ yk, k / n = yk := ⟨_, rfl⟩
      have e1 : (k : Int) % (n : Int) = (xk : Int) := by rw [← hxk]; rfl
      have e2 : (k : Int) / (n : Int) = (yk : Int) := by rw [← hyk]; rfl
      have e3 : (k : Int).tmod (n : Int) = (xk : Int) := by rw [Int.tmod_eq_emod_of_nonneg hk0]; exact e1
      have e4 : (k : Int).tdiv (n : Int) = (yk : Int) := by rw [Int.tdiv_eq_ediv_of_nonneg hk0]; exact e2
      have hyk36 : yk ≤ 36 := by rw [← hyk]; have := Nat.div_le_self k n; omega
      have e5 : IntKind.i64.wrap (yk : Int) = (yk : Int) := Go.IntWalk.i64_in _ (by omega)
      have hn0 : ((n : Int) == 0) = false := beq_eq_false_iff_ne.2 (by omega)
      have hn00 : ¬ (n : Int) = 0 := by omega
      have hgr : Hid (okQ ((n : Int), (h : Int), (xk : Int), (yk : Int))) := by rw [← hxk, ← hyk]; exact hgrid.out
      have hnn : ¬ n = 0 := by omega
      have hxk36 : xk ≤ 36 := by rw [← hxk]; have := Nat.mod_lt k (show 0 < n by omega); omega
      have e6 : IntKind.i64.wrap (xk : Int) = (xk : Int) := Go.IntWalk.i64_in _ (by omega)
      clear hgrid
      have HV := Lib.hid hv
      clear hv hkn
      have hbit : (bits .and .i64 ((mask : Int) / 2 ^ k) 1 == 1) = mask.testBit k := bit_test mask k hmask
      have hpos := pos_int (m := m) hgr.out
      have hposk : pos n h m k = ((carry n h xk yk m).2.2.2 * n + (carry n h xk yk m).2.2.1).toNat := by unfold pos; rw [hxk, hyk]
      have hcs := carry_small hgr.out m
      obtain ⟨⟨a', b', x', y'⟩, hq4⟩ : ∃ q, carry n h xk yk m = q := ⟨_, rfl⟩
      rw [hq4] at hpos hposk hcs
      rw [← hposk] at hpos
      have hjN := HP1.out k (by rw [HN.out]; exact hlt)
      have hturn : turnTo n h m mask (k + 1) = v + (if mask.testBit k then 2 ^ pos n h m k else 0) := by rw [HV.out]; rfl
      have hvlt := (turn_bits (mask := mask) HP2.out HP1.out (by rw [HN.out]; exact hN36) k (by rw [HN.out]; omega)).1
      rw [← HV.out] at hvlt
      rw [HN.out] at hvlt hjN
      generalize pos n h m k = j at hpos hposk hjN hturn
      obtain ⟨z, hz⟩ : ∃ z : Int, y' * (n : Int) = z := ⟨_, rfl⟩
      have hzj : z + x' = (j : Int) := by rw [← hz]; exact hpos
      have h2N : (2 : Nat) ^ N ≤ 2 ^ 36 := Nat.pow_le_pow_right (by decide) hN36
      have h2j : (2 : Nat) ^ j < 2 ^ 36 := Nat.pow_lt_pow_right (by decide) (by omega)
      obtain ⟨t, ht⟩ : ∃ t : Nat, 2 ^ j = t := ⟨_, rfl⟩
      have htI : (2 : Int) ^ j = (t : Int) := by rw [← ht]; simp
      rw [ht] at h2j hturn
      have hj64 : (j : Int) ≤ 64 := by omega
      have hj0 : (0 : Int) ≤ (j : Int) := by omega
      unfold okQ at hcs
      simp only at hcs
      obtain ⟨k1, k2, k3, k4, k5, k6, k7, k8⟩ := hcs
      have hz0 : 0 ≤ z := by rw [← hz]; exact Int.mul_nonneg k7 (by omega)
      have hz36 : 0 ≤ z ∧ z ≤ 36 := by constructor <;> omega
      have HQ4 := Lib.hid hq4
      clear hq4 hposk hpos
      cases hb1 : mask.testBit k with
      | true =>
        rw [hb1] at hbit
        rw [hb1, if_pos rfl] at hturn
        have HT := Lib.hid hturn
        clear hturn hb1
        go_wp2_with fail
        (refine wp_region_below (by kernel_rfl) (by kernel_rfl) ?_; (repeat (first | go_big_quiet_skip | (refine quietV (v := ?_) (by rfl) rfl (fun w' hbw => ?_) ?_; rotate_left; ((try dsimp only at hbw); have hbc := (bcell hbw).1; have hbf := (bcell hbw).2; go_simp; first | done | with_reducible rfl | (exact callsB (v := .tuple #[.int .i64 x', .int .i64 y', .bool true]) (l23Place_q _ _ _ _ m _ hgr.out hm HG.out HQ4.out) hbw)); simp only [List.setIfInBounds_toArray, List.set_cons_zero, List.set_cons_succ]))); refine wpQuiet_nil ?_; intro wq hbq)
        have y0 := keep_below hbq d0
        go_wp2_with fail
        exact ⟨⟨k + 1, v + t, by omega, by go_num, by go_num, HT.out.symm, (by (repeat (first | with_reducible exact Below.refl _ _ | with_reducible assumption | with_reducible apply bel_alloc | with_reducible apply bel_drew | with_reducible apply bel_drewN | ((with_reducible refine bel_set ?_ ?_); rotate_left; (simp <;> omega)) | (with_reducible refine bel_trans ?_ (by with_reducible assumption)))))⟩, by simp [intOf]; omega⟩
      | false =>
        rw [hb1] at hbit
        rw [hb1] at hturn
        have HT := Lib.hid (hturn.trans (Nat.add_zero _))
        clear hturn hb1
        go_wp2_with fail
        (refine wp_region_below (by kernel_rfl) (by kernel_rfl) ?_; (repeat (first | go_big_quiet_skip | (refine quietV (v := ?_) (by rfl) rfl (fun w' hbw => ?_) ?_; rotate_left; ((try dsimp only at hbw); have hbc := (bcell hbw).1; have hbf := (bcell hbw).2; go_simp; first | done | with_reducible rfl | (exact callsB (v := .tuple #[.int .i64 x', .int .i64 y', .bool true]) (l23Place_q _ _ _ _ m _ hgr.out hm HG.out HQ4.out) hbw)); simp only [List.setIfInBounds_toArray, List.set_cons_zero, List.set_cons_succ]))); refine wpQuiet_nil ?_; intro wq hbq)
        go_wp2_with fail
        exact ⟨⟨k + 1, v, by omega, by go_num, rfl, HT.out.symm, (by (repeat (first | with_reducible exact Below.refl _ _ | with_reducible assumption | with_reducible apply bel_alloc | with_reducible apply bel_drew | with_reducible apply bel_drewN | ((with_reducible refine bel_set ?_ ?_); rotate_left; (simp <;> omega)) | (with_reducible refine bel_trans ?_ (by with_reducible assumption)))))⟩, by simp [intOf]; omega⟩
    · have hkN : k = N := by omega
      subst hkN
      have HV : Hid (v = turnTo n h m mask (n * h)) := by rw [HN.out]; exact hv
      have hk1 : ¬ (k : Int) < (k : Int) := by omega
      clear hv
      go_wp2
      go_ret2
      exact ⟨by rw [← HV.out]; rfl, (by (repeat (first | with_reducible exact Below.refl _ _ | with_reducible assumption | with_reducible apply bel_alloc | with_reducible apply bel_drew | with_reducible apply bel_drewN | ((with_reducible refine bel_set ?_ ?_); rotate_left; (simp <;> omega)) | (with_reducible refine bel_trans ?_ (by with_reducible assumption)))))⟩
set_option maxHeartbeats 800000 in
theorem l23Turn_no (n : Nat) (A : Option Addr) (h c : Nat) (mask : Int) (m : Nat) (w : World) (hn : 1 ≤ n ∧ n ≤ 6) (hh : 1 ≤ h ∧ h ≤ 6) (hm : m < 8) (hg : goesM n h m = false) :
    Calls Tryz.prog 37 #[.agg #[.int .i64 (n : Int), .slice A h c], .int .i64 mask, .int .i64 (m : Int)] w (Ret w (.tuple #[.int .i64 0, .bool false])) := by
  have hg2 : m % 2 = 1 ∧ (n : Int) ≠ (h : Int) := by
    unfold goesM at hg
    simp only [Bool.or_eq_false_iff, beq_eq_false_iff_ne] at hg
    omega
  obtain ⟨N, hN⟩ : ∃ N, n * h = N := ⟨_, rfl⟩
  have hNi : (n : Int) * (h : Int) = (N : Int) := by rw [← hN]; simp
  have hN36 : N ≤ 36 := by have : n * h ≤ 6 * 6 := Nat.mul_le_mul hn.2 hh.2; omega
  have hN1 : (0 : Int) < (N : Int) := by have : 1 * 1 ≤ n * h := Nat.mul_le_mul hn.1 hh.1; omega
  have HG := Lib.hid hg2
  obtain ⟨hn1, hn6⟩ := hn
  obtain ⟨hh1, hh6⟩ := hh
  have hnn : ¬ n = 0 := by omega
  clear hg2 hg hN
  go_enter Tryz.func37, Tryz.ntmps37
  go_wp2
  go_loopw [9, 8] (fun i t wr => i = .int .i64 0 ∧ t = .int .i64 0 ∧ Below (w.alloc (.cells #[.int .i64 (n : Int), .slice A h c] 29)).heap.size (w.alloc (.cells #[.int .i64 (n : Int), .slice A h c] 29)) wr) (fun _ _ _ => 0)
  case atStart => exact ⟨rfl, rfl, Below.refl _ _⟩
  case round =>
    obtain ⟨rfl, rfl, hb⟩ := hrel
    have hB := (Blk.new w 29 #[.int .i64 (n : Int), .slice A h c]).below hb
    have d0 : wr.cell? ⟨w.heap.size, 0, none⟩ = some (.int .i64 (n : Int)) := by simpa using hB.cell 0
    have d1 : wr.cell? ⟨w.heap.size, 1, none⟩ = some (.slice A h c) := by simpa using hB.cell 1
    have hgw := hB.lt
    clear hB
    go_wp2_with fail
    (refine wp_region_below (by kernel_rfl) (by kernel_rfl) ?_; (repeat (first | go_big_quiet_skip | (refine quietV (v := ?_) (by rfl) rfl (fun w' hbw => ?_) ?_; rotate_left; ((try dsimp only at hbw); have hbc := (bcell hbw).1; have hbf := (bcell hbw).2; go_simp; first | done | with_reducible rfl | (exact callsB (v := .tuple #[.int .i64 0, .int .i64 0, .bool false]) (l23Place_no _ _ _ _ m _ hm HG.out.1 HG.out.2) hbw)); simp only [List.setIfInBounds_toArray, List.set_cons_zero, List.set_cons_succ]))); refine wpQuiet_nil ?_; intro wq hbq)
    go_wp2_with fail
    go_ret2
    exact ⟨rfl, (by (repeat (first | with_reducible exact Below.refl _ _ | with_reducible assumption | with_reducible apply bel_alloc | with_reducible apply bel_drew | with_reducible apply bel_drewN | ((with_reducible refine bel_set ?_ ?_); rotate_left; (simp <;> omega)) | (with_reducible refine bel_trans ?_ (by with_reducible assumption)))))⟩
end Go.Proofs.YtoedmmhiinhljaaGreatDoor

/- Plain functions on cells: the board, neighbours, growth. No program is in sight. -/
namespace Go.Proofs.YtoedmmhiinhljaaGreatDoor
open Go.RowKit
set_option linter.unusedVariables false

def hasC (s : List C) (x y : Int) : Bool := s.any fun c => c.1 == x && c.2 == y
def onB (c : C) : Bool := (decide (0 ≤ c.1) && decide (c.1 ≤ 7)) && (decide (0 ≤ c.2) && decide (c.2 ≤ 7))
/-- Two cells have a side in common: as the reference reckons it, as the program does. -/
def nearS (a b : C) : Bool := wrap64 (wrap64 (wrap64 (a.1 - b.1) * wrap64 (a.1 - b.1)) + wrap64 (wrap64 (a.2 - b.2) * wrap64 (a.2 - b.2))) == 1
def nearI (a b : C) : Bool :=
  wrap64 ((if wrap64 (a.1 - b.1) < wrap64 (b.1 - a.1) then wrap64 (b.1 - a.1) else wrap64 (a.1 - b.1)) + (if wrap64 (a.2 - b.2) < wrap64 (b.2 - a.2) then wrap64 (b.2 - a.2) else wrap64 (a.2 - b.2))) == 1
def near (a b : C) : Bool := decide ((a.1 - b.1).natAbs + (a.2 - b.2).natAbs = 1)
def small (c : C) : Prop := (-1000 ≤ c.1 ∧ c.1 ≤ 1000) ∧ (-1000 ≤ c.2 ∧ c.2 ≤ 1000)
theorem small_of_onB {c : C} (h : onB c = true) : small c := by
  simp [onB] at h
  unfold small
  omega
theorem near_symm (a b : C) : near a b = near b a := by
  unfold near
  congr 1
  simp only [eq_iff_iff]
  omega
theorem nearI_eq {a b : C} (ha : small a) (hb : small b) : nearI a b = near a b := by
  unfold small at ha hb
  unfold nearI near
  rw [IntWalk.wrap64_in (a.1 - b.1) (by omega), IntWalk.wrap64_in (b.1 - a.1) (by omega), IntWalk.wrap64_in (a.2 - b.2) (by omega), IntWalk.wrap64_in (b.2 - a.2) (by omega)]
  rw [IntWalk.wrap64_in _ (by split <;> split <;> omega)]
  rw [Bool.eq_iff_iff, beq_iff_eq, decide_eq_true_eq]
  split <;> split <;> omega
theorem sq_small (d : Int) (h : -2000 ≤ d ∧ d ≤ 2000) : 0 ≤ d * d ∧ d * d ≤ 4000000 := by
  refine ⟨by rcases Int.le_total 0 d with h0 | h0; exact Int.mul_nonneg h0 h0; exact Int.mul_nonneg_of_nonpos_of_nonpos h0 h0, ?_⟩
  have h1 : d * d ≤ 2000 * 2000 := by
    rcases Int.le_total 0 d with h0 | h0
    · exact Int.mul_le_mul h.2 h.2 h0 (by omega)
    · have := Int.mul_le_mul (a := -d) (b := -d) (c := 2000) (d := 2000) (by omega) (by omega) (by omega) (by omega)
      rwa [Int.neg_mul_neg] at this
  omega
theorem sq_cases (d : Int) : d * d = 0 ∧ d = 0 ∨ d * d = 1 ∧ (d = 1 ∨ d = -1) ∨ 2 ≤ d * d ∧ (2 ≤ d ∨ d ≤ -2) := by
  rcases (by omega : d = 0 ∨ d = 1 ∨ d = -1 ∨ 2 ≤ d ∨ d ≤ -2) with h | h | h | h | h
  · left; subst h; simp
  · right; left; subst h; simp
  · right; left; subst h; simp
  · right; right
    have := Int.mul_le_mul (a := 2) (b := 2) (c := d) (d := d) h h (by omega) (by omega)
    omega
  · right; right
    have := Int.mul_le_mul (a := 2) (b := 2) (c := -d) (d := -d) (by omega) (by omega) (by omega) (by omega)
    rw [Int.neg_mul_neg] at this
    omega
theorem nearS_eq {a b : C} (ha : small a) (hb : small b) : nearS a b = near a b := by
  unfold small at ha hb
  unfold nearS near
  have h1 := sq_small (a.1 - b.1) (by omega)
  have h2 := sq_small (a.2 - b.2) (by omega)
  rw [IntWalk.wrap64_in (a.1 - b.1) (by omega), IntWalk.wrap64_in (a.2 - b.2) (by omega)]
  rw [IntWalk.wrap64_in ((a.1 - b.1) * (a.1 - b.1)) (by omega), IntWalk.wrap64_in ((a.2 - b.2) * (a.2 - b.2)) (by omega)]
  rw [IntWalk.wrap64_in _ (by omega)]
  rw [Bool.eq_iff_iff, beq_iff_eq, decide_eq_true_eq]
  have c1 := sq_cases (a.1 - b.1)
  have c2 := sq_cases (a.2 - b.2)
  omega
def touchI (l : List C) (c : C) : Bool := l.any fun d => nearI c d
def touchS (l : List C) (c : C) : Bool := l.any fun d => nearS d c
def touch (l : List C) (c : C) : Bool := l.any fun d => near c d
theorem any_congr' {α : Type} {p q : α → Bool} {l : List α} (h : ∀ x ∈ l, p x = q x) : l.any p = l.any q := by
  induction l with
  | nil => rfl
  | cons a t ih => simp only [List.any_cons, h a (by simp), ih (fun x hx => h x (by simp [hx]))]
theorem touchI_eq {l : List C} {c : C} (hl : ∀ d ∈ l, small d) (hc : small c) : touchI l c = touch l c := any_congr' fun d hd => nearI_eq hc (hl d hd)
theorem touchS_eq {l : List C} {c : C} (hl : ∀ d ∈ l, small d) (hc : small c) : touchS l c = touch l c := any_congr' fun d hd => by rw [nearS_eq (hl d hd) hc, near_symm]
theorem any_take {α : Type} (p : α → Bool) (xs : List α) (k : Nat) (hk : k < xs.length) : (xs.take (k + 1)).any p = ((xs.take k).any p || p xs[k]) := by
  rw [List.take_succ_eq_append_getElem hk, List.any_append]
  simp
theorem any_full {α : Type} (p : α → Bool) (xs : List α) (k : Nat) (hk : k < xs.length) (h : p xs[k] = true) : xs.any p = true := by
  rw [List.any_eq_true]; exact ⟨_, List.getElem_mem hk, h⟩

/-- The k-th cell may grow on those before it. -/
def growAt (l : List C) (k : Nat) (c : C) : Bool := onB c && !hasC (l.take k) c.1 c.2 && (k == 0 || touch (l.take k) c)
def growTo (l : List C) (k : Nat) : Bool := (List.range k).all fun i => growAt l i (l.getD i (0, 0))
def isGrowth (l : List C) : Bool := growTo l l.length && (decide (1 ≤ l.length) && decide (l.length ≤ 8))
theorem growTo_succ (l : List C) (k : Nat) (hk : k < l.length) : growTo l (k + 1) = (growTo l k && growAt l k l[k]) := by
  unfold growTo
  rw [List.range_succ, List.all_append]
  simp [List.getD_eq_getElem?_getD, hk]
theorem growTo_onB (l : List C) (k : Nat) (hk : k ≤ l.length) (h : growTo l k = true) : ∀ c ∈ l.take k, onB c = true := by
  intro c hc
  obtain ⟨i, hi, rfl⟩ := List.mem_iff_getElem.1 hc
  rw [List.length_take] at hi
  unfold growTo at h
  rw [List.all_eq_true] at h
  have := h i (by simp; omega)
  rw [List.getD_eq_getElem?_getD, List.getElem?_eq_getElem (by omega)] at this
  simp only [growAt, Option.getD_some, Bool.and_eq_true] at this
  rw [List.getElem_take]
  exact this.1.1
theorem isGrowth_no (l : List C) (k : Nat) (hk : k < l.length) (h : growAt l k l[k] = false) : isGrowth l = false := by
  have : growTo l l.length = false := by
    rw [Bool.eq_false_iff]
    intro ht
    unfold growTo at ht
    rw [List.all_eq_true] at ht
    have := ht k (by simp; omega)
    rw [List.getD_eq_getElem?_getD, List.getElem?_eq_getElem hk] at this
    simp only [Option.getD_some] at this
    rw [h] at this
    cases this
  unfold isGrowth
  rw [this]
  rfl
end Go.Proofs.YtoedmmhiinhljaaGreatDoor

/- What the program's and the reference's first functions on cells do: walks. -/
namespace Go.Proofs.YtoedmmhiinhljaaGreatDoor
open Go.RowKit
set_option linter.unusedVariables false
attribute [local go_sem ↓] Go.wp_at_zero Go.wp_at_succ

theorem onBoard_i (a b : Int) (w : World) : Calls Tryz.prog 77 #[.agg #[.int .i64 a, .int .i64 b]] w (Ret w (.bool (onB (a, b)))) := by
  by_cases h1 : 0 ≤ a ∧ a ≤ 7
  · have hv : onB (a, b) = (decide (0 ≤ b) && decide (b ≤ 7)) := by simp [onB, h1]
    have HV := Lib.hid hv
    clear hv
    go_enter Tryz.func77, Tryz.ntmps77
    go_wp2_with fail
    refine (between_t _ _ _ _ (by omega) (by omega)).mono ?_
    rintro e w1 ⟨rfl, hb1⟩
    have k2 : w1.cell? ⟨w.heap.size, 1, none⟩ = some (.int .i64 b) := by simpa using ((Blk.new w 66 #[.int .i64 a, .int .i64 b]).below hb1).cell 1
    go_wp2_with fail
    refine (between_b _ _ _ _ _ rfl).mono ?_
    rintro e w2 ⟨rfl, hb2⟩
    go_wp2_with fail
    go_ret
    exact ⟨by rw [HV.out]; rfl, (by (repeat (first | with_reducible exact Below.refl _ _ | with_reducible assumption | with_reducible apply bel_alloc | with_reducible apply bel_drew | with_reducible apply bel_drewN | ((with_reducible refine bel_set ?_ ?_); rotate_left; (simp <;> omega)) | (with_reducible refine bel_trans ?_ (by with_reducible assumption)))))⟩
  · have hv : onB (a, b) = false := by simp [onB]; omega
    have HV := Lib.hid hv
    clear hv
    go_enter Tryz.func77, Tryz.ntmps77
    go_wp2_with (go_at_call 62; refine (between_f _ _ _ _ h1).mono ?_; rintro e w1 ⟨rfl, hb1⟩)
    go_ret
    exact ⟨by rw [HV.out]; rfl, (by (repeat (first | with_reducible exact Below.refl _ _ | with_reducible assumption | with_reducible apply bel_alloc | with_reducible apply bel_drew | with_reducible apply bel_drewN | ((with_reducible refine bel_set ?_ ?_); rotate_left; (simp <;> omega)) | (with_reducible refine bel_trans ?_ (by with_reducible assumption)))))⟩
end Go.Proofs.YtoedmmhiinhljaaGreatDoor

/- A region that draws its order: operations that read and quiet calls, and a chain of operations that make or write memory. The quiet ones may be taken first. -/
namespace Go.Proofs.YtoedmmhiinhljaaGreatDoor
open Go.RowKit
/-- w' is w with more memory. -/
abbrev Ext (w w' : World) : Prop := Below w.heap.size w w'
section
variable {P : Program} {ops : Array Oper} {md : Region.Mode} {C : World → Prop} {Q : Exit → Act → World → Prop}
/-- In every world of the class o yields v and leaves that world, with more memory at most. -/
def Qt (P : Program) (ops : Array Oper) (C : World → Prop) (o : Oper) (v : Value) (a : Act) : Prop :=
  (Region.wanted o (yielded ops a.tmps) = true ∧ ∀ w, C w → o.quietAt P a (Ext w) w v) ∨ (Region.wanted o (yielded ops a.tmps) = false ∧ v = undef)
theorem Qt.same {o : Oper} {v : Value} {a a' : Act} (hy : Qt P ops C o v a) (he : execOp a'.eval o = execOp a.eval o)
    (hw : Region.wanted o (yielded ops a'.tmps) = Region.wanted o (yielded ops a.tmps)) : Qt P ops C o v a' := by
  unfold Qt Oper.quietAt at *
  rw [he, hw]
  exact hy
theorem Qt.wpOp {i : Nat} {o : Oper} {v : Value} {a : Act} {w : World} (hi : ops[i]? = some o) (hC : C w) (hy : Qt P ops C o v a) {K : Act → World → Prop} (h : ∀ w', Ext w w' → K (a.put o.dst v) w') : wpOp P ops Q i K a w := by
  unfold Go.wpOp
  simp only [hi]
  rcases hy with ⟨hw, hv⟩ | ⟨hw, rfl⟩
  · rw [if_pos hw]
    refine .inl ?_
    have h3 := hv w hC
    unfold Oper.quietAt at h3
    unfold Oper.wp
    generalize (execOp a.eval o).run P w = r at *
    cases r with
    | ok n w' =>
      cases n <;> simp only [Oper.quietUpon] at h3 <;> simp only [Oper.upon]
      case value u => rw [h3.1, h3.2]; exact h _ (Below.refl _ _)
      case skip => rw [h3.1, ← h3.2]; exact h _ (Below.refl _ _)
      case enter f args =>
        rw [h3.1]
        exact h3.2.mono fun e w'' he => by obtain ⟨he, hw''⟩ := he; subst he; exact h _ hw''
    | halt x w' => simp only [Oper.quietUpon] at h3
  · rw [if_neg (by rw [hw]; simp)]
    exact h _ (Below.refl _ _)
theorem wpOp_putQt {j : Nat} {oi oj : Oper} {v : Value} (hj : ops[j]? = some oj) (hap : oi.apart ops oj = true)
    (hsi : ∀ cs b, oi.op ≠ .select cs b) (hsj : ∀ cs b, oj.op ≠ .select cs b) (hQ : ∀ c a w, Q (.panic c) (a.put oi.dst v) w → Q (.panic c) a w) {K : Act → World → Prop} {a : Act} {w : World}
    (hy : Qt P ops C oi v a) (h : wpOp P ops Q j K (a.put oi.dst v) w) : wpOp P ops Q j (fun a' w' => Qt P ops C oi v a' ∧ K (a'.put oi.dst v) w') a w := by
  obtain ⟨h1, h2, h3⟩ := Oper.apart_spec hap
  have keep : ∀ (b : Act), Qt P ops C oi v b → ∀ u, Qt P ops C oi v (b.put oj.dst u) := fun b hb u => hb.same (execOp_put oi hsi b oj.dst u h3) (wanted_put oi b oj.dst u h3)
  have swap : ∀ (b : Act) u, Qt P ops C oi v b → K ((b.put oi.dst v).put oj.dst u) = K ((b.put oj.dst u).put oi.dst v) := fun b u _ => by rw [Act.put_comm b v u h2]
  unfold wpOp at *
  simp only [hj] at *
  rw [wanted_put oj a oi.dst v h1] at h
  by_cases hw : Region.wanted oj (yielded ops a.tmps) = true
  · rw [if_pos hw] at h ⊢
    rcases h with h | ⟨hasks, hlets⟩
    · refine .inl ?_
      unfold Oper.wp at *
      rw [execOp_put oj hsj a oi.dst v h1] at h
      generalize (execOp a.eval oj).run P w = r at *
      cases r with
      | ok n w' =>
        cases n <;> simp only [Oper.upon] at h ⊢
        case value u => exact ⟨keep a hy u, by rw [← swap a u hy]; exact h⟩
        case skip => exact ⟨keep a hy _, by rw [← swap a _ hy]; exact h⟩
        case defer d =>
          have hyd : Qt P ops C oi v { a with defers := d :: a.defers } := hy.same rfl rfl
          refine ⟨keep _ hyd _, ?_⟩
          rw [← swap _ _ hyd, ← Act.put_defers]
          exact h
        case enter f args =>
          refine Calls.mono h fun e w'' he => ?_
          cases e with
          | returned u => exact ⟨keep a hy u, by rw [← swap a u hy]; exact he⟩
          | panicked c => exact hQ _ _ _ he
          | outgrown => exact he
        case row row args => exact Rows.mono h fun u w'' he => ⟨keep a hy u, by rw [← swap a u hy]; exact he⟩
      | halt x w' =>
        cases x <;> simp only [Oper.upon] at h ⊢
        case panic u => exact hQ _ _ _ h
    · exact .inr ⟨by unfold Oper.asks at *; rw [execOp_put oj hsj a oi.dst v h1] at hasks; exact hasks, hlets⟩
  · rw [if_neg hw] at h ⊢
    exact ⟨keep a hy _, by rw [← swap a _ hy]; exact h⟩

/-- Whatever order is picked; more memory may come at any time; the class holds throughout. -/
def wpRg (P : Program) (md : Region.Mode) (ops : Array Oper) (C : World → Prop) (Q : Exit → Act → World → Prop) (f : Nat) (listed : Array Bool) (a : Act) (w : World) : Prop :=
  match f with
  | 0 => Region.ready md ops listed = [] ∧ ∀ w', C w' → Ext w w' → Q .normal a w'
  | f + 1 => (Region.ready md ops listed = [] → ∀ w', C w' → Ext w w' → Q .normal a w') ∧
    ∀ i ∈ Region.ready md ops listed, ∀ w', C w' → Ext w w' → wpOp P ops Q i (fun a' w'' => C w'' ∧ wpRg P md ops C Q f (listed.setIfInBounds i true) a' w'') a w'
theorem wpRg_ext {f : Nat} {listed : Array Bool} {a : Act} {w w1 : World} (h : wpRg P md ops C Q f listed a w) (he : Ext w w1) : wpRg P md ops C Q f listed a w1 := by
  cases f with
  | zero => exact ⟨h.1, fun w' hc h1 => h.2 w' hc (bel_trans he h1)⟩
  | succ f => exact ⟨fun hr w' hc h1 => h.1 hr w' hc (bel_trans he h1), fun i hi w' hc h1 => h.2 i hi w' hc (bel_trans he h1)⟩
theorem wpAny_of_wpRg (f : Nat) : ∀ (listed : Array Bool) (a : Act) (w : World), C w → wpRg P md ops C Q f listed a w → wpAny P md ops Q f listed a w := by
  induction f with
  | zero => intro listed a w hc h; exact ⟨h.1, h.2 w hc (Below.refl _ _)⟩
  | succ f ih =>
    intro listed a w hc h
    exact ⟨fun hr => h.1 hr w hc (Below.refl _ _), fun i hi => wpOp_mono (fun a' w' h' => ih _ a' w' h'.1 h'.2) (h.2 i hi w hc (Below.refl _ _))⟩
theorem wpRg_first {i : Nat} {oi : Oper} {v : Value} (hCE : ∀ w w', C w → Ext w w' → C w') (hi : ops[i]? = some oi) (hsel : ∀ (j : Nat) (o : Oper) cs b, ops[j]? = some o → o.op ≠ .select cs b)
    (hQ : ∀ c a w, Q (.panic c) (a.put oi.dst v) w → Q (.panic c) a w) (f : Nat) :
    ∀ (listed : Array Bool) (a : Act) (w : World),
      (∀ j oj, ops[j]? = some oj → j ≠ i → listed.getD j true = false → (∀ e ∈ oj.after, Region.binds md e = true → e.on ≠ i) → oi.apart ops oj = true) →
      i ∈ Region.ready md ops listed → Qt P ops C oi v a →
      wpRg P md ops C Q f (listed.setIfInBounds i true) (a.put oi.dst v) w → wpRg P md ops C Q (f + 1) listed a w := by
  induction f with
  | zero =>
    intro listed a w _ hr hy H
    refine ⟨fun e => absurd e (List.ne_nil_of_mem hr), fun j hj w' hc he => ?_⟩
    rcases Decidable.em (j = i) with e | e
    · subst e
      exact hy.wpOp hi hc fun w'' h2 => ⟨hCE _ _ hc h2, wpRg_ext H (bel_trans he h2)⟩
    · have := ready_mono hj e
      rw [H.1] at this
      cases this
  | succ f ih =>
    intro listed a w hfree hr hy H
    refine ⟨fun e => absurd e (List.ne_nil_of_mem hr), fun j hj w' hc he => ?_⟩
    rcases Decidable.em (j = i) with e | e
    · subst e
      exact hy.wpOp hi hc fun w'' h2 => ⟨hCE _ _ hc h2, wpRg_ext H (bel_trans he h2)⟩
    · obtain ⟨hjun, oj, hoj, hall⟩ := mem_ready.1 hj
      have hnot : ∀ e ∈ oj.after, Region.binds md e = true → e.on ≠ i := by
        intro e he hb heq
        have h1 := hall e he hb
        rw [heq, getD_both (mem_ready.1 hr).1] at h1
        cases h1
      have h2 := wpOp_putQt hoj (hfree j oj hoj e hjun hnot) (fun cs b => hsel i oi cs b hi) (fun cs b => hsel j oj cs b hoj) hQ hy (H.2 j (ready_mono hj e) w' hc he)
      refine wpOp_mono (fun a' w'' h3 => ⟨h3.2.1, ?_⟩) h2
      refine ih (listed.setIfInBounds j true) a' w'' (fun k ok hk hki hun' hno => ?_) (ready_mono hr (Ne.symm e)) h3.1 ?_
      · refine hfree k ok hk hki ?_ hno
        rcases Decidable.em (j = k) with ejk | ejk
        · rw [← ejk]; exact hjun
        · rwa [getD_set_ne true ejk] at hun'
      · rw [Array.setIfInBounds_comm _ _ e]
        exact h3.2.2

/-- The walk: quiet operations. -/
def wpHead (P : Program) (ops : Array Oper) (C : World → Prop) (L : Act → Prop) : List Oper → Act → Prop
  | [], a => L a
  | o :: rest, a => ∃ v, Qt P ops C o v a ∧ wpHead P ops C L rest (a.put o.dst v)
/-- The walk: the others, one behind the other; more memory may come before each. -/
def wpTail (P : Program) (ops : Array Oper) (C : World → Prop) (Q : Exit → Act → World → Prop) : List Oper → Act → World → Prop
  | [], a, w => ∀ w', C w' → Ext w w' → Q .normal a w'
  | o :: rest, a, w => ∀ w', C w' → Ext w w' → Region.wanted o (yielded ops a.tmps) = true ∧ o.wp P a w' (fun a' w'' => C w'' ∧ wpTail P ops C Q rest a' w'') Q
theorem wpTail_drawn {l : List Oper} {a : Act} {w : World} (h : wpTail P ops C Q l a w) : wpTail P ops C Q l a { w with drawn := w.drawn + 1 } := by
  cases l with
  | nil => exact fun w' hc he => h w' hc ⟨he.os, he.tape, he.output, he.size, he.block⟩
  | cons o r => exact fun w' hc he => h w' hc ⟨he.os, he.tape, he.output, he.size, he.block⟩
theorem wpRg_of_tail (l : List Oper) : ∀ (k : Nat) (listed : Array Bool) (a : Act) (w : World), (∀ j, l[j]? = ops[k + j]?) → Region.seqB md ops l.length k listed = true → wpTail P ops C Q l a w → wpRg P md ops C Q l.length listed a w := by
  induction l with
  | nil => intro k listed a w _ hB h; exact ⟨by simpa [Region.seqB] using hB, h⟩
  | cons o l ih =>
    intro k listed a w hl hB h
    have h0 : ops[k]? = some o := by simpa using (hl 0).symm
    simp only [List.length_cons, Region.seqB, Bool.and_eq_true, decide_eq_true_eq] at hB
    refine ⟨fun e => (by rw [hB.1] at e; cases e), fun i hi w' hc he => ?_⟩
    obtain rfl : i = k := by rw [hB.1] at hi; simpa using hi
    obtain ⟨hw, h1⟩ := h w' hc he
    unfold wpOp
    simp only [h0]
    rw [if_pos hw]
    exact .inl (Oper.wp_mono (fun a' w'' h2 => ⟨h2.1, ih (i + 1) _ a' w'' (fun j => by have := hl (j + 1); simpa [Nat.add_assoc, Nat.add_comm 1 j] using this) hB.2 h2.2⟩) h1)
theorem wpRg_of_head {g n : Nat} {L : Act → Prop} {w : World} (hCE : ∀ w w', C w → Ext w w' → C w') (hsel : Region.noSelect ops = true) (hQ : ∀ (d : Option Tmp) v c a w, Q (.panic c) (a.put d v) w → Q (.panic c) a w)
    (hL : ∀ listed a, Region.seqB md ops g n listed = true → L a → wpRg P md ops C Q g listed a w) (l : List Oper) :
    ∀ (k : Nat) (listed : Array Bool) (a : Act), (∀ j, j < l.length → l[j]? = ops[k + j]?) → k + l.length = n → Region.lexHead md ops g l.length k listed = true → wpHead P ops C L l a → wpRg P md ops C Q (l.length + g) listed a w := by
  induction l with
  | nil =>
    intro k listed a _ hk hB h
    have e : k = n := by simpa using hk
    rw [e] at hB
    rw [List.length_nil, Nat.zero_add]
    exact hL _ _ (by simpa [Region.lexHead] using hB) h
  | cons o l ih =>
    intro k listed a hl hk hB h
    have h0 : ops[k]? = some o := by simpa using (hl 0 (by simp)).symm
    simp only [List.length_cons, Region.lexHead, Bool.and_eq_true] at hB hk
    have hr : k ∈ Region.ready md ops listed := by simpa using hB.1.1
    obtain ⟨v, hy, hK⟩ := h
    rw [List.length_cons, Nat.add_right_comm]
    refine wpRg_first hCE h0 (Region.noSelect_spec hsel) (hQ _ _) _ listed a w (Region.free_spec h0 hB.1.2) hr hy ?_
    refine ih (k + 1) _ _ (fun j hj => ?_) (by omega) hB.2 hK
    have := hl (j + 1) (by simp; omega)
    simpa [Nat.add_assoc, Nat.add_comm 1 j] using this
end
section
variable {P : Program} {C : World → Prop} {ops : Array Oper}
theorem wp_region_tail {id : Nat} {Q : Exit → Act → World → Prop} {a : Act} {w : World} {l : List Oper} (n : Nat) (hm : P.follows .mixedOrders = true) (hB : (Region.noSelect l.toArray && decide (n < l.length) && Region.lexHead .any l.toArray (l.length - n) n 0 (Array.replicate l.length false)) = true)
    (hQ : ∀ (d : Option Tmp) v c a w, Q (.panic c) (a.put d v) w → Q (.panic c) a w) (hC : C { w with drawn := w.drawn + 1 }) (hCE : ∀ w w', C w → Ext w w' → C w')
    (h : wpHead P l.toArray C (fun a' => wpTail P l.toArray C Q (l.drop n) a' w) (l.take n) a) : (Code.region id l.toArray true).wp P Q a w := by
  simp only [Bool.and_eq_true, decide_eq_true_eq] at hB
  obtain ⟨⟨hsel, hn⟩, hlex⟩ := hB
  have htl : (l.take n).length = n := by simp; omega
  have hdl : (l.drop n).length = l.length - n := by simp
  refine wp_region_any hm (wpAny_of_wpRg _ _ _ _ hC ?_)
  have H := wpRg_of_head (md := .any) (g := l.length - n) (n := n) (w := { w with drawn := w.drawn + 1 }) hCE hsel hQ (fun listed a' hs hL => by
    have h4 : wpTail P l.toArray C Q (l.drop n) a' { w with drawn := w.drawn + 1 } := wpTail_drawn hL
    have h3 := wpRg_of_tail (ops := l.toArray) (md := .any) (l.drop n) n listed a' { w with drawn := w.drawn + 1 } (fun j => by simp [List.getElem?_drop]) (by rw [hdl]; exact hs) h4
    rwa [hdl] at h3) (l.take n) 0 (Array.replicate l.length false) a (fun j hj => by rw [htl] at hj; simp [hj]) (by simpa using htl) (by rw [htl]; exact hlex) h
  rw [htl, show n + (l.length - n) = l.length by omega] at H
  simpa using H
theorem headV {L : Act → Prop} {o : Oper} {rest : List Oper} {ts : Array Value} {ds : List Deferred} {v : Value} {d : Nat} (hw : Region.wanted o (yielded ops ts) = true) (hd : o.dst = some d) (h1 : ∀ w', C w' → o.quietAt P { tmps := ts, defers := ds } (Ext w') w' v)
    (h2 : wpHead P ops C L rest { tmps := ts.setIfInBounds d v, defers := ds }) : wpHead P ops C L (o :: rest) { tmps := ts, defers := ds } :=
  ⟨v, .inl ⟨hw, h1⟩, by rw [hd]; exact h2⟩
theorem headSkip {L : Act → Prop} {o : Oper} {rest : List Oper} {ts : Array Value} {ds : List Deferred} {d : Nat} (hw : Region.wanted o (yielded ops ts) = false) (hd : o.dst = some d)
    (h2 : wpHead P ops C L rest { tmps := ts.setIfInBounds d undef, defers := ds }) : wpHead P ops C L (o :: rest) { tmps := ts, defers := ds } :=
  ⟨undef, .inr ⟨hw, rfl⟩, by rw [hd]; exact h2⟩
theorem tailV {Q : Exit → Act → World → Prop} {o : Oper} {rest : List Oper} {a : Act} {w : World} (hw : Region.wanted o (yielded ops a.tmps) = true) (h : ∀ w', C w' → Ext w w' → o.wp P a w' (fun a' w'' => C w'' ∧ wpTail P ops C Q rest a' w'') Q) : wpTail P ops C Q (o :: rest) a w :=
  fun w' hc he => ⟨hw, h w' hc he⟩
theorem tailK {Q : Exit → Act → World → Prop} {o : Oper} {rest : List Oper} {a : Act} {w : World} (hw : Region.wanted o (yielded ops a.tmps) = true)
    (h : ∀ w', C w' → Ext w w' → ∀ K : Act → World → Prop, (∀ a' w'', C w'' → wpTail P ops C Q rest a' w'' → K a' w'') → o.wp P a w' K Q) : wpTail P ops C Q (o :: rest) a w :=
  fun w' hc he => ⟨hw, h w' hc he _ fun _ _ h1 h2 => ⟨h1, h2⟩⟩
theorem wp_region_tailN {id : Nat} {Q : Exit → Act → World → Prop} {a : Act} {w : World} {l : List Oper} (n : Nat) (hm : P.follows .mixedOrders = true) (hB : (Region.noSelect l.toArray && decide (n < l.length) && Region.lexHead .any l.toArray (l.length - n) n 0 (Array.replicate l.length false)) = true)
    (hC : C { w with drawn := w.drawn + 1 }) (hCE : ∀ w w', C w → Ext w w' → C w')
    (h : wpHead P l.toArray C (fun a' => wpTail P l.toArray C (NoPanic Q) (l.drop n) a' w) (l.take n) a) : (Code.region id l.toArray true).wp P Q a w :=
  wp_region_noPanic (wp_region_tail n hm hB (fun _ _ _ _ _ h => h) hC hCE h)
/-- A call's contract in a quiet place. -/
theorem callsX {f : FuncId} {args : Array Value} {w' : World} {v : Value} (h : Calls P f args w' (Ret w' v)) : Calls P f args w' (fun e w'' => e = .returned v ∧ Ext w' w'') := h.mono fun _ _ h2 => ⟨h2.1, h2.2⟩
/-- The class for an append onto a row of the call's own: all else is as it was. -/
def Gr (w : World) (A : Option Addr) (w' : World) : Prop := w.grownBy w' (ob A)
theorem Gr.drawn (w : World) (A : Option Addr) : Gr w A { w with drawn := w.drawn + 1 } := ⟨rfl, rfl, rfl, Nat.le_refl _, fun _ _ _ => rfl⟩
theorem Gr.ext {w : World} {A : Option Addr} {w1 w2 : World} (h : Gr w A w1) (he : Ext w1 w2) : Gr w A w2 :=
  ⟨he.os.trans h.os, he.tape.trans h.tape, he.output.trans h.output, Nat.le_trans h.size he.size, fun k hk hne => (he.block k (Nat.lt_of_lt_of_le hk h.size)).trans (h.block k hk hne)⟩
theorem Gr.trans {w : World} {A : Option Addr} {w1 w2 : World} (h : Gr w A w1) (k : w1.grownBy w2 (ob A)) : Gr w A w2 :=
  ⟨k.os.trans h.os, k.tape.trans h.tape, k.output.trans h.output, Nat.le_trans h.size k.size, fun b hb hne => (k.block b (Nat.lt_of_lt_of_le hb h.size) hne).trans (h.block b hb hne)⟩
theorem Gr.cells {w w' : World} {A : Option Addr} (h : Gr w A w') : ∀ b o, b < w.heap.size → some b ≠ ob A → w'.cell? ⟨b, o, none⟩ = w.cell? ⟨b, o, none⟩ := fun b _ hb hne => World.cell?_of_block (h.block b hb hne)
/-- The class where nothing that was there is written. -/
def ExC (w w' : World) : Prop := Below w.heap.size w w'
theorem ExC.drawn (w : World) : ExC w { w with drawn := w.drawn + 1 } := ⟨rfl, rfl, rfl, Nat.le_refl _, fun _ _ => rfl⟩
theorem ExC.ext {w w1 w2 : World} (h : ExC w w1) (he : Ext w1 w2) : ExC w w2 := bel_trans h he
theorem ExC.cells {w w' : World} (h : ExC w w') : ∀ b o, b < w.heap.size → w'.cell? ⟨b, o, none⟩ = w.cell? ⟨b, o, none⟩ := (bcell h).1
theorem Gr.cell {w w' : World} {A : Option Addr} {b : Nat} (h : Gr w A w') (hb : b < w.heap.size) (hne : some b ≠ ob A) (o : Nat) : w'.cell? ⟨b, o, none⟩ = w.cell? ⟨b, o, none⟩ :=
  World.cell?_of_block (h.block b hb hne)
end
end Go.Proofs.YtoedmmhiinhljaaGreatDoor

/- An append of cells by an operation taken alone. -/
namespace Go.Proofs.YtoedmmhiinhljaaGreatDoor
open Go.RowKit
set_option linter.unusedVariables false
section
variable (w : World) {ops : Array Oper} {rest : List Oper} {o : Oper} {a : Act} {Q : Exit → Act → World → Prop}
theorem wpC (s x : Operand) {K : Act → World → Prop} (ho : o.op = .call { callee := .builtin .append, args := #[s, x], argTypes := #[51, 51] })
    (base : Nat) (A : Option Addr) (n c : Nat) (l : List C) (hs : a.eval s = .slice A n c) (hown : w.ownsRow base 66 2 (.slice A n c) n (vC l))
    (A2 : Option Addr) (m c2 : Nat) (l2 : List C) (hx : a.eval x = .slice A2 m c2) (hr : Rd w A2 (vC l2)) (hl : l2.length = m) (hb : n + m ≤ 1099511627776) (hbase : base ≤ w.heap.size)
    (h : ∀ A' c' w', w'.ownsRow base 66 2 (.slice A' (n + m) c') (n + m) (vC (l ++ l2)) → w.grownBy w' (ob A) → (ob A' = ob A ∨ ob A' = some w.heap.size) → K (a.put o.dst (.slice A' (n + m) c')) w') :
    o.wp Tryz.prog a w K Q := by
  obtain ⟨i0, hi, hz0, hz1, hz2⟩ := info_parts infoC
  refine wp_app w s x _ ho base _ i0 _ 2 16 Tryz.underlying51 hi hz0 hz1 hz2 rfl (by omega) A n c _ hs hown A2 m c2 _ hx hr (by rw [vC_length, hl]) (vC_one _) (by unfold maxLen; omega) (by omega) hbase ?_
  intro A' c' w' h1
  rw [← vC_append] at h1
  exact h A' c' w' h1
end
end Go.Proofs.YtoedmmhiinhljaaGreatDoor

/- The places of a mask: the program. -/
namespace Go.Proofs.YtoedmmhiinhljaaGreatDoor
open Go.RowKit
set_option linter.unusedVariables false
attribute [local go_sem ↓] Go.wp_at_zero Go.wp_at_succ
/-- The places of the bits below k, in order. -/
def plTo (n mask : Nat) : Nat → List C
  | 0 => []
  | k + 1 => plTo n mask k ++ (if mask.testBit k then [(((k % n : Nat) : Int), ((k / n : Nat) : Int))] else [])
theorem plTo_len (n mask : Nat) : ∀ k, (plTo n mask k).length ≤ k
  | 0 => Nat.le_refl _
  | k + 1 => by
    have := plTo_len n mask k
    show (plTo n mask k ++ _).length ≤ _
    rw [List.length_append]
    split <;> simp <;> omega
theorem plTo_end {n mask k : Nat} (h : mask / 2 ^ k = 0) : ∀ j, k ≤ j → plTo n mask j = plTo n mask k := by
  intro j hj
  induction j with
  | zero => rw [show k = 0 from by omega]
  | succ j ih =>
    by_cases e : k = j + 1
    · rw [e]
    · have hb : mask.testBit j = false := by
        have hlt : mask < 2 ^ k := (Nat.div_eq_zero_iff_lt (Nat.two_pow_pos k)).1 h
        exact Nat.testBit_lt_two_pow (Nat.lt_of_lt_of_le hlt (Nat.pow_le_pow_right (by decide) (by omega)))
      show plTo n mask j ++ _ = _
      rw [hb, ih (by omega)]
      simp
set_option maxHeartbeats 1600000 in
theorem places_i (n mask N : Nat) (w : World) (hn : 1 ≤ n ∧ n ≤ 6) (hN : N ≤ 36) (hmask : mask < 2 ^ N) :
    Calls Tryz.prog 63 #[.int .i64 (n : Int), .int .i64 (mask : Int)] w (RetS w 66 2 (vC (plTo n mask N))) := by
  have h62 : (2 : Nat) ^ N ≤ 2 ^ 36 := Nat.pow_le_pow_right (by decide) hN
  obtain ⟨hn1, hn6⟩ := hn
  have hmk : mask < 2 ^ 62 := by omega
  have HM := Lib.hid hmask
  clear hmask h62
  go_enter Tryz.func63, Tryz.ntmps63
  go_wp2
  go_loopw [6, 5] (fun i e wr => ∃ (k q cq : Nat) (A : Option Addr), k ≤ N ∧ q ≤ k ∧ i = .int .i64 k ∧ e = .slice A q cq ∧ wr.ownsRow w.heap.size 66 2 (.slice A q cq) q (vC (plTo n mask k)) ∧ Below w.heap.size w wr) (fun i _ _ => N - (intOf i).toNat)
  case atStart => exact ⟨0, 0, 0, none, Nat.zero_le _, Nat.le_refl _, rfl, rfl, own_nil _ _ _ _, Below.refl _ _⟩
  case round =>
    obtain ⟨k, q, cq, A, hk, hqk, rfl, rfl, hown, hb⟩ := hrel
    have hk0 : (0 : Int) ≤ (k : Int) := by omega
    have hk64 : (k : Int) ≤ 64 := by omega
    obtain ⟨d, hd⟩ : ∃ d, mask / 2 ^ k = d := ⟨_, rfl⟩
    have hdI : (mask : Int) / 2 ^ k = (d : Int) := by rw [← hd]; simp
    have hbit := bit_test mask k hmk
    rw [hdI] at hbit
    by_cases hd0 : d = 0
    · have hend := plTo_end (n := n) (hd.trans hd0) N hk
      rw [← hend] at hown
      have HO := Lib.hid hown
      have hz : ((d : Int) == 0) = true := by simp [hd0]
      clear hown hend hd hd0
      go_wp2
      go_ret
      exact ⟨_, _, _, rfl, HO.out, hb⟩
    · have hkN : k < N := by
        rcases Nat.lt_or_ge k N with h | h
        · exact h
        · exfalso
          have : mask < 2 ^ k := Nat.lt_of_lt_of_le HM.out (Nat.pow_le_pow_right (by decide) h)
          rw [Nat.div_eq_of_lt this] at hd
          exact hd0 hd.symm
      have hz : ((d : Int) == 0) = false := beq_eq_false_iff_ne.2 (by omega)
      obtain ⟨xk, hxk⟩ : ∃ xk, k % n = xk := ⟨_, rfl⟩
      obtain ⟨yk, hyk⟩ : ∃ yk, k / n = yk := ⟨_, rfl⟩
      have hstep : plTo n mask (k + 1) = plTo n mask k ++ (if mask.testBit k then [((xk : Int), (yk : Int))] else []) := by rw [← hxk, ← hyk]; rfl
      have HO := Lib.hid hown
      clear hown hd hd0
      cases hb1 : mask.testBit k with
      | false =>
        rw [hb1] at hbit hstep
        have HS := Lib.hid (hstep.trans (List.append_nil _))
        clear hstep hb1 hxk hyk
        go_wp2_with fail
        exact ⟨⟨k + 1, q, cq, A, by omega, by omega, by go_num, rfl, by rw [HS.out]; exact HO.out, hb⟩, by simp [intOf]; omega⟩
      | true =>
        rw [hb1] at hbit
        rw [hb1, if_pos rfl] at hstep
        have HS := Lib.hid hstep
        have e1 : (k : Int) % (n : Int) = (xk : Int) := by rw [← hxk]; rfl
        have e2 : (k : Int) / (n : Int) = (yk : Int) := by rw [← hyk]; rfl
        have e3 : (k : Int).tmod (n : Int) = (xk : Int) := by rw [Int.tmod_eq_emod_of_nonneg hk0]; exact e1
        have e4 : (k : Int).tdiv (n : Int) = (yk : Int) := by rw [Int.tdiv_eq_ediv_of_nonneg hk0]; exact e2
        have hyk36 : yk ≤ 36 := by rw [← hyk]; have := Nat.div_le_self k n; omega
        have hxk36 : xk ≤ 36 := by rw [← hxk]; have := Nat.mod_lt k (show 0 < n by omega); omega
        have e5 : IntKind.i64.wrap (yk : Int) = (yk : Int) := Go.IntWalk.i64_in _ (by omega)
        have e6 : IntKind.i64.wrap (xk : Int) = (xk : Int) := Go.IntWalk.i64_in _ (by omega)
        have hnn : ¬ n = 0 := by omega
        have hbz := hb.size
        clear hstep hb1
        go_wp2_with fail
        (refine wp_region_tailN (C := Gr wr A) 8 (by kernel_rfl) (by kernel_rfl) (Gr.drawn _ _) (fun _ _ h k => h.ext k) ?_; simp only [List.take_succ_cons, List.take_zero, List.drop_succ_cons, List.drop_zero]; (repeat (first | (refine headSkip (by rfl) rfl ?_; simp only [List.setIfInBounds_toArray, List.set_cons_zero, List.set_cons_succ]) | (refine headV (v := ?_) (by rfl) rfl (fun w' hcw => ?_) ?_; rotate_left; ((try dsimp only at hcw); have hbc := hcw.cells; go_simp; first | done | with_reducible rfl | fail); simp only [List.setIfInBounds_toArray, List.set_cons_zero, List.set_cons_succ]))); unfold wpHead)
        (refine tailK (by rfl) (fun w3 hc3 he3 K hK => ?_); go_simp; refine hK _ _ (hc3.ext (by (repeat (first | with_reducible exact Below.refl _ _ | with_reducible assumption | with_reducible apply bel_alloc | with_reducible apply bel_drew | with_reducible apply bel_drewN | ((with_reducible refine bel_set ?_ ?_); rotate_left; (simp <;> omega)) | (with_reducible refine bel_trans ?_ (by with_reducible assumption)))))) ?_; clear hK K)
        (refine tailK (by rfl) (fun w4 hc4 he4 K hK => ?_); refine wpC _ _ _ rfl w.heap.size A q cq (plTo n mask k) rfl (own_keep ((own_keep HO.out he3).alloc _) he4) _ 1 1 [((xk : Int), (yk : Int))] rfl (Rd.below (rd_newC _ _ _ _) he4) rfl (by omega) (by have h2 := he3.size; have h3 := he4.size; simp at h3; omega) ?_; intro A2 c2 w5 hown5 hg5 _; refine hK _ _ (Gr.trans hc4 hg5) ?_; clear hK K; simp only [Act.put, List.setIfInBounds_toArray, List.set_cons_zero, List.set_cons_succ])
        (refine tailK (by rfl) (fun w6 hc6 he6 K hK => ?_); go_simp; refine hK _ _ (hc6) ?_; clear hK K)
        (refine fun w7 hc7 he7 => NoPanic.normal ?_)
        have hb5 : Below w.heap.size w w5 := bel_app (bel_trans (bel_alloc (bel_trans hb he3) _) he4) hg5 (fun g' hg' => ((own_lt HO.out) g' hg').1)
        have HO3 := Lib.hid (own_keep (own_keep hown5 he6) he7)
        clear hown5
        go_wp2
        exact ⟨⟨k + 1, q + 1, c2, A2, by omega, by omega, by go_num, rfl, by rw [HS.out]; exact HO3.out, (by (repeat (first | with_reducible exact Below.refl _ _ | with_reducible assumption | with_reducible apply bel_alloc | with_reducible apply bel_drew | with_reducible apply bel_drewN | ((with_reducible refine bel_set ?_ ?_); rotate_left; (simp <;> omega)) | (with_reducible refine bel_trans ?_ (by with_reducible assumption)))))⟩, by simp [intOf]; omega⟩
end Go.Proofs.YtoedmmhiinhljaaGreatDoor

/- What a motion makes of a mask: the program. -/
namespace Go.Proofs.YtoedmmhiinhljaaGreatDoor
open Go.RowKit
set_option linter.unusedVariables false
attribute [local go_sem ↓] Go.wp_at_zero Go.wp_at_succ
def posC (n h m : Nat) (c : C) : Nat := ((carry n h c.1 c.2 m).2.2.2 * n + (carry n h c.1 c.2 m).2.2.1).toNat
def orLc (n h m : Nat) (L : List C) : Nat := L.foldl (fun a c => a ||| 2 ^ posC n h m c) 0
theorem orLc_snoc (n h m : Nat) (L : List C) (c : C) : orLc n h m (L ++ [c]) = orLc n h m L ||| 2 ^ posC n h m c := by simp [orLc]
theorem orLc_take (n h m : Nat) (L : List C) (k : Nat) (hk : k < L.length) : orLc n h m (L.take (k + 1)) = orLc n h m (L.take k) ||| 2 ^ posC n h m L[k] := by
  rw [List.take_succ_eq_append_getElem hk, orLc_snoc]
theorem orLc_turn {n h m mask : Nat} (hp : ∀ i j, i < n * h → j < n * h → pos n h m i = pos n h m j → i = j) (hl : ∀ i, i < n * h → pos n h m i < n * h) (h36 : n * h ≤ 36) :
    ∀ k, k ≤ n * h → orLc n h m (plTo n mask k) = turnTo n h m mask k
  | 0, _ => rfl
  | k + 1, hk => by
    have ih := orLc_turn (mask := mask) hp hl h36 k (by omega)
    show orLc n h m (plTo n mask k ++ _) = _
    by_cases hb : mask.testBit k = true
    · rw [if_pos hb, orLc_snoc, ih, turn_or hp hl h36 (by omega) hb]
      rfl
    · rw [if_neg hb, List.append_nil, ih]
      show _ = turnTo n h m mask k + _
      rw [if_neg hb, Nat.add_zero]
theorem plTo_mem {n mask : Nat} {c : C} : ∀ {k}, c ∈ plTo n mask k → ∃ i, i < k ∧ c = (((i % n : Nat) : Int), ((i / n : Nat) : Int))
  | 0, h => by simp [plTo] at h
  | k + 1, h => by
    rcases List.mem_append.1 h with h | h
    · obtain ⟨i, hi, e⟩ := plTo_mem h
      exact ⟨i, by omega, e⟩
    · split at h
      · simp only [List.mem_singleton] at h
        exact ⟨k, by omega, h⟩
      · simp at h
theorem orLc_lt_aux {n h m : Nat} (N : Nat) : ∀ (L : List C) (a : Nat), a < 2 ^ N → (∀ c ∈ L, posC n h m c < N) → L.foldl (fun a c => a ||| 2 ^ posC n h m c) a < 2 ^ N
  | [], a, ha, _ => ha
  | c :: t, a, ha, hc => orLc_lt_aux N t _ (Nat.or_lt_two_pow ha (Nat.pow_lt_pow_right (by decide) (hc c (by simp)))) (fun d hd => hc d (by simp [hd]))
theorem orLc_lt {n h m N : Nat} {L : List C} (hc : ∀ c ∈ L, posC n h m c < N) : orLc n h m L < 2 ^ N := orLc_lt_aux N L 0 (Nat.pow_pos (by decide)) hc
theorem take_mem {L : List C} {k : Nat} {c : C} (h : c ∈ L.take k) : c ∈ L := List.mem_of_mem_take h
set_option maxHeartbeats 1600000 in
theorem carryMask_i (n : Nat) (A : Option Addr) (h c : Nat) (rows : List Int) (mask m : Nat) (w : World) (hr : Rd w A (vI rows)) (hl : rows.length = h) (hn : 1 ≤ n ∧ n ≤ 6) (hh : 1 ≤ h ∧ h ≤ 6) (hm : m < 8) (hg : goesM n h m = true) (hmask : mask < 2 ^ (n * h)) :
    Calls Tryz.prog 46 #[.agg #[.int .i64 (n : Int), .slice A h c], .int .i64 (mask : Int), .int .i64 (m : Int)] w (Ret w (.int .i64 (turnTo n h m mask (n * h) : Nat))) := by
  obtain ⟨hp1, hp2⟩ := pos_ok hn hh hm hg
  have h36 : n * h ≤ 6 * 6 := Nat.mul_le_mul hn.2 hh.2
  have hV := orLc_turn (mask := mask) hp2 hp1 (by omega) (n * h) (Nat.le_refl _)
  have HV := Lib.hid hV
  have HM := Lib.hid hmask
  have hN36 : n * h ≤ 36 := by omega
  have H36 := Lib.hid hN36
  have HP1 := Lib.hid hp1
  have hL : ∀ x ∈ plTo n mask (n * h), okQ ((n : Int), (h : Int), x.1, x.2) ∧ posC n h m x < n * h := by
    intro x hx
    obtain ⟨i, hi, rfl⟩ := plTo_mem hx
    exact ⟨grid_ok hn hh hi, hp1 i hi⟩
  have hlen := plTo_len n mask (n * h)
  have HLL := Lib.hid hL
  have HLEN := Lib.hid hlen
  clear hV hmask h36 hN36 hp1 hp2 hL hlen hl
  go_enter Tryz.func46, Tryz.ntmps46
  go_wp2_with fail
  refine (places_i n mask (n * h) _ hn H36.out HM.out).mono ?_
  rintro e w1 ⟨B, q, cq, rfl, ho, hb1⟩
  have hq : q = (plTo n mask (n * h)).length := by have := own_len ho; rw [vC_length] at this; omega
  generalize plTo n mask (n * h) = L at HV HLL HLEN ho hq
  have HQ := Lib.hid hq
  have hq36 : q ≤ 36 := by have := HLEN.out; have := H36.out; omega
  have hrd := Rd.of_own ho
  have HRD := Lib.hid hrd
  have hB1 := (Blk.new w 29 #[.int .i64 (n : Int), .slice A h c]).below hb1
  have HB1 := Lib.hid hB1
  have hr1 := (hr.alloc (.cells #[.int .i64 (n : Int), .slice A h c] 29)).below hb1
  clear ho hq hrd hB1
  go_wp2_with fail
  go_loopw [16, 7] (fun i t wr => ∃ k v : Nat, k ≤ q ∧ i = .int .i64 k ∧ t = .int .i64 v ∧ v = orLc n h m (L.take k) ∧ Below w1.heap.size w1 wr) (fun i _ _ => q - (intOf i).toNat)
  case atStart => exact ⟨0, 0, Nat.zero_le _, rfl, rfl, rfl, Below.refl _ _⟩
  case round =>
    obtain ⟨k, v, hk, rfl, rfl, hv, hb⟩ := hrel
    by_cases hlt : k < q
    · have hk0 : (0 : Int) ≤ (k : Int) := by omega
      have hk1 : (k : Int) < (q : Int) := by omega
      have hkl : k < L.length := by rw [← HQ.out]; exact hlt
      have hB := HB1.out.below hb
      have d0 : wr.cell? ⟨w.heap.size, 0, none⟩ = some (.int .i64 (n : Int)) := by simpa using hB.cell 0
      have d1 : wr.cell? ⟨w.heap.size, 1, none⟩ = some (.slice A h c) := by simpa using hB.cell 1
      have hgw := hB.lt
      obtain ⟨g, off, rfl, hgl, c0, c1⟩ := RdC.at_ (HRD.out.below hb) hkl
      have hT := orLc_take n h m L k hkl
      obtain ⟨hok, hpl⟩ := HLL.out L[k] (List.getElem_mem hkl)
      obtain ⟨⟨x, y⟩, hxy⟩ : ∃ p, L[k] = p := ⟨_, rfl⟩
      rw [hxy] at c0 c1 hT hok hpl
      have HT := Lib.hid hT
      have HOK := Lib.hid hok
      have HPL := Lib.hid hpl
      have HV2 := Lib.hid hv
      clear hB hT hok hpl hv hxy
      have hpos := pos_int (m := m) HOK.out
      have hcs := carry_small HOK.out m
      have hcp : ∀ W : World, Calls Tryz.prog 64 #[.int .i64 (n : Int), .int .i64 (h : Int), .agg #[.int .i64 x, .int .i64 y], .int .i64 (m : Int)] W (Ret W (.agg #[.int .i64 (carry n h x y m).2.2.1, .int .i64 (carry n h x y m).2.2.2])) := fun W => carryPlace_i _ _ _ _ m W HOK.out hm
      have hposc : posC n h m (x, y) = ((carry n h x y m).2.2.2 * n + (carry n h x y m).2.2.1).toNat := rfl
      obtain ⟨⟨a', b', x', y'⟩, hq4⟩ : ∃ q, carry n h x y m = q := ⟨_, rfl⟩
      rw [hq4] at hpos hcs hcp hposc
      rw [← hposc] at hpos
      dsimp only at hcp
      have HCP := Lib.hid hcp
      have hjN := HPL.out
      have hT2 := HT.out
      have hvlt : v < 2 ^ 36 := by
        have h1 := orLc_lt (n := n) (h := h) (m := m) (N := n * h) (L := L.take k) (fun d hd => (HLL.out d (take_mem hd)).2)
        rw [← HV2.out] at h1
        exact Nat.lt_of_lt_of_le h1 (Nat.pow_le_pow_right (by decide) H36.out)
      rw [← HV2.out] at hT2
      have hj36 : posC n h m (x, y) < 36 := Nat.lt_of_lt_of_le hjN H36.out
      clear hjN HT HPL
      generalize posC n h m (x, y) = j at hpos hposc hj36 hT2
      obtain ⟨z, hz⟩ : ∃ z : Int, y' * (n : Int) = z := ⟨_, rfl⟩
      have hzj : z + x' = (j : Int) := by rw [← hz]; exact hpos
      have h2j : (2 : Nat) ^ j < 2 ^ 36 := Nat.pow_lt_pow_right (by decide) hj36
      obtain ⟨t, ht⟩ : ∃ t : Nat, 2 ^ j = t := ⟨_, rfl⟩
      have htI : (2 : Int) ^ j = (t : Int) := by rw [← ht]; simp
      rw [ht] at h2j hT2
      have hj64 : (j : Int) ≤ 64 := by omega
      have hj0 : (0 : Int) ≤ (j : Int) := by omega
      unfold okQ at hcs
      simp only at hcs
      obtain ⟨k1, k2, k3, k4, k5, k6, k7, k8⟩ := hcs
      have hn0 : (0 : Int) ≤ (n : Int) := by omega
      have hz0 : 0 ≤ z := by rw [← hz]; exact Int.mul_nonneg k7 hn0
      have hz36 : z ≤ 36 := by omega
      have HV63 : Hid (v < 2 ^ 63) := by show v < 2 ^ 63; omega
      have HT63 : Hid (t < 2 ^ 63) := by show t < 2 ^ 63; omega
      have hor : bits .or .i64 (v : Int) (t : Int) = ((v ||| t : Nat) : Int) := i64_or v t HV63.out HT63.out
      have HTT := Lib.hid hT2
      clear hq4 hpos hposc hcp hT2 hvlt
      go_wp2_with fail
      refine (HCP.out _).mono ?_
      rintro e w2 ⟨rfl, hb2⟩
      have y0 : w2.cell? ⟨w.heap.size, 0, none⟩ = some (.int .i64 (n : Int)) := keep_below hb2 (keep_alloc d0)
      have y1 : w2.cell? ⟨w.heap.size, 1, none⟩ = some (.slice A h c) := keep_below hb2 (keep_alloc d1)
      have hgw2 : w.heap.size < w2.heap.size := Nat.lt_of_lt_of_le hgw (by have := hb2.size; simp at this; omega)
      clear hor
      have hor : bits .or .i64 (v : Int) (t : Int) = ((v ||| t : Nat) : Int) := i64_or v t HV63.out HT63.out
      go_wp2_with fail
      exact ⟨⟨k + 1, v ||| t, by omega, by go_num, rfl, HTT.out.symm, (by (repeat (first | with_reducible exact Below.refl _ _ | with_reducible assumption | with_reducible apply bel_alloc | with_reducible apply bel_drew | with_reducible apply bel_drewN | ((with_reducible refine bel_set ?_ ?_); rotate_left; (simp <;> omega)) | (with_reducible refine bel_trans ?_ (by with_reducible assumption)))))⟩, by simp [intOf]; omega⟩
    · have hkq : k = q := by omega
      have hkq2 : L.take k = L := List.take_of_length_le (by rw [← HQ.out]; omega)
      rw [hkq2] at hv
      have HV2 := Lib.hid (hv.trans HV.out)
      have hk1 : ¬ (k : Int) < (q : Int) := by omega
      clear hv hkq2
      go_wp2
      go_ret
      exact ⟨by rw [← HV2.out]; rfl, (by (repeat (first | with_reducible exact Below.refl _ _ | with_reducible assumption | with_reducible apply bel_alloc | with_reducible apply bel_drew | with_reducible apply bel_drewN | ((with_reducible refine bel_set ?_ ?_); rotate_left; (simp <;> omega)) | (with_reducible refine bel_trans ?_ (by with_reducible assumption)))))⟩
end Go.Proofs.YtoedmmhiinhljaaGreatDoor

/- Whether a list has a number: both sides. -/
namespace Go.Proofs.YtoedmmhiinhljaaGreatDoor
open Go.RowKit
set_option linter.unusedVariables false
attribute [local go_sem ↓] Go.wp_at_zero Go.wp_at_succ
theorem hasInt_i (A : Option Addr) (n c : Nat) (xs : List Int) (x : Int) (w : World) (hr : Rd w A (vI xs)) (hl : xs.length = n) (hn : n ≤ 1099511627776) :
    Calls Tryz.prog 27 #[.slice A n c, .int .i64 x] w (Ret w (.bool (xs.any (· == x)))) := by
  have HL := Lib.hid hl
  clear hl
  go_enter Tryz.func27, Tryz.ntmps27
  go_wp2
  go_loopw [9] (fun i wr => ∃ k : Nat, k ≤ n ∧ i = .int .i64 k ∧ xs.any (· == x) = (xs.drop k).any (· == x) ∧ Below w.heap.size w wr) (fun i _ => n - (intOf i).toNat)
  case atStart => exact ⟨0, Nat.zero_le _, rfl, rfl, Below.refl _ _⟩
  case round =>
    obtain ⟨k, hk, rfl, hany, hb⟩ := hrel
    by_cases hlt : k < n
    · have hkl : k < xs.length := by rw [HL.out]; exact hlt
      have hk0 : (0 : Int) ≤ (k : Int) := by omega
      have hk1 : (k : Int) < (n : Int) := by omega
      obtain ⟨g, off, rfl, hg, d1⟩ := RdI.at_ (hr.below hb) hkl
      rw [List.drop_eq_getElem_cons hkl, List.any_cons] at hany
      obtain ⟨y, hy⟩ : ∃ y, xs[k] = y := ⟨_, rfl⟩
      rw [hy] at hany d1
      cases hyx : (y == x) with
      | true =>
        rw [hyx, Bool.true_or] at hany
        have HA := Lib.hid hany
        clear hany hy
        go_wp2
        go_ret
        exact ⟨by rw [HA.out]; rfl, hb⟩
      | false =>
        rw [hyx, Bool.false_or] at hany
        have HA := Lib.hid hany
        clear hany hy
        go_wp2
        exact ⟨⟨k + 1, by omega, by go_num, HA.out, hb⟩, by simp [intOf]; omega⟩
    · have hkn : k = n := by omega
      subst hkn
      rw [List.drop_of_length_le (by rw [HL.out]; omega)] at hany
      have HA := Lib.hid hany
      have hk1 : ¬ (k : Int) < (k : Int) := by omega
      clear hany
      go_wp2
      go_ret
      exact ⟨by rw [HA.out]; rfl, hb⟩
theorem l7Has_s (A : Option Addr) (n c : Nat) (xs : List Int) (x : Int) (w : World) (hr : Rd w A (vI xs)) (hl : xs.length = n) (hn : n ≤ 1099511627776) :
    Calls Tryz.prog 19 #[.slice A n c, .int .i64 x] w (Ret w (.bool (xs.any (· == x)))) := by
  have HL := Lib.hid hl
  clear hl
  go_enter Tryz.func19, Tryz.ntmps19
  go_wp2
  go_loopw [5] (fun i wr => ∃ k : Nat, k ≤ n ∧ i = .int .i64 k ∧ xs.any (· == x) = (xs.drop k).any (· == x) ∧ Below w.heap.size w wr) (fun i _ => n - (intOf i).toNat)
  case atStart => exact ⟨0, Nat.zero_le _, rfl, rfl, Below.refl _ _⟩
  case round =>
    obtain ⟨k, hk, rfl, hany, hb⟩ := hrel
    by_cases hlt : k < n
    · have hkl : k < xs.length := by rw [HL.out]; exact hlt
      have hk0 : (0 : Int) ≤ (k : Int) := by omega
      have hk1 : (k : Int) < (n : Int) := by omega
      obtain ⟨g, off, rfl, hg, d1⟩ := RdI.at_ (hr.below hb) hkl
      rw [List.drop_eq_getElem_cons hkl, List.any_cons] at hany
      obtain ⟨y, hy⟩ : ∃ y, xs[k] = y := ⟨_, rfl⟩
      rw [hy] at hany d1
      cases hyx : (y == x) with
      | true =>
        rw [hyx, Bool.true_or] at hany
        have HA := Lib.hid hany
        clear hany hy
        go_wp2
        go_ret
        exact ⟨by rw [HA.out]; rfl, hb⟩
      | false =>
        rw [hyx, Bool.false_or] at hany
        have HA := Lib.hid hany
        clear hany hy
        go_wp2
        exact ⟨⟨k + 1, by omega, by go_num, HA.out, hb⟩, by simp [intOf]; omega⟩
    · have hkn : k = n := by omega
      subst hkn
      rw [List.drop_of_length_le (by rw [HL.out]; omega)] at hany
      have HA := Lib.hid hany
      have hk1 : ¬ (k : Int) < (k : Int) := by omega
      clear hany
      go_wp2
      go_ret
      exact ⟨by rw [HA.out]; rfl, hb⟩
end Go.Proofs.YtoedmmhiinhljaaGreatDoor

/- The motions that keep a region: both sides. -/
namespace Go.Proofs.YtoedmmhiinhljaaGreatDoor
open Go.RowKit
set_option linter.unusedVariables false
attribute [local go_sem ↓] Go.wp_at_zero Go.wp_at_succ
def keepM (n h mv m : Nat) : Bool := goesM n h m && (turnTo n h m mv (n * h) == mv)
def motTo (n h mv : Nat) : Nat → List Int
  | 0 => []
  | m + 1 => motTo n h mv m ++ (if keepM n h mv m then [(m : Int)] else [])
def motV (W : Int) (rows : List Int) : List Int := if isReg W rows then motTo W.toNat rows.length (maskV W rows) 8 else []
theorem own_mono3 {w : World} {base base' e size n c : Nat} {A : Option Addr} {xs : List Value} (h : w.ownsRow base e size (.slice A n c) n xs) (hb : base' ≤ base) : w.ownsRow base' e size (.slice A n c) n xs := by
  refine ⟨h.1, ?_⟩
  rcases h.2 with hn | ⟨g, cap, cur, hv, hg, hgg, rest⟩
  · exact .inl hn
  · exact .inr ⟨g, cap, cur, hv, Nat.le_trans hb hg, hgg, rest⟩
theorem motTo_len (n h mv : Nat) : ∀ m, (motTo n h mv m).length ≤ m
  | 0 => Nat.le_refl _
  | m + 1 => by
    have := motTo_len n h mv m
    show (motTo n h mv m ++ _).length ≤ _
    rw [List.length_append]
    split <;> simp <;> omega
theorem maskV_lt {n : Nat} {rows : List Int} (h : isReg (n : Int) rows = true) : maskV (n : Int) rows < 2 ^ (n * rows.length) := by
  obtain ⟨m, hm, _, _, _, _, hrow⟩ := isReg_yes h
  obtain rfl : n = m := by omega
  unfold maskV
  rw [if_pos h, Nat.mul_comm]
  exact mkTo_lt hrow rows.length (Nat.le_refl _)
set_option maxHeartbeats 1600000 in
theorem RegionMotions_i (W : Int) (A : Option Addr) (h c : Nat) (rows : List Int) (w : World) (hr : Rd w A (vI rows)) (hl : rows.length = h) :
    Calls Tryz.prog 28 #[.agg #[.int .i64 W, .slice A h c]] w (RetS w 3 1 (vI (motV W rows))) := by
  cases hv : isReg W rows with
  | false =>
    have HV : Hid (motV W rows = []) := by show motV W rows = []; unfold motV; rw [hv]; rfl
    have HL := Lib.hid hl
    have HF := Lib.hid hv
    clear hv hl
    go_enter Tryz.func28, Tryz.ntmps28
    go_wp2_with fail
    refine (IsRegion_i _ _ _ _ rows _ (hr.alloc _) HL.out).mono ?_
    rw [HF.out]
    rintro e w1 ⟨rfl, hb1⟩
    go_wp2_with fail
    go_ret
    exact ⟨none, 0, 0, rfl, by rw [HV.out]; exact own_nil _ _ _ _, (by (repeat (first | with_reducible exact Below.refl _ _ | with_reducible assumption | with_reducible apply bel_alloc | with_reducible apply bel_drew | with_reducible apply bel_drewN | ((with_reducible refine bel_set ?_ ?_); rotate_left; (simp <;> omega)) | (with_reducible refine bel_trans ?_ (by with_reducible assumption)))))⟩
  | true =>
    have HT := Lib.hid hv
    obtain ⟨n, rfl, hn1, hn6, hh1, hh6, hrow⟩ := isReg_yes hv
    have hmv := maskV_lt hv
    have hV : motV (n : Int) rows = motTo n rows.length (maskV n rows) 8 := by unfold motV; rw [hv]; rfl
    rw [hl] at hh1 hh6 hmv hV
    have HV := Lib.hid hV
    have HL := Lib.hid hl
    have HMV := Lib.hid hmv
    obtain ⟨mv, hmve⟩ : ∃ mv, maskV (n : Int) rows = mv := ⟨_, rfl⟩
    have HME := Lib.hid hmve
    clear hv hl hrow hmv hV hmve
    go_enter Tryz.func28, Tryz.ntmps28
    go_wp2_with fail
    refine (IsRegion_i _ _ _ _ rows _ (hr.alloc _) HL.out).mono ?_
    rw [HT.out]
    rintro e w1 ⟨rfl, hb1⟩
    have HB1 := Lib.hid ((Blk.new w 29 #[.int .i64 (n : Int), .slice A h c]).below hb1)
    have HR1 := Lib.hid ((hr.alloc (.cells #[.int .i64 (n : Int), .slice A h c] 29)).below hb1)
    have hb01 : Below w.heap.size w w1 := (by (repeat (first | with_reducible exact Below.refl _ _ | with_reducible assumption | with_reducible apply bel_alloc | with_reducible apply bel_drew | with_reducible apply bel_drewN | ((with_reducible refine bel_set ?_ ?_); rotate_left; (simp <;> omega)) | (with_reducible refine bel_trans ?_ (by with_reducible assumption)))))
    have hsz := hb01.size
    go_wp2_with fail
    go_loopw [8, 3] (fun i e wr => ∃ (m q cq : Nat) (B : Option Addr), m ≤ 8 ∧ q ≤ m ∧ i = .int .i64 m ∧ e = .slice B q cq ∧ wr.ownsRow w1.heap.size 3 1 (.slice B q cq) q (vI (motTo n h mv m)) ∧ Below w1.heap.size w1 wr) (fun i _ _ => 8 - (intOf i).toNat)
    case atStart => exact ⟨0, 0, 0, none, Nat.zero_le _, Nat.le_refl _, rfl, rfl, own_nil _ _ _ _, Below.refl _ _⟩
    case round =>
      obtain ⟨m, q, cq, B, hm, hqm, rfl, rfl, hown, hb⟩ := hrel
      have HO := Lib.hid hown
      clear hown
      by_cases hlt : m < 8
      · have hm0 : (0 : Int) ≤ (m : Int) := by omega
        have hm1 : (m : Int) < 8 := by omega
        have hB := HB1.out.below hb
        have d0 : wr.cell? ⟨w.heap.size, 0, none⟩ = some (.int .i64 (n : Int)) := by simpa using hB.cell 0
        have d1 : wr.cell? ⟨w.heap.size, 1, none⟩ = some (.slice A h c) := by simpa using hB.cell 1
        have hgw := hB.lt
        have HRW := Lib.hid (HR1.out.below hb)
        have hstep : motTo n h mv (m + 1) = motTo n h mv m ++ (if keepM n h mv m then [(m : Int)] else []) := rfl
        clear hB
        have hbz := hb.size
        have KEEP : Hid (keepM n h mv m = true → motTo n h mv (m + 1) = motTo n h mv m ++ [(m : Int)]) := fun h => by rw [hstep, h]; rfl
        have SKIP : Hid (keepM n h mv m = false → motTo n h mv (m + 1) = motTo n h mv m) := fun h => by rw [hstep, h]; simp
        clear hstep
        cases hg : goesM n h m with
        | true =>
          have HG := Lib.hid hg
          have hk : keepM n h mv m = (turnTo n h m mv (n * h) == mv) := by unfold keepM; rw [hg]; rfl
          obtain ⟨t, ht⟩ : ∃ t, turnTo n h m mv (n * h) = t := ⟨_, rfl⟩
          rw [ht] at hk
          have HTT2 : Hid (((turnTo n h m mv (n * h) : Nat) : Int) = (t : Int)) := by show _ = _; rw [ht]
          have HMI : Hid (((maskV (n : Int) rows : Nat) : Int) = (mv : Int)) := by show _ = _; rw [HME.out]
          clear hg ht
          by_cases htm : t = mv
          · have HK := Lib.hid (KEEP.out (by rw [hk, htm]; simp))
            have e1 : ((t : Int) == (mv : Int)) = true := by simp [htm]
            clear KEEP SKIP hk htm
            by_cases hp : m % 2 = 0
            · have hp2 : ((m : Int) % 2 == 0) = true := by rw [beq_iff_eq]; omega
              have hp3 : (m : Int).tmod 2 = 0 := by rw [Int.tmod_eq_emod_of_nonneg hm0]; omega
              go_wp2_with fail
              (refine wp_region_below (by kernel_rfl) (by kernel_rfl) ?_; (repeat (first | go_big_quiet_skip | (refine quietV (v := ?_) (by rfl) rfl (fun w' hbw => ?_) ?_; rotate_left; ((try dsimp only at hbw); have hbc := (bcell hbw).1; have hbf := (bcell hbw).2; go_simp; first | done | with_reducible rfl | first | exact callsBI (mask_i _ _ _ _ rows _ (HRW.out.below hbw) HL.out HT.out) HMI.out hbw | exact callsBI (carryMask_i n _ h _ rows mv m _ (HRW.out.below hbw) HL.out ⟨hn1, hn6⟩ ⟨hh1, hh6⟩ hlt HG.out (by have := HMV.out; have := HME.out; omega)) HTT2.out hbw); simp only [List.setIfInBounds_toArray, List.set_cons_zero, List.set_cons_succ]))); refine wpQuiet_nil ?_; intro wq hbq)
              go_wp2_with (at_builtin; go_must (refine app_I _ rfl _ _ rfl w1.heap.size _ _ _ _ rfl ((own_keep HO.out hbq).alloc _) _ _ _ [(m : Int)] rfl (rd_newI _ _ _) rfl (by omega) (by have := hbq.size; simp; omega) ?_); intro D2 cp2 w8 ho8 hg8 hat8; have HO8 := Lib.hid ho8; have HG8 := Lib.hid hg8; clear ho8 hg8 hat8)
              exact ⟨⟨m + 1, q + 1, cp2, D2, by omega, by omega, by go_num, rfl, by rw [HK.out]; exact HO8.out, bel_app (bel_alloc (bel_trans hb hbq) _) HG8.out (fun g' hg1 => ((own_lt HO.out) g' hg1).1)⟩, by simp [intOf]; omega⟩
            · have hnh : (n : Int) = (h : Int) := by have := HG.out; unfold goesM at this; simp only [Bool.or_eq_true, beq_iff_eq] at this; omega
              have hp2 : ((m : Int) % 2 == 0) = false := by rw [beq_eq_false_iff_ne]; omega
              have hp3 : (m : Int).tmod 2 = 1 := by rw [Int.tmod_eq_emod_of_nonneg hm0]; omega
              have hp4 : m % 2 = 1 := by omega
              have hnh2 : ((n : Int) == (h : Int)) = true := by rw [beq_iff_eq]; exact hnh
              have HNH := Lib.hid hnh
              clear hp hnh
              go_wp2_with fail
              (refine wp_region_below (by kernel_rfl) (by kernel_rfl) ?_; (repeat (first | go_big_quiet_skip | (refine quietV (v := ?_) (by rfl) rfl (fun w' hbw => ?_) ?_; rotate_left; ((try dsimp only at hbw); have hbc := (bcell hbw).1; have hbf := (bcell hbw).2; go_simp; first | done | with_reducible rfl | first | exact callsBI (mask_i _ _ _ _ rows _ (HRW.out.below hbw) HL.out HT.out) HMI.out hbw | exact callsBI (carryMask_i n _ h _ rows mv m _ (HRW.out.below hbw) HL.out ⟨hn1, hn6⟩ ⟨hh1, hh6⟩ hlt HG.out (by have := HMV.out; have := HME.out; omega)) HTT2.out hbw); simp only [List.setIfInBounds_toArray, List.set_cons_zero, List.set_cons_succ]))); refine wpQuiet_nil ?_; intro wq hbq)
              go_wp2_with (at_builtin; go_must (refine app_I _ rfl _ _ rfl w1.heap.size _ _ _ _ rfl ((own_keep HO.out hbq).alloc _) _ _ _ [(m : Int)] rfl (rd_newI _ _ _) rfl (by omega) (by have := hbq.size; simp; omega) ?_); intro D2 cp2 w8 ho8 hg8 hat8; have HO8 := Lib.hid ho8; have HG8 := Lib.hid hg8; clear ho8 hg8 hat8)
              exact ⟨⟨m + 1, q + 1, cp2, D2, by omega, by omega, by go_num, rfl, by rw [HK.out]; exact HO8.out, bel_app (bel_alloc (bel_trans hb hbq) _) HG8.out (fun g' hg1 => ((own_lt HO.out) g' hg1).1)⟩, by simp [intOf]; omega⟩
          · have HK := Lib.hid (SKIP.out (by rw [hk]; simpa using htm))
            have e1 : ((t : Int) == (mv : Int)) = false := by rw [beq_eq_false_iff_ne]; omega
            clear KEEP SKIP hk htm
            by_cases hp : m % 2 = 0
            · have hp2 : ((m : Int) % 2 == 0) = true := by rw [beq_iff_eq]; omega
              have hp3 : (m : Int).tmod 2 = 0 := by rw [Int.tmod_eq_emod_of_nonneg hm0]; omega
              go_wp2_with fail
              (refine wp_region_below (by kernel_rfl) (by kernel_rfl) ?_; (repeat (first | go_big_quiet_skip | (refine quietV (v := ?_) (by rfl) rfl (fun w' hbw => ?_) ?_; rotate_left; ((try dsimp only at hbw); have hbc := (bcell hbw).1; have hbf := (bcell hbw).2; go_simp; first | done | with_reducible rfl | first | exact callsBI (mask_i _ _ _ _ rows _ (HRW.out.below hbw) HL.out HT.out) HMI.out hbw | exact callsBI (carryMask_i n _ h _ rows mv m _ (HRW.out.below hbw) HL.out ⟨hn1, hn6⟩ ⟨hh1, hh6⟩ hlt HG.out (by have := HMV.out; have := HME.out; omega)) HTT2.out hbw); simp only [List.setIfInBounds_toArray, List.set_cons_zero, List.set_cons_succ]))); refine wpQuiet_nil ?_; intro wq hbq)
              go_wp2_with fail
              exact ⟨⟨m + 1, q, cq, B, by omega, by omega, by go_num, rfl, by rw [HK.out]; exact own_keep HO.out hbq, (by (repeat (first | with_reducible exact Below.refl _ _ | with_reducible assumption | with_reducible apply bel_alloc | with_reducible apply bel_drew | with_reducible apply bel_drewN | ((with_reducible refine bel_set ?_ ?_); rotate_left; (simp <;> omega)) | (with_reducible refine bel_trans ?_ (by with_reducible assumption)))))⟩, by simp [intOf]; omega⟩
            · have hnh : (n : Int) = (h : Int) := by have := HG.out; unfold goesM at this; simp only [Bool.or_eq_true, beq_iff_eq] at this; omega
              have hp2 : ((m : Int) % 2 == 0) = false := by rw [beq_eq_false_iff_ne]; omega
              have hp3 : (m : Int).tmod 2 = 1 := by rw [Int.tmod_eq_emod_of_nonneg hm0]; omega
              have hp4 : m % 2 = 1 := by omega
              have hnh2 : ((n : Int) == (h : Int)) = true := by rw [beq_iff_eq]; exact hnh
              have HNH := Lib.hid hnh
              clear hp hnh
              go_wp2_with fail
              (refine wp_region_below (by kernel_rfl) (by kernel_rfl) ?_; (repeat (first | go_big_quiet_skip | (refine quietV (v := ?_) (by rfl) rfl (fun w' hbw => ?_) ?_; rotate_left; ((try dsimp only at hbw); have hbc := (bcell hbw).1; have hbf := (bcell hbw).2; go_simp; first | done | with_reducible rfl | first | exact callsBI (mask_i _ _ _ _ rows _ (HRW.out.below hbw) HL.out HT.out) HMI.out hbw | exact callsBI (carryMask_i n _ h _ rows mv m _ (HRW.out.below hbw) HL.out ⟨hn1, hn6⟩ ⟨hh1, hh6⟩ hlt HG.out (by have := HMV.out; have := HME.out; omega)) HTT2.out hbw); simp only [List.setIfInBounds_toArray, List.set_cons_zero, List.set_cons_succ]))); refine wpQuiet_nil ?_; intro wq hbq)
              go_wp2_with fail
              exact ⟨⟨m + 1, q, cq, B, by omega, by omega, by go_num, rfl, by rw [HK.out]; exact own_keep HO.out hbq, (by (repeat (first | with_reducible exact Below.refl _ _ | with_reducible assumption | with_reducible apply bel_alloc | with_reducible apply bel_drew | with_reducible apply bel_drewN | ((with_reducible refine bel_set ?_ ?_); rotate_left; (simp <;> omega)) | (with_reducible refine bel_trans ?_ (by with_reducible assumption)))))⟩, by simp [intOf]; omega⟩
        | false =>
          have hk : keepM n h mv m = false := by unfold keepM; rw [hg]; rfl
          have HK := Lib.hid (SKIP.out hk)
          unfold goesM at hg
          simp only [Bool.or_eq_false_iff, beq_eq_false_iff_ne, ne_eq] at hg
          obtain ⟨hp, hnh0⟩ := hg
          have hnh : ((n : Int) == (h : Int)) = false := by rw [beq_eq_false_iff_ne]; omega
          clear KEEP SKIP hk hnh0
          have hp2 : ((m : Int) % 2 == 0) = false := by rw [beq_eq_false_iff_ne]; omega
          have hp3 : (m : Int).tmod 2 = 1 := by rw [Int.tmod_eq_emod_of_nonneg hm0]; omega
          have hp4 : m % 2 = 1 := by omega
          clear hp
          go_wp2_with fail
          (refine wp_region_below (by kernel_rfl) (by kernel_rfl) ?_; (repeat (first | go_big_quiet_skip | (refine quietV (v := ?_) (by rfl) rfl (fun w' hbw => ?_) ?_; rotate_left; ((try dsimp only at hbw); have hbc := (bcell hbw).1; have hbf := (bcell hbw).2; go_simp; first | done | with_reducible rfl | fail); simp only [List.setIfInBounds_toArray, List.set_cons_zero, List.set_cons_succ]))); refine wpQuiet_nil ?_; intro wq hbq)
          go_wp2_with fail
          exact ⟨⟨m + 1, q, cq, B, by omega, by omega, by go_num, rfl, by rw [HK.out]; exact own_keep HO.out hbq, (by (repeat (first | with_reducible exact Below.refl _ _ | with_reducible assumption | with_reducible apply bel_alloc | with_reducible apply bel_drew | with_reducible apply bel_drewN | ((with_reducible refine bel_set ?_ ?_); rotate_left; (simp <;> omega)) | (with_reducible refine bel_trans ?_ (by with_reducible assumption)))))⟩, by simp [intOf]; omega⟩
      · have hm8 : m = 8 := by omega
        have hm1 : ¬ (m : Int) < 8 := by omega
        have HO2 : Hid (wr.ownsRow w1.heap.size 3 1 (.slice B q cq) q (vI (motV n rows))) := by show wr.ownsRow _ _ _ _ _ _; rw [HV.out, HME.out, ← hm8]; exact HO.out
        clear hm8
        go_wp2
        go_ret
        exact ⟨_, _, _, rfl, own_mono3 HO2.out hsz, (by (repeat (first | with_reducible exact Below.refl _ _ | with_reducible assumption | with_reducible apply bel_alloc | with_reducible apply bel_drew | with_reducible apply bel_drewN | ((with_reducible refine bel_set ?_ ?_); rotate_left; (simp <;> omega)) | (with_reducible refine bel_trans ?_ (by with_reducible assumption)))))⟩
end Go.Proofs.YtoedmmhiinhljaaGreatDoor
